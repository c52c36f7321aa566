/- Walks: member, single of the document's own reader. -/
import Derived.Test.YtfblkahjefdmaaaGreatQa
import Derived.Deep.RegionHeld3
import Derived.Test.YtfblkahjefdmaaaGreatPureA
namespace Go.Proofs.YtfblkahjefdmaaaGreat
open Go.RowKit

namespace RX
theorem sign_lower {c : Int} {l : List Int} (h : sortR (lower c) = some l) : signR c = none := by
  have hc : c = 100 ∨ c = 119 ∨ c = 115 ∨ c = 68 ∨ c = 87 ∨ c = 83 := by
    by_cases h6 : c = 100 ∨ c = 119 ∨ c = 115 ∨ c = 68 ∨ c = 87 ∨ c = 83
    · exact h6
    · simp only [not_or] at h6
      rw [sort_six (lower_six ⟨h6.1, h6.2.1, h6.2.2.1, h6.2.2.2.1, h6.2.2.2.2.1, h6.2.2.2.2.2⟩)] at h
      cases h
  rcases hc with rfl | rfl | rfl | rfl | rfl | rfl <;> decide
theorem sort_three {c : Int} {l : List Int} (h : sortR c = some l) : (c = 100 ∧ l = [48, 57]) ∨ (c = 119 ∧ l = [97, 122, 65, 90, 48, 57, 95, 95]) ∨ (c = 115 ∧ l = [32, 32, 9, 9, 10, 10]) := by
  unfold sortR at h
  split at h
  · rename_i hc; injection h with h; exact .inl ⟨hc, h.symm⟩
  split at h
  · rename_i hc; injection h with h; exact .inr (.inl ⟨hc, h.symm⟩)
  split at h
  · rename_i hc; injection h with h; exact .inr (.inr ⟨hc, h.symm⟩)
  · cases h
theorem behind_bad {c : Int} (h1 : sortR c = none) (h2 : signR c = none) : (behindM c).2 = true := by
  unfold behindM
  rw [h1]
  simp only
  rcases h3 : sortR (lower c) with _ | l
  · simp only [h2]
  · rfl
theorem behind_sign {c x : Int} (h1 : sortR c = none) (h2 : signR c = some x) : behindM c = ([x, x], false) := by
  unfold behindM
  rw [h1]
  simp only
  rcases h3 : sortR (lower c) with _ | l
  · simp only [h2]
  · rw [sign_lower h3] at h2; cases h2
theorem behind_sort {c : Int} {l : List Int} (h1 : sortR c = some l) : behindM c = (l, false) := by
  unfold behindM
  rw [h1]
/-- The ranges of a member of a class. -/
def memSet (m : Int × Option (List Int) × St) : List Int := match m.2.1 with
  | some l => l
  | none => [m.1, m.1]
/-- Does a member of one sign begin at a place? -/
def singleM (s : List Int) (k : Nat) : Bool := match s[k]? with
  | none => false
  | some c => decide (c ≠ 93) && (decide (c ≠ 92) || (signR ((s[k + 1]?).getD (-1))).isSome)
end RX
/-- A state where something is wrong, as another one tells it. -/
structure Badly (st stf st2 : RX.St) (n : Nat) : Prop where
  code : st2.code = stf.code
  bat : st2.bat = stf.bat
  hi : st2.at_ ≤ n
  op : st2.op = st.op
theorem Badly.ok {st stf st2 : RX.St} {n : Nat} (h : Badly st stf st2 n) : st2.ok = stf.ok := by unfold RX.St.ok; rw [h.code]
/-- What member returns. -/
def MeP (s : List Int) (st : RX.St) (rb : Nat) (sv : Value) (w : World) (e : Ending) (w' : World) : Prop :=
  Only w w' rb ∧ (((RX.member s st).2.2.ok = true ∧ ∃ v, e = .returned (.tuple #[v, .bool (RX.member s st).2.1.isNone]) ∧ SlB 21 1 Cc w.heap.size w' v (RX.memSet (RX.member s st)) ∧ QS rb sv w' (RX.member s st).2.2) ∨
    ((RX.member s st).2.2.ok = false ∧ e = .returned (.tuple #[.slice none 0 0, .bool false]) ∧ ∃ st2, QS rb sv w' st2 ∧ Badly st (RX.member s st).2.2 st2 (st.at_ + 2)))
theorem nxt_pos {s : List Int} (hp : ∀ x ∈ s, 0 ≤ x) (st : RX.St) (k : Nat) : RX.nxt s st k = -1 ∨ 0 ≤ RX.nxt s st k := by
  unfold RX.nxt
  rcases hx : s[st.at_ + k]? with _ | x
  · exact .inl rfl
  · exact .inr (hp x (List.mem_of_getElem? hx))
theorem two_at {B : Nat} {w : World} {A : Option Addr} {n c : Nat} {a b : Int} (h : SlB 21 1 Cc B w (.slice A n c) [a, b]) : ∃ g o, A = some ⟨g, o, none⟩ ∧ w.cell? ⟨g, o, none⟩ = some (.int .i32 a) ∧ w.cell? ⟨g, o + 1, none⟩ = some (.int .i32 b) := by
  obtain ⟨g, o, hA, h0⟩ := SlC.at_ (SlB.slc h) (k := 0) (by simp)
  obtain ⟨g', o', hA', h1⟩ := SlC.at_ (SlB.slc h) (k := 1) (by simp)
  rw [hA] at hA'
  injection hA' with hA'
  injection hA' with e1 e2 _
  subst e1 e2
  exact ⟨g, o, hA, h0, h1⟩
section
variable {w0 : World} {rb : Nat} {sv : Value} {s : List Int}
set_option maxRecDepth 100000 in
set_option maxHeartbeats 2000000 in
theorem qmember_any (w1 : World) (st : RX.St) (he : Qn w0 rb sv s w1 st) (hok : st.ok = true) (ha1 : st.at_ ≤ 1000) :
    Calls Tryz.prog 99 #[.pointer (some ⟨rb, 0, none⟩)] w1 (MeP s st rb sv w1) := by
  have HQ1 := Lib.hid he
  have HO1 := Lib.hid (Only.refl w1 rb)
  have HOK := Lib.hid hok
  obtain ⟨c, hc⟩ : ∃ c, RX.nxt s st 0 = c := ⟨_, rfl⟩
  have HN := Lib.hid hc
  have hcn := nxt_pos he.pos st 0
  rw [hc] at hcn
  have c1 := he.blk.c1
  obtain ⟨m, hm⟩ : ∃ m, RX.member s st = m := ⟨_, rfl⟩
  have HM := Lib.hid hm
  unfold MeP
  rw [hm]
  have hmm : m = if c = -1 ∨ c = 93 then (0, none, st.fail 5 st.at_)
      else if c = 92 then (if RX.sortR (RX.nxt s (st.bump 1) 0) = none ∧ RX.signR (RX.nxt s (st.bump 1) 0) = none then (0, none, (st.bump 1).fail 5 (st.bump 1).at_) else ((RX.signR (RX.nxt s (st.bump 1) 0)).getD 0, RX.sortR (RX.nxt s (st.bump 1) 0), (st.bump 1).bump 1))
      else (c, none, st.bump 1) := by
    rw [← hm, ← hc]; rfl
  clear he hc hok hm
  go_enter Tryz.func99, Tryz.ntmps99
  go_wp2_with fail
  go_region_held3 (fun w' => w'.cell? ⟨rb, 1, none⟩ = some (.int .i64 (st.at_ : Int))) (first | go_keep | assumption)
    (first | (go_at_call 63; go_loud (refine (qnext_any _ st (Qn.ex HQ1.out (by first | exact Ext.refl _ | exact (Ext.refl _).drewN _ | exact (Ext.refl _).drew))).mono ?_); go_loud (rw [HN.out]; rintro e w2 ⟨rfl, hx⟩; have hx2 := Ext.trans (show Ext w1 _ from (by first | exact Ext.refl _ | exact (Ext.refl _).drewN _ | exact (Ext.refl _).drew)) hx; have HQ2 := Lib.hid (Qn.ex HQ1.out hx2); have HO2 := Lib.hid (Only.trans HO1.out (Only.of_ext hx2 rb)); have c1 := HQ2.out.blk.c1; clear hx hx2)))
  clear c1
  by_cases h92 : c = 92
  · subst h92
    obtain ⟨d, hd⟩ : ∃ d, RX.nxt s (st.bump 1) 0 = d := ⟨_, rfl⟩
    rw [if_neg (by omega), if_pos rfl, hd] at hmm
    have HD := Lib.hid hd
    clear hd hcn
    have HBE := Lib.hid (fun w h => qbehind_any (w0 := w0) (rb := rb) (sv := sv) (s := s) w st h ha1)
    rw [HD.out] at HBE
    have hbump : (st.bump 1).at_ = st.at_ + 1 := rfl
    by_cases hbad : RX.sortR d = none ∧ RX.signR d = none
    · have hb2 := RX.behind_bad hbad.1 hbad.2
      rw [if_pos hbad] at hmm
      have HB2 := Lib.hid hb2
      have HMM := Lib.hid hmm
      clear hb2 hmm hbad
      go_wp2_with (first
        | (go_at_call 91; go_loud (refine (HBE.out _ HQ2.out).mono ?_; rintro e w3 ⟨v, rfl, hv, hq, ho⟩; rw [HB2.out]; have HQ3 := Lib.hid (Qn.step HQ2.out ho hq); have HO3 := Lib.hid (Only.trans HO2.out ho); obtain ⟨Av, cv, rfl, -⟩ := hv.form; clear hv hq ho))
        | (go_at_call 44; go_loud (refine (qbad_any _ _ 5 ((st.at_ : Int) + 1) HQ3.out).mono ?_; rintro e w4 ⟨rfl, hq, ho⟩; have HQ4 := Lib.hid (Qn.step HQ3.out ho hq); have HO4 := Lib.hid (Only.trans HO3.out ho); have HP4 := Lib.hid ho; clear hq ho)))
      go_ret2
      have hb4 := HQ4.out.blk
      refine ⟨HO4.out, .inr ⟨by rw [HMM.out]; exact RX.St.fail_ok _ (by decide), rfl, _, hb4, ?_⟩⟩
      rw [HMM.out]
      have h0 : st.code = 0 := by have := HOK.out; unfold RX.St.ok at this; exact beq_iff_eq.1 this
      exact ⟨by simp [RX.St.fail, RX.St.bump, h0], by simp [RX.St.fail, RX.St.bump, h0], by rw [RX.St.fail_at]; exact Nat.le_refl _, by rw [RX.St.fail_op]; rfl⟩
    · rw [if_neg hbad] at hmm
      have hok2 : m.2.2.ok = true := by rw [hmm]; exact HOK.out
      have HOK2 := Lib.hid hok2
      have hst : m.2.2 = st.bump 2 := by rw [hmm]; rfl
      have HST := Lib.hid hst
      rcases hs : RX.sortR d with _ | l
      · rcases hg : RX.signR d with _ | x
        · exact absurd ⟨hs, hg⟩ hbad
        have hbx := RX.behind_sign hs hg
        have HR := Lib.hid (show m.2.1 = none ∧ RX.memSet m = [x, x] by rw [hmm]; unfold RX.memSet; rw [hs, hg]; exact ⟨rfl, rfl⟩)
        have HBX := Lib.hid hbx
        clear hmm hbad hok2 hst hs hg hbx
        go_wp2_with (go_at_call 91; go_loud (refine (HBE.out _ HQ2.out).mono ?_; rintro e w3 ⟨v, rfl, hv, hq, ho⟩; rw [HBX.out] at hv ⊢; have HQ3 := Lib.hid (Qn.step HQ2.out ho hq); have HO3 := Lib.hid (Only.trans HO2.out ho); have HV3 := Lib.hid (SlB.weaken hv HO2.out.size); obtain ⟨Av, cv, rfl, -⟩ := hv.form; obtain ⟨g, og, rfl, q0, q1⟩ := two_at hv; clear hv hq ho))
        go_quiet (fail)
        go_wp2_with fail
        go_ret2
        refine ⟨HO3.out.trans (Only.of_ext (by first | exact (Ext.refl _).drewN _ | exact Ext.refl _) rb), .inl ⟨HOK2.out, _, by rw [HR.out.1]; rfl, by rw [HR.out.2]; exact HV3.out.keep (keeps_c []) (KeepT.of_ext (by first | exact (Ext.refl _).drewN _ | exact Ext.refl _)) (KeepT.of_ext (by first | exact (Ext.refl _).drewN _ | exact Ext.refl _)), by rw [HST.out]; exact HQ3.out.blk⟩⟩
      · have hbx := RX.behind_sort hs
        have HR := Lib.hid (show m.2.1.isNone = false ∧ RX.memSet m = l by rw [hmm]; unfold RX.memSet; rw [hs]; exact ⟨rfl, rfl⟩)
        have h3 := RX.sort_three hs
        have HBX := Lib.hid hbx
        clear hmm hbad hok2 hst hs hbx
        rcases h3 with ⟨-, rfl⟩ | ⟨-, rfl⟩ | ⟨-, rfl⟩
        · go_wp2_with (go_at_call 91; go_loud (refine (HBE.out _ HQ2.out).mono ?_; rintro e w3 ⟨v, rfl, hv, hq, ho⟩; rw [HBX.out] at hv ⊢; have HQ3 := Lib.hid (Qn.step HQ2.out ho hq); have HO3 := Lib.hid (Only.trans HO2.out ho); have HV3 := Lib.hid (SlB.weaken hv HO2.out.size); obtain ⟨Av, cv, rfl, -⟩ := hv.form; obtain ⟨g, og, rfl, q0, q1⟩ := two_at hv; clear hv hq ho))
          go_quiet (fail)
          go_wp2_with fail
          go_ret2
          refine ⟨HO3.out.trans (Only.of_ext (by first | exact (Ext.refl _).drewN _ | exact Ext.refl _) rb), .inl ⟨HOK2.out, _, by rw [HR.out.1]; rfl, by rw [HR.out.2]; exact HV3.out.keep (keeps_c []) (KeepT.of_ext (by first | exact (Ext.refl _).drewN _ | exact Ext.refl _)) (KeepT.of_ext (by first | exact (Ext.refl _).drewN _ | exact Ext.refl _)), by rw [HST.out]; exact HQ3.out.blk⟩⟩
        · go_wp2_with (go_at_call 91; go_loud (refine (HBE.out _ HQ2.out).mono ?_; rintro e w3 ⟨v, rfl, hv, hq, ho⟩; rw [HBX.out] at hv ⊢; have HQ3 := Lib.hid (Qn.step HQ2.out ho hq); have HO3 := Lib.hid (Only.trans HO2.out ho); have HV3 := Lib.hid (SlB.weaken hv HO2.out.size); obtain ⟨Av, cv, rfl, -⟩ := hv.form; clear hv hq ho))
          go_quiet (fail)
          go_wp2_with fail
          go_ret2
          refine ⟨HO3.out.trans (Only.of_ext (by first | exact (Ext.refl _).drewN _ | exact Ext.refl _) rb), .inl ⟨HOK2.out, _, by rw [HR.out.1]; rfl, by rw [HR.out.2]; exact HV3.out.keep (keeps_c []) (KeepT.of_ext (by first | exact (Ext.refl _).drewN _ | exact Ext.refl _)) (KeepT.of_ext (by first | exact (Ext.refl _).drewN _ | exact Ext.refl _)), by rw [HST.out]; exact HQ3.out.blk⟩⟩
        · go_wp2_with (go_at_call 91; go_loud (refine (HBE.out _ HQ2.out).mono ?_; rintro e w3 ⟨v, rfl, hv, hq, ho⟩; rw [HBX.out] at hv ⊢; have HQ3 := Lib.hid (Qn.step HQ2.out ho hq); have HO3 := Lib.hid (Only.trans HO2.out ho); have HV3 := Lib.hid (SlB.weaken hv HO2.out.size); obtain ⟨Av, cv, rfl, -⟩ := hv.form; clear hv hq ho))
          go_quiet (fail)
          go_wp2_with fail
          go_ret2
          refine ⟨HO3.out.trans (Only.of_ext (by first | exact (Ext.refl _).drewN _ | exact Ext.refl _) rb), .inl ⟨HOK2.out, _, by rw [HR.out.1]; rfl, by rw [HR.out.2]; exact HV3.out.keep (keeps_c []) (KeepT.of_ext (by first | exact (Ext.refl _).drewN _ | exact Ext.refl _)) (KeepT.of_ext (by first | exact (Ext.refl _).drewN _ | exact Ext.refl _)), by rw [HST.out]; exact HQ3.out.blk⟩⟩
  · have b92 : (c == 92) = false := by simpa using h92
    by_cases hbad : c = -1 ∨ c = 93
    · rw [if_pos hbad] at hmm
      have HMM := Lib.hid hmm
      clear hmm h92
      rcases hbad with rfl | rfl
      all_goals
        clear hcn
        go_wp2_with (go_at_call 44; go_loud (refine (qbad_any _ _ 5 (st.at_ : Int) HQ2.out).mono ?_; rintro e w3 ⟨rfl, hq, ho⟩; have HQ3 := Lib.hid (Qn.step HQ2.out ho hq); have HO3 := Lib.hid (Only.trans HO2.out ho); have HP3 := Lib.hid ho; clear hq ho))
        go_ret2
        have hb4 := HQ3.out.blk
        refine ⟨HO3.out, .inr ⟨by rw [HMM.out]; exact RX.St.fail_ok _ (by decide), rfl, _, hb4, ?_⟩⟩
        rw [HMM.out]
        exact ⟨rfl, rfl, by rw [RX.St.fail_at]; omega, RX.St.fail_op _ _ _⟩
    · rw [if_neg hbad, if_neg h92] at hmm
      have h93 : (c == 93) = false := by simp; omega
      have hneg : decide (c < 0) = false := decide_eq_false (by omega)
      have HMM := Lib.hid hmm
      have HOK2 := Lib.hid (show m.2.2.ok = true by rw [hmm]; exact HOK.out)
      clear hmm h92 hbad hcn
      have c1 := HQ2.out.blk.c1
      have f1 := HQ2.out.blk.fr 1
      go_upto_region 12 with fail
      have HQ3 := Lib.hid (Qn.bump1 HQ2.out)
      have HO3 := Lib.hid (Only.trans HO2.out ((Only.refl w2 rb).set (o := 1) (.int .i64 ((st.at_ : Int) + 1))))
      generalize w2.setCell _ _ = w3 at HQ3 HO3 ⊢
      clear c1 f1
      go_wp2_with fail
      go_ret2
      refine ⟨HO3.out.alloc _, .inl ⟨HOK2.out, _, by rw [HMM.out]; rfl, ?_, ?_⟩⟩
      · rw [HMM.out]
        exact c_lit w3 [c, c] _ _ rfl rfl HO3.out.size (by simp)
      · rw [HMM.out]
        exact ((Ext.refl w3).alloc _).heap HQ3.out.blk
set_option maxRecDepth 100000 in
set_option maxHeartbeats 2000000 in
theorem qsingle_any (w1 : World) (st : RX.St) (he : Qn w0 rb sv s w1 st) (k : Nat) (hk : k ≤ 1000) :
    Calls Tryz.prog 100 #[.pointer (some ⟨rb, 0, none⟩), .int .i64 (k : Int)] w1 (RetE (.bool (RX.singleM s k)) w1) := by
  have HQ1 := Lib.hid he
  have c0 := he.blk.c0
  have HS := Lib.hid (he.sl.ext he.ext)
  have hl60 := he.len
  obtain ⟨A, ca, rfl, hlx, hcx, _⟩ := he.sl
  by_cases hlt : k < s.length
  rotate_left
  · have HV := Lib.hid (show RX.singleM s k = false by unfold RX.singleM; rw [List.getElem?_eq_none (by omega)])
    have hd : decide ((s.length : Int) ≤ (k : Int)) = true := decide_eq_true (by omega)
    clear he
    go_enter Tryz.func100, Tryz.ntmps100
    go_wp2_with fail
    go_ret
    exact ⟨ret_congr (by rw [HV.out]; rfl), Ext.refl _⟩
  have hd : decide ((s.length : Int) ≤ (k : Int)) = false := decide_eq_false (by omega)
  have hki : (k : Int) < (s.length : Int) := by omega
  obtain ⟨b, og, rfl, hc⟩ := HS.out.at_ (k := k) hlt
  have hsm : RX.singleM s k = (decide (s[k] ≠ 93) && (decide (s[k] ≠ 92) || (RX.signR ((s[k + 1]?).getD (-1))).isSome)) := by unfold RX.singleM; rw [List.getElem?_eq_getElem hlt]
  generalize s[k] = x at hc hsm
  by_cases h93 : x = 93
  · subst h93
    have HV := Lib.hid (show RX.singleM s k = false by rw [hsm]; rfl)
    clear he hsm
    go_enter Tryz.func100, Tryz.ntmps100
    go_wp2_with fail
    go_ret
    exact ⟨ret_congr (by rw [HV.out]; rfl), Ext.refl _⟩
  have b93 : (x == 93) = false := by simpa using h93
  by_cases h92 : x = 92
  rotate_left
  · have HV := Lib.hid (show RX.singleM s k = true by rw [hsm]; simp [h93, h92])
    have b92 : (x != 92) = true := by simpa using h92
    clear he hsm h92 h93
    go_enter Tryz.func100, Tryz.ntmps100
    go_wp2_with fail
    go_ret
    exact ⟨ret_congr (by rw [HV.out]; rfl), Ext.refl _⟩
  subst h92
  obtain ⟨d, hdd⟩ : ∃ d, (s[k + 1]?).getD (-1) = d := ⟨_, rfl⟩
  rw [hdd] at hsm
  have hnx : RX.nxt s (RX.St.bump ⟨k, 0, 0, 0, 0⟩ 1) 0 = d := by rw [← hdd]; rfl
  have hx2 := (Ext.refl w1).alloc (.cells #[.slice (some ⟨b, og, none⟩) s.length ca, .int .i64 (k : Int), .int .i64 0, .int .i64 0, .int .i64 0, .int .i64 0] 88)
  have HQ2 := Lib.hid (show Qn w0 w1.heap.size (.slice (some ⟨b, og, none⟩) s.length ca) s (w1.alloc (.cells #[.slice (some ⟨b, og, none⟩) s.length ca, .int .i64 (k : Int), .int .i64 0, .int .i64 0, .int .i64 0, .int .i64 0] 88)) ⟨k, 0, 0, 0, 0⟩ from
    ⟨he.sl, he.ext.size, he.len, he.pos, he.ext.trans hx2, heap_alloc_new w1 _⟩)
  have HX2 := Lib.hid hx2
  have HBE := Lib.hid (fun w h => qbehind_any (w0 := w0) (rb := w1.heap.size) (sv := .slice (some ⟨b, og, none⟩) s.length ca) (s := s) w ⟨k, 0, 0, 0, 0⟩ h hk)
  rw [hnx] at HBE
  have HSM := Lib.hid hsm
  clear he hsm h93 hnx hdd hx2
  have hb2 : RX.singleM s k = (RX.signR d).isSome := by rw [HSM.out]; rfl
  have HB2 := Lib.hid hb2
  clear hb2
  rcases hs : RX.sortR d with _ | l
  · rcases hg : RX.signR d with _ | y
    · have hbad := RX.behind_bad hs hg
      have HBD := Lib.hid hbad
      have HV := Lib.hid (show RX.singleM s k = false by rw [HB2.out, hg]; rfl)
      clear hs hg hbad
      go_enter Tryz.func100, Tryz.ntmps100
      go_wp2_with (go_at_call 91; go_loud (refine (HBE.out _ HQ2.out).mono ?_; rintro e w3 ⟨v, rfl, hv, hq, ho⟩; rw [HBD.out]; have HX3 := Lib.hid (Ext.only HX2.out ho (Nat.le_refl _)); obtain ⟨Av, cv, rfl, -⟩ := hv.form; clear hv hq ho))
      go_quiet (fail)
      go_wp2_with fail
      go_ret
      exact ⟨ret_congr (by rw [HV.out]; rfl), HX3.out.trans (by first | exact (Ext.refl _).drewN _ | exact Ext.refl _)⟩
    · have hbx := RX.behind_sign hs hg
      have HBX := Lib.hid hbx
      have HV := Lib.hid (show RX.singleM s k = true by rw [HB2.out, hg]; rfl)
      clear hs hg hbx
      go_enter Tryz.func100, Tryz.ntmps100
      go_wp2_with (go_at_call 91; go_loud (refine (HBE.out _ HQ2.out).mono ?_; rintro e w3 ⟨v, rfl, hv, hq, ho⟩; rw [HBX.out] at hv ⊢; have HX3 := Lib.hid (Ext.only HX2.out ho (Nat.le_refl _)); obtain ⟨Av, cv, rfl, -⟩ := hv.form; obtain ⟨g, og2, rfl, q0, q1⟩ := two_at hv; clear hv hq ho))
      go_quiet (fail)
      go_wp2_with fail
      go_ret
      exact ⟨ret_congr (by rw [HV.out]; simp), HX3.out.trans (by first | exact (Ext.refl _).drewN _ | exact Ext.refl _)⟩
  · have hbx := RX.behind_sort hs
    have h3 := RX.sort_three hs
    have HBX := Lib.hid hbx
    have hg : RX.signR d = none := by rcases h3 with ⟨rfl, -⟩ | ⟨rfl, -⟩ | ⟨rfl, -⟩ <;> decide
    have HV := Lib.hid (show RX.singleM s k = false by rw [HB2.out, hg]; rfl)
    clear hs hbx hg
    rcases h3 with ⟨-, rfl⟩ | ⟨-, rfl⟩ | ⟨-, rfl⟩
    · go_enter Tryz.func100, Tryz.ntmps100
      go_wp2_with (go_at_call 91; go_loud (refine (HBE.out _ HQ2.out).mono ?_; rintro e w3 ⟨v, rfl, hv, hq, ho⟩; rw [HBX.out] at hv ⊢; have HX3 := Lib.hid (Ext.only HX2.out ho (Nat.le_refl _)); obtain ⟨Av, cv, rfl, -⟩ := hv.form; obtain ⟨g, og2, rfl, q0, q1⟩ := two_at hv; clear hv hq ho))
      go_quiet (fail)
      go_wp2_with fail
      go_ret
      exact ⟨ret_congr (by rw [HV.out]; rfl), HX3.out.trans (by first | exact (Ext.refl _).drewN _ | exact Ext.refl _)⟩
    · go_enter Tryz.func100, Tryz.ntmps100
      go_wp2_with (go_at_call 91; go_loud (refine (HBE.out _ HQ2.out).mono ?_; rintro e w3 ⟨v, rfl, hv, hq, ho⟩; rw [HBX.out] at hv ⊢; have HX3 := Lib.hid (Ext.only HX2.out ho (Nat.le_refl _)); obtain ⟨Av, cv, rfl, -⟩ := hv.form; clear hv hq ho))
      go_quiet (fail)
      go_wp2_with fail
      go_ret
      exact ⟨ret_congr (by rw [HV.out]; rfl), HX3.out.trans (by first | exact (Ext.refl _).drewN _ | exact Ext.refl _)⟩
    · go_enter Tryz.func100, Tryz.ntmps100
      go_wp2_with (go_at_call 91; go_loud (refine (HBE.out _ HQ2.out).mono ?_; rintro e w3 ⟨v, rfl, hv, hq, ho⟩; rw [HBX.out] at hv ⊢; have HX3 := Lib.hid (Ext.only HX2.out ho (Nat.le_refl _)); obtain ⟨Av, cv, rfl, -⟩ := hv.form; clear hv hq ho))
      go_quiet (fail)
      go_wp2_with fail
      go_ret
      exact ⟨ret_congr (by rw [HV.out]; rfl), HX3.out.trans (by first | exact (Ext.refl _).drewN _ | exact Ext.refl _)⟩
end
end Go.Proofs.YtfblkahjefdmaaaGreat

/- Walks: class of the document's own reader; its rounds in plain law. -/
namespace Go.Proofs.YtfblkahjefdmaaaGreat
open Go.RowKit

namespace RX
/-- A round of the reader's class: in step with the elder one; or something is wrong, and known; or it will be wrong, two places or one further on. -/
inductive Cls (s : List Int) (R : List Int × St) : St → List Int → Bool → Prop
  | sync (k : Nat) (st : St) (set : List Int) : st.ok = true → classLoop s k st set = R → s.length + 1 ≤ k + st.at_ → st.at_ ≤ s.length → st.caps ≤ 9 → Cls s R st set set.isEmpty
  | fail (st : St) (set : List Int) (b : Bool) : st.ok = false → st.code = R.2.code → st.bat = R.2.bat → Cls s R st set b
  | doom1 (st : St) (set : List Int) : st.ok = true → s[st.at_]? = some 45 → s[st.at_ + 1]? = some 92 → sortR ((s[st.at_ + 2]?).getD (-1)) = none → signR ((s[st.at_ + 2]?).getD (-1)) = none → R.2.code = 5 → R.2.bat = (st.at_ + 2 : Nat) → st.caps ≤ 9 → Cls s R st set false
  | doom2 (st : St) (set : List Int) : st.ok = true → s[st.at_]? = some 92 → sortR ((s[st.at_ + 1]?).getD (-1)) = none → signR ((s[st.at_ + 1]?).getD (-1)) = none → R.2.code = 5 → R.2.bat = (st.at_ + 1 : Nat) → st.caps ≤ 9 → Cls s R st set false
section
variable {s : List Int} {R : List Int × St} {st : St} {set : List Int} {b : Bool}
theorem nxt_at {x : Int} {k : Nat} (h : s[st.at_ + k]? = some x) : nxt s st k = x := by unfold nxt; rw [h]; rfl
theorem at_nxt {x : Int} {k : Nat} (h : nxt s st k = x) (hx : x ≠ -1) : s[st.at_ + k]? = some x := by
  unfold nxt at h
  rcases hs : s[st.at_ + k]? with _ | y
  · rw [hs] at h; exact absurd h.symm hx
  · rw [hs] at h; exact congrArg some h
theorem member_none {h : (member s st).2.2.ok = false} (hok : st.ok = true) : (member s st).2.1 = none := by
  unfold member at h ⊢
  simp only at h ⊢
  split
  · rfl
  · rename_i h1
    rw [if_neg h1] at h
    split
    · rename_i h2
      rw [if_pos h2] at h
      split
      · rfl
      · rename_i h3
        rw [if_neg h3] at h
        have h : st.ok = false := h
        rw [hok] at h; cases h
    · rfl
theorem Cls.hi (h : Cls s R st set b) (hok : st.ok = true) : st.at_ ≤ s.length ∧ st.caps ≤ 9 := by
  cases h with
  | sync k _ _ h1 h2 h3 h4 h5 => exact ⟨h4, h5⟩
  | fail _ _ _ h1 => rw [hok] at h1; cases h1
  | doom1 _ _ h1 h2 h3 h4 h5 h6 h7 h8 => exact ⟨Nat.le_of_lt (List.getElem?_eq_some_iff.1 h2).1, h8⟩
  | doom2 _ _ h1 h2 h3 h4 h5 h6 h7 => exact ⟨Nat.le_of_lt (List.getElem?_eq_some_iff.1 h2).1, h7⟩
theorem Cls.exit (h : Cls s R st set false) (hok : st.ok = true) (h93 : nxt s st 0 = 93) : R = (set, st) := by
  generalize hb : false = b at h
  cases h with
  | sync k _ _ h1 h2 h3 h4 h5 =>
    rw [← h2]
    exact classLoop_off (by rw [← hb, h93]; simp)
  | fail _ _ _ h1 => rw [hok] at h1; cases h1
  | doom1 _ _ h1 h2 => rw [nxt_at (k := 0) h2] at h93; cases h93
  | doom2 _ _ h1 h2 => rw [nxt_at (k := 0) h2] at h93; cases h93
theorem member_92 (h : s[st.at_]? = some 92) (h1 : sortR ((s[st.at_ + 1]?).getD (-1)) = none) (h2 : signR ((s[st.at_ + 1]?).getD (-1)) = none) : member s st = (0, none, (st.bump 1).fail 5 (st.at_ + 1 : Nat)) := by
  have hn : nxt s st 0 = 92 := nxt_at (k := 0) h
  have hd : nxt s (st.bump 1) 0 = (s[st.at_ + 1]?).getD (-1) := rfl
  unfold member
  simp only
  rw [hn, if_neg (by decide), if_pos rfl, hd, if_pos ⟨h1, h2⟩]
  rfl
theorem member_45 (h : s[st.at_]? = some 45) : member s st = (45, none, st.bump 1) := by
  have hn : nxt s st 0 = 45 := nxt_at (k := 0) h
  unfold member
  simp only
  rw [hn, if_neg (by decide), if_neg (by decide)]
theorem Cls.bad (h : Cls s R st set b) (hok : st.ok = true) (hin : b = true ∨ nxt s st 0 ≠ 93) (hm : (member s st).2.2.ok = false) : R.2.ok = false ∧ R.2.code = (member s st).2.2.code ∧ R.2.bat = (member s st).2.2.bat := by
  cases h with
  | sync k _ _ h1 h2 h3 h4 h5 =>
    obtain ⟨k, rfl⟩ : ∃ j, k = j + 1 := ⟨k - 1, by omega⟩
    rw [classLoop_on (by rw [hok]; rcases hin with hin | hin <;> simp [hin])] at h2
    have hnone := member_none (h := hm) hok
    have hre : rangeEnd s st = ((member s st).1, (member s st).2.2) := by unfold rangeEnd; rw [hm]; rfl
    rw [classRound_one hnone, hre] at h2
    simp only [hm, Bool.false_eq_true, false_and, if_false] at h2
    rw [classLoop_off (by rw [hm]; rfl)] at h2
    rw [← h2]
    exact ⟨hm, rfl, rfl⟩
  | fail _ _ _ h1 => rw [hok] at h1; cases h1
  | doom1 _ _ h1 h2 =>
    rw [member_45 h2] at hm
    have hm : st.ok = false := hm
    rw [hok] at hm; cases hm
  | doom2 _ _ h1 h2 h3 h4 h5 h6 =>
    have h0 : st.code = 0 := by unfold St.ok at hok; exact beq_iff_eq.1 hok
    rw [member_92 h2 h3 h4]
    refine ⟨by unfold St.ok; rw [h5]; rfl, ?_, ?_⟩
    · rw [h5]; simp [St.fail, St.bump, h0]
    · rw [h6]; simp [St.fail, St.bump, h0]
theorem single_sign {k : Nat} (h : singleM s k = true) : ∃ c, s[k]? = some c ∧ c ≠ 93 ∧ (c = 92 → (signR ((s[k + 1]?).getD (-1))).isSome = true) := by
  unfold singleM at h
  split at h
  · cases h
  · rename_i c hc
    simp only [Bool.and_eq_true, Bool.or_eq_true, decide_eq_true_eq] at h
    exact ⟨c, hc, h.1, fun h92 => h.2.resolve_left (fun h2 => h2 h92)⟩
theorem sign_sort {c x : Int} (h : signR c = some x) : sortR c = none := by
  rcases hs : sortR c with _ | l
  · rfl
  · rcases sort_three hs with ⟨rfl, -⟩ | ⟨rfl, -⟩ | ⟨rfl, -⟩ <;> (exfalso; revert h; decide +revert)
/-- A single member stands at a place. -/
theorem member_single (hok : st.ok = true) (hp : ∀ x ∈ s, 0 ≤ x) (h : singleM s st.at_ = true) : (member s st).2.2.ok = true ∧ (member s st).2.1 = none := by
  obtain ⟨c, hc, h93, h92⟩ := single_sign h
  have hn : nxt s st 0 = c := nxt_at (k := 0) hc
  have hc0 := hp c (List.mem_of_getElem? hc)
  unfold member
  simp only
  rw [hn, if_neg (by omega)]
  by_cases h2 : c = 92
  · have hd : nxt s (st.bump 1) 0 = (s[st.at_ + 1]?).getD (-1) := rfl
    obtain ⟨x, hx⟩ := Option.isSome_iff_exists.1 (h92 h2)
    rw [if_pos h2, hd, if_neg (by rw [hx]; simp)]
    exact ⟨hok, sign_sort hx⟩
  · rw [if_neg h2]
    exact ⟨hok, rfl⟩
theorem ranged_single (hp : ∀ x ∈ s, 0 ≤ x) (h : singleM s (st.at_ + 1) = true) (h45 : nxt s st 0 = 45) : ranged s st = true := by
  obtain ⟨c, hc, h93, h92⟩ := single_sign h
  have hn : nxt s st 1 = c := nxt_at (k := 1) hc
  have hc0 := hp c (List.mem_of_getElem? hc)
  unfold ranged
  rw [if_pos h45]
  simp only
  rw [hn]
  have hc1 : c ≠ -1 := by omega
  by_cases h2 : c = 92
  · obtain ⟨x, hx⟩ := Option.isSome_iff_exists.1 (h92 h2)
    have hd : nxt s st 2 = (s[st.at_ + 1 + 1]?).getD (-1) := rfl
    rw [hd, sign_sort hx]
    simp [hc1, h93]
  · simp [hc1, h93, h2]
/-- Where a range seems to come, but no sign ends it: a backslash that is wrong. -/
theorem ranged_not (h : singleM s (st.at_ + 1) = false) (hr : ranged s st = true) : s[st.at_]? = some 45 ∧ s[st.at_ + 1]? = some 92 ∧ sortR ((s[st.at_ + 2]?).getD (-1)) = none ∧ signR ((s[st.at_ + 2]?).getD (-1)) = none := by
  unfold ranged at hr
  split at hr
  · rename_i h45
    simp only [Bool.and_eq_true, Bool.or_eq_true, decide_eq_true_eq] at hr
    obtain ⟨⟨h1, h93⟩, h92⟩ := hr
    have hc := at_nxt (k := 1) rfl h1
    unfold singleM at h
    rw [hc] at h
    simp only at h
    have hd : nxt s st 2 = (s[st.at_ + 1 + 1]?).getD (-1) := rfl
    rw [hd] at h92
    have h2 : nxt s st 1 = 92 := by
      rcases h92 with h92 | h92
      · exfalso
        rw [decide_eq_true h93, decide_eq_true h92] at h
        cases h
      · by_cases h2 : nxt s st 1 = 92
        · exact h2
        · rw [decide_eq_true h93, decide_eq_true h2] at h; cases h
    have h92 : (sortR ((s[st.at_ + 1 + 1]?).getD (-1))).isNone = true := h92.resolve_left (fun h3 => h3 h2)
    rw [h2] at h hc
    refine ⟨at_nxt (k := 0) h45 (by decide), hc, Option.isNone_iff_eq_none.1 h92, ?_⟩
    rcases hs : signR ((s[st.at_ + 2]?).getD (-1)) with _ | y
    · rfl
    · rw [show st.at_ + 1 + 1 = st.at_ + 2 from rfl, hs] at h; cases h
  · cases hr
theorem Cls.next1 (h : Cls s R st set b) (hok : st.ok = true) (hin : b = true ∨ nxt s st 0 ≠ 93) (hm : (member s st).2.2.ok = true)
    (hr : (member s st).2.1 = none → nxt s (member s st).2.2 0 = 45 → singleM s ((member s st).2.2.at_ + 1) = false) : Cls s R (member s st).2.2 (set ++ memSet (member s st)) false := by
  cases h with
  | sync k _ _ h1 h2 h3 h4 h5 =>
    obtain ⟨k, rfl⟩ : ∃ j, k = j + 1 := ⟨k - 1, by omega⟩
    rw [classLoop_on (by rw [hok]; rcases hin with hin | hin <;> simp [hin])] at h2
    have hf := member_fwd (s := s) h4 h5
    have hmore := member_more (s := s) hm
    have hemp : ∀ l : List Int, 0 < l.length → (set ++ l).isEmpty = false := fun l hl => by cases l with
      | nil => simp at hl
      | cons a t => simp
    rcases hone : (member s st).2.1 with _ | l
    · rcases hrg : ranged s (member s st).2.2 with _ | _
      · have hre : rangeEnd s st = ((member s st).1, (member s st).2.2) := by unfold rangeEnd; rw [hrg, Bool.and_false]; rfl
        rw [classRound_one hone, hre] at h2
        simp only [Int.lt_irrefl, and_false, if_false] at h2
        have hms : memSet (member s st) = [(member s st).1, (member s st).1] := by unfold memSet; rw [hone]
        rw [hms, ← hemp [(member s st).1, (member s st).1] (by simp)]
        exact .sync k _ _ hm h2 (by omega) (hf.okl hm) hf.caps9
      · obtain ⟨q1, q2, q3, q4⟩ := ranged_not (hr hone (by unfold ranged at hrg; split at hrg; assumption; cases hrg)) hrg
        have hre : rangeEnd s st = ((member s ((member s st).2.2.bump 1)).1, (member s ((member s st).2.2.bump 1)).2.2) := by unfold rangeEnd; rw [hrg, hm]; rfl
        have hm2 := member_92 (st := (member s st).2.2.bump 1) q2 q3 q4
        rw [classRound_one hone, hre, hm2] at h2
        have hnok : (((member s st).2.2.bump 1).bump 1 |>.fail 5 (((member s st).2.2.bump 1).at_ + 1 : Nat)).ok = false := St.fail_ok _ (by decide)
        simp only [hnok, Bool.false_eq_true, false_and, if_false] at h2
        rw [classLoop_off (by rw [hnok]; rfl)] at h2
        have h0 : (member s st).2.2.code = 0 := by unfold St.ok at hm; exact beq_iff_eq.1 hm
        refine .doom1 _ _ hm q1 q2 q3 q4 ?_ ?_ hf.caps9
        · rw [← h2]; simp [St.fail, St.bump, h0]
        · rw [← h2]; simp [St.fail, St.bump, h0]; omega
    · have hs := member_sort (s := s) hone
      rw [classRound_sort hone] at h2
      have hms : memSet (member s st) = l := by unfold memSet; rw [hone]
      rw [hms, ← hemp l (by omega)]
      exact .sync k _ _ hm h2 (by omega) (hf.okl hm) hf.caps9
  | fail _ _ _ h1 => rw [hok] at h1; cases h1
  | doom1 _ _ h1 h2 h3 h4 h5 h6 h7 h8 =>
    rw [member_45 h2]
    exact .doom2 _ _ hok h3 h4 h5 h6 h7 h8
  | doom2 _ _ h1 h2 h3 h4 =>
    rw [member_92 h2 h3 h4] at hm
    have := St.fail_ok (c := 5) (b := (st.at_ + 1 : Nat)) (st.bump 1) (by decide)
    rw [this] at hm; cases hm
theorem Cls.next2 (h : Cls s R st set b) (hp : ∀ x ∈ s, 0 ≤ x) (hok : st.ok = true) (hin : b = true ∨ nxt s st 0 ≠ 93) (hm : (member s st).2.2.ok = true) (hone : (member s st).2.1 = none) (h45 : nxt s (member s st).2.2 0 = 45) (hsg : singleM s ((member s st).2.2.at_ + 1) = true) :
    (¬ (member s ((member s st).2.2.bump 1)).1 < (member s st).1 → Cls s R (member s ((member s st).2.2.bump 1)).2.2 (set ++ [(member s st).1, (member s ((member s st).2.2.bump 1)).1]) false) ∧
    ((member s ((member s st).2.2.bump 1)).1 < (member s st).1 → R.2.code = 5 ∧ R.2.bat = st.at_) := by
  have hms := member_single (st := (member s st).2.2.bump 1) hm hp hsg
  cases h with
  | sync k _ _ h1 h2 h3 h4 h5 =>
    obtain ⟨k, rfl⟩ : ∃ j, k = j + 1 := ⟨k - 1, by omega⟩
    rw [classLoop_on (by rw [hok]; rcases hin with hin | hin <;> simp [hin])] at h2
    have hrg := ranged_single hp hsg h45
    have hre : rangeEnd s st = ((member s ((member s st).2.2.bump 1)).1, (member s ((member s st).2.2.bump 1)).2.2) := by unfold rangeEnd; rw [hrg, hm]; rfl
    have hf := rangeEnd_fwd (s := s) h4 h5
    have hmore := rangeEnd_more (s := s) h4 h5 (by rw [hre]; exact hms.1)
    rw [hre] at hf hmore
    rw [classRound_one hone, hre] at h2
    simp only [hms.1, true_and] at h2
    refine ⟨fun hlt => ?_, fun hlt => ?_⟩
    · rw [if_neg hlt] at h2
      have he : (set ++ [(member s st).1, (member s ((member s st).2.2.bump 1)).1]).isEmpty = false := by simp
      rw [← he]
      have hm2 : st.at_ + 1 ≤ (member s ((member s st).2.2.bump 1)).2.2.at_ := hmore
      exact .sync k _ _ hms.1 h2 (by omega) (hf.okl hms.1) hf.caps9
    · rw [if_pos hlt] at h2
      have h0 : (member s ((member s st).2.2.bump 1)).2.2.code = 0 := by have := hms.1; unfold St.ok at this; exact beq_iff_eq.1 this
      rw [classLoop_off (by rw [St.fail_ok _ (by decide)]; rfl)] at h2
      rw [← h2]
      exact ⟨by simp [St.fail, h0], by simp [St.fail, h0]⟩
  | fail _ _ _ h1 => rw [hok] at h1; cases h1
  | doom1 _ _ h1 h2 h3 =>
    rw [member_45 h2] at h45
    have : nxt s (st.bump 1) 0 = 92 := nxt_at (st := st.bump 1) (k := 0) h3
    rw [this] at h45; cases h45
  | doom2 _ _ h1 h2 h3 h4 =>
    rw [member_92 h2 h3 h4] at hm
    have := St.fail_ok (c := 5) (b := (st.at_ + 1 : Nat)) (st.bump 1) (by decide)
    rw [this] at hm; cases hm
theorem memSet_len (st : St) : (memSet (member s st)).length ≤ 8 := by
  unfold memSet
  rcases h : (member s st).2.1 with _ | l
  · simp
  · exact (member_sort (s := s) h).2.1
end
end RX
/-- What a method of the reader returns: as the elder reader where all is well; else the same fault. -/
structure QOut (R : List RX.ReN × RX.St) (st : RX.St) (K : Nat) (D : Int) (N : Nat) (l : List RX.ReN) (st2 : RX.St) : Prop where
  len : l.length ≤ K
  deep : ∀ x ∈ l, 0 ≤ x.deep ∧ x.deep ≤ D
  hi : st2.at_ ≤ N
  op : st2.op = st.op
  good : R.2.ok = true → l = R.1 ∧ st2 = R.2
  bad : R.2.ok = false → st2.code = R.2.code ∧ st2.bat = R.2.bat
theorem QOut.ok {R : List RX.ReN × RX.St} {st : RX.St} {K : Nat} {D : Int} {N : Nat} {l : List RX.ReN} {st2 : RX.St} (h : QOut R st K D N l st2) : st2.ok = R.2.ok := by
  rcases hk : R.2.ok with _ | _
  · have := (h.bad hk).1
    unfold RX.St.ok at hk ⊢
    rw [this]; exact hk
  · rw [(h.good hk).2]; exact hk
def QP (rb : Nat) (sv : Value) (w : World) (R : List RX.ReN × RX.St) (st : RX.St) (K : Nat) (D : Int) (N : Nat) (e : Ending) (w' : World) : Prop :=
  ∃ l v st2, e = .returned v ∧ SlRe w.heap.size w.heap.size w' v l ∧ QS rb sv w' st2 ∧ Only w w' rb ∧ QOut R st K D N l st2
/-- Inside of class: the reader; the set so far. -/
structure Qc (w0 : World) (rb : Nat) (sv : Value) (s : List Int) (w1 : World) (st : RX.St) (v : Value) (set : List Int) (wr : World) : Prop where
  q : Qn w0 rb sv s wr st
  only : Only w1 wr rb
  own : OwnB 21 1 Cc w1.heap.size wr v set
  lt : rb < w1.heap.size
section
variable {w0 w1 wr w' : World} {rb : Nat} {sv v v' : Value} {s : List Int} {st st' : RX.St} {set set' : List Int}
theorem Qc.call (h : Qc w0 rb sv s w1 st v set wr) (ho : Only wr w' rb) (hq : QS rb sv w' st') : Qc w0 rb sv s w1 st' v set w' := ⟨h.q.step ho hq, h.only.trans ho, h.own.low ho h.lt, h.lt⟩
theorem Qc.ex (h : Qc w0 rb sv s w1 st v set wr) (hx : Ext wr w') : Qc w0 rb sv s w1 st v set w' := h.call (Only.of_ext hx rb) (hx.heap h.q.blk)
theorem Qc.bump1 (h : Qc w0 rb sv s w1 st v set wr) : Qc w0 rb sv s w1 (st.bump 1) v set (wr.setCell ⟨rb, 1, none⟩ (.int .i64 ((st.at_ : Int) + 1))) := h.call ((Only.refl _ rb).set _) h.q.bump1.blk
theorem Qc.app (h : Qc w0 rb sv s w1 st v set wr) (h1 : OwnB 21 1 Cc w1.heap.size w' v' set') (h2 : wr.grownBy w' v.ownBlock) : Qc w0 rb sv s w1 st v' set' w' := by
  have hg : ∀ k, v.ownBlock = some k → w1.heap.size ≤ k := fun k hk => (h.own.lt k hk).1
  refine ⟨⟨h.q.sl, h.q.lo, h.q.len, h.q.pos, h.q.ext.grown h2 (fun k hk => by have := hg k hk; have := h.lt; have := h.q.lo; omega), ?_⟩, Only.own (nb := w1.heap.size) h.only h2 hg (Nat.le_refl _), h1, h.lt⟩
  exact (h2.block rb h.q.rbl (by intro e; have := hg rb e.symm; have := h.lt; omega)).trans h.q.blk
end
end Go.Proofs.YtfblkahjefdmaaaGreat
