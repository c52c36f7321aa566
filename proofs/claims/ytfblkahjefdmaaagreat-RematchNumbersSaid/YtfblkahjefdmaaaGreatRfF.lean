/- Walk: class of the document's own reader. -/
import Derived.Test.YtfblkahjefdmaaaGreatQb
namespace Go.Proofs.YtfblkahjefdmaaaGreat
open Go.RowKit

theorem reQ_lit {B nb : Nat} {w : World} {cs : List Value} {x : RX.ReN} (hnb : nb = w.heap.size) (hb : B ≤ w.heap.size) (h : CR B w cs x) :
    OwnRe B B (w.alloc (.cells cs.toArray 82)) (.slice (some ⟨nb, 0, none⟩) 1 1) [x] := by
  refine OwnB.lit (w := w) cs.toArray [x] _ _ hnb rfl hb (by simp) (by rw [List.size_toArray, h.len]; rfl) ?_
  intro k y hy
  match k, hy with
  | 0, hy =>
    simp at hy; subst hy
    exact ⟨cs, keeps_re B _ _ _ _ (KeepT.of_ext ((Ext.refl w).alloc _)) h, h.len, fun i u hu => by simpa using hu⟩
theorem qset_any (B : Nat) (neg : Bool) (set : List Int) (vs : Value) (w : World) (hs : SlB 21 1 Cc B w vs set) (hb : B ≤ w.heap.size) :
    Calls Tryz.prog 88 #[.bool neg, vs] w (RetP (fun w' v => SlRe B B w' v [RX.node 2 0 0 false neg set]) w) := by
  have HS := Lib.hid hs
  obtain ⟨A, c, rfl, -⟩ := hs.form
  clear hs
  go_enter Tryz.func88, Tryz.ntmps88
  go_wp2_with fail
  go_ret
  exact ⟨_, rfl, (reQ_lit rfl hb (CR.mk HS.out)).sl, (Ext.refl w).alloc _⟩
theorem RX.Cls.failed {s : List Int} {R : List Int × RX.St} {st : RX.St} {set : List Int} {b : Bool} (h : RX.Cls s R st set b) (hok : st.ok = false) : st.code = R.2.code ∧ st.bat = R.2.bat ∧ R.2.ok = false := by
  cases h with
  | sync k _ _ h1 => rw [hok] at h1; cases h1
  | fail _ _ _ h1 h2 h3 => exact ⟨h2, h3, by unfold RX.St.ok at hok ⊢; rw [← h2]; exact hok⟩
  | doom1 _ _ h1 => rw [hok] at h1; cases h1
  | doom2 _ _ h1 => rw [hok] at h1; cases h1
/-- Behind the class: its node. -/
theorem QOut.cls {R : List Int × RX.St} {st st2 : RX.St} {set : List Int} {neg : Bool} {n : Nat} (hop : st2.op = st.op) (hhi : st2.at_ + 1 ≤ n) (h : (R = (set, st2)) ∨ (R.2.ok = false ∧ st2.code = R.2.code ∧ st2.bat = R.2.bat)) :
    QOut ([RX.node 2 0 0 false neg R.1], R.2.bump 1) st 1 0 n [RX.node 2 0 0 false neg set] (st2.bump 1) := by
  refine ⟨by simp, fun x hx => by simp at hx; subst hx; exact ⟨Int.le_refl _, Int.le_refl _⟩, hhi, hop, fun hk => ?_, fun hk => ?_⟩
  · rcases h with rfl | ⟨h1, -⟩
    · exact ⟨rfl, rfl⟩
    · have hk : R.2.ok = true := hk
      rw [h1] at hk; cases hk
  · rcases h with rfl | ⟨-, h2⟩
    · exact ⟨rfl, rfl⟩
    · exact h2
theorem QOut.nil_ {R : List RX.ReN × RX.St} {st st2 : RX.St} {n : Nat} (hop : st2.op = st.op) (hhi : st2.at_ ≤ n) (h0 : R.2.ok = false) (h1 : st2.code = R.2.code) (h2 : st2.bat = R.2.bat) : QOut R st 1 0 n [] st2 :=
  ⟨by simp, by simp, hhi, hop, (fun h => by rw [h0] at h; cases h), fun _ => ⟨h1, h2⟩⟩
section
variable {w0 : World} {rb : Nat} {sv : Value} {s : List Int}
set_option maxRecDepth 100000 in
set_option maxHeartbeats 3000000 in
theorem qclass_any (w1 : World) (st : RX.St) (he : Qn w0 rb sv s w1 st) (hok : st.ok = true) (ha : st.at_ < s.length) (h9 : st.caps ≤ 9) :
    Calls Tryz.prog 90 #[.pointer (some ⟨rb, 0, none⟩)] w1 (QP rb sv w1 (RX.classP s (st.bump 1)) st 1 0 (s.length + 4)) := by
  have hl60 := he.len
  have HPOS := Lib.hid he.pos
  have HC1 := Lib.hid (show Qc w0 rb sv s w1 st (.slice none 0 0) [] w1 from ⟨he, Only.refl _ _, OwnB.nil_, he.rbl⟩)
  obtain ⟨c, hc⟩ : ∃ c, RX.nxt s (st.bump 1) 0 = c := ⟨_, rfl⟩
  obtain ⟨neg, hneg⟩ : ∃ neg, decide (c = 94) = neg := ⟨_, rfl⟩
  obtain ⟨st1, hst1⟩ : ∃ x, (if neg = true then (st.bump 1).bump 1 else st.bump 1) = x := ⟨_, rfl⟩
  obtain ⟨R, hR⟩ : ∃ x, RX.classLoop s (s.length + 2 - st1.at_) st1 [] = x := ⟨_, rfl⟩
  have hcp : RX.classP s (st.bump 1) = ([RX.node 2 0 0 false neg R.1], R.2.bump 1) := by
    unfold RX.classP
    simp only
    rw [hc, hneg, hst1, hR]
  have HCP := Lib.hid hcp
  rw [hcp]
  have h1a : st1.at_ ≤ s.length ∧ st1.caps ≤ 9 ∧ st1.op = st.op ∧ st1.ok = true := by
    rw [← hst1]
    split
    · rename_i h
      have h94 : c = 94 := of_decide_eq_true (hneg.trans h)
      exact ⟨RX.nxt_in (k := 0) (st := st.bump 1) (by rw [hc, h94]; decide), h9, rfl, hok⟩
    · exact ⟨ha, h9, rfl, hok⟩
  have HCLS := Lib.hid (show RX.Cls s R st1 [] true from .sync (s.length + 2 - st1.at_) st1 [] h1a.2.2.2 hR (by omega) h1a.1 h1a.2.1)
  have HN := Lib.hid hc
  have HNEG := Lib.hid hneg
  have HST1 := Lib.hid hst1
  have H1A := Lib.hid h1a
  have h1at : st1.at_ ≤ s.length := h1a.1
  clear he hok hc hst1 hR hcp h1a
  go_enter Tryz.func90, Tryz.ntmps90
  have c1 := HC1.out.q.blk.c1
  have f1 := HC1.out.q.blk.fr 1
  go_upto_region 2 with fail
  have HC2 := Lib.hid HC1.out.bump1
  generalize w1.setCell _ _ = w2 at HC2 ⊢
  clear c1 f1
  go_upto_if 21 with (go_at_call 63; go_loud (refine (qnext_any _ _ HC2.out.q).mono ?_; rw [HN.out]; rintro e w3 ⟨rfl, hx⟩; have HC3 := Lib.hid (HC2.out.ex hx); have HX3 := Lib.hid hx; clear hx))
  go_cut [] (fun wx => Qc w0 rb sv s w1 st1 (.slice none 0 0) [] wx)
  case first =>
    by_cases h94 : c = 94
    · have hst : st1 = (st.bump 1).bump 1 := by rw [← HST1.out, ← HNEG.out, decide_eq_true h94, if_pos rfl]
      have HST := Lib.hid hst
      have b94 : (c == 94) = true := by simpa using h94
      have c1 := HC3.out.q.blk.c1
      have f1 := HC3.out.q.blk.fr 1
      have hb1 : (st.bump 1).at_ ≤ 100 := by show st.at_ + 1 ≤ 100; omega
      clear hst h94
      go_wp2_with fail
      go_meet
      rw [HST.out]
      exact HC3.out.bump1
    · have hst : st1 = st.bump 1 := by rw [← HST1.out, ← HNEG.out, decide_eq_false h94]; rfl
      have HST := Lib.hid hst
      have b94 : (c == 94) = false := by simpa using h94
      clear hst h94
      go_wp2_with fail
      go_meet
      rw [HST.out]
      exact HC3.out
  case rest =>
    have HC4 := Lib.hid hcut
    have hbn : (c == 94) = neg := by rw [← HNEG.out]; by_cases h : c = 94 <;> simp [h]
    simp only [hbn]
    clear hcut hbn hneg
    go_wp2_with fail
    go_loopg [4, 5] (s.length + 2 - st1.at_) (fun k v b wr => ∃ (st' : RX.St) (set : List Int) (bb : Bool), b = .bool bb ∧ Qc w0 rb sv s w1 st' v set wr ∧ RX.Cls s R st' set bb ∧ st'.op = st.op ∧ set.length ≤ 8 * st'.at_ ∧ st'.at_ ≤ s.length + 2 ∧ (st'.ok = true → s.length + 1 ≤ k + st'.at_))
    case atStart => exact ⟨st1, [], true, rfl, HC4.out, HCLS.out, H1A.out.2.2.1, by simp, by omega, fun _ => by omega⟩
    case round =>
      obtain ⟨st', set, bb, rfl, hcc, hcls, hop, hsl, hat, hkk⟩ := hrel
      have HC5 := Lib.hid hcc
      have HCL := Lib.hid hcls
      have HOP := Lib.hid hop
      obtain ⟨Ao, co, rfl, -⟩ := hcc.own.form
      rcases hok' : st'.ok with _ | _
      · have HF := Lib.hid (hcls.failed hok')
        have HOK := Lib.hid hok'
        clear hcc hcls hop hkk hok'
        go_upto_region 20 with (go_at_call 43; go_loud (refine (qok_any _ _ HC5.out.q).mono ?_; rw [HOK.out]; rintro e w6 ⟨rfl, hx⟩; have HC6 := Lib.hid (HC5.out.ex hx); have HX6 := Lib.hid hx; clear hx))
        have c1 := HC6.out.q.blk.c1
        have f1 := HC6.out.q.blk.fr 1
        go_upto_region 21 with fail
        have HC7 := Lib.hid HC6.out.bump1
        generalize w6.setCell _ _ = w7 at HC7 ⊢
        clear c1 f1
        go_wp2_with (go_at_call 88; go_loud (refine (qset_any w1.heap.size neg _ _ _ HC7.out.own.sl HC7.out.only.size).mono ?_; rintro e wz ⟨vz, rfl, hvz, hxz⟩; have HVZ := Lib.hid hvz; have HCZ := Lib.hid (HC7.out.ex hxz); clear hvz hxz))
        go_ret
        exact ⟨_, _, _, rfl, HVZ.out, HCZ.out.q.blk, HCZ.out.only, QOut.cls HOP.out (by omega) (.inr ⟨HF.out.2.2, HF.out.1, HF.out.2.1⟩)⟩
      have HOK := Lib.hid hok'
      have hhi := hcls.hi hok'
      have hkk := hkk hok'
      obtain ⟨k, rfl⟩ : ∃ k, gk = k + 1 := ⟨gk - 1, by omega⟩
      have HBAD := Lib.hid (fun (hin : bb = true ∨ RX.nxt s st' 0 ≠ 93) h => hcls.bad hok' hin h)
      have HN1 := Lib.hid (fun (hin : bb = true ∨ RX.nxt s st' 0 ≠ 93) h1 h2 => hcls.next1 hok' hin h1 h2)
      have HN2 := Lib.hid (fun (hin : bb = true ∨ RX.nxt s st' 0 ≠ 93) a1 a2 a3 a4 => hcls.next2 HPOS.out hok' hin a1 a2 a3 a4)
      have HFW := Lib.hid (RX.member_fwd (s := s) hhi.1 hhi.2)
      have HMO := Lib.hid (fun h => RX.member_more (s := s) (st := st') h)
      have HSE := Lib.hid (RX.memSet_len (s := s) st')
      obtain ⟨cn, hcn⟩ : ∃ x, RX.nxt s st' 0 = x := ⟨_, rfl⟩
      have HCN := Lib.hid hcn
      rw [hcn] at HBAD HN1 HN2
      have HME := Lib.hid (fun w h => qmember_any (w0 := w0) (rb := rb) (sv := sv) (s := s) w st' h hok' (by omega))
      unfold MeP at HME
      obtain ⟨m, hm⟩ : ∃ x, RX.member s st' = x := ⟨_, rfl⟩
      rw [hm] at HBAD HN1 HN2 HFW HMO HME HSE
      obtain ⟨x, so, stm⟩ := m
      dsimp only at HBAD HN1 HN2 HFW HMO HME HSE
      clear hcc hop hok' hcn hm
      rcases bb with _ | _
      · by_cases h93 : cn = 93
        · have hRR := hcls.exit HOK.out (HCN.out.trans h93)
          have HRR := Lib.hid hRR
          have b93 : (cn != 93) = false := by simpa using h93
          clear hcls hRR h93
          go_upto_region 20 with (first
            | (go_at_call 43; go_loud (refine (qok_any _ _ HC5.out.q).mono ?_; rw [HOK.out]; rintro e w6 ⟨rfl, hx⟩; have HC6 := Lib.hid (HC5.out.ex hx); have HX6 := Lib.hid hx; clear hx))
            | (go_at_call 63; go_loud (refine (qnext_any _ _ HC6.out.q).mono ?_; rw [HCN.out]; rintro e w7 ⟨rfl, hx⟩; have HC7 := Lib.hid (HC6.out.ex hx); have HX7 := Lib.hid hx; clear hx)))
          have c1 := HC7.out.q.blk.c1
          have f1 := HC7.out.q.blk.fr 1
          go_upto_region 21 with fail
          have HC8 := Lib.hid HC7.out.bump1
          generalize w7.setCell _ _ = w8 at HC8 ⊢
          clear c1 f1
          go_wp2_with (go_at_call 88; go_loud (refine (qset_any w1.heap.size neg _ _ _ HC8.out.own.sl HC8.out.only.size).mono ?_; rintro e wz ⟨vz, rfl, hvz, hxz⟩; have HVZ := Lib.hid hvz; have HCZ := Lib.hid (HC8.out.ex hxz); clear hvz hxz))
          go_ret
          exact ⟨_, _, _, rfl, HVZ.out, HCZ.out.q.blk, HCZ.out.only, QOut.cls HOP.out (by omega) (.inl HRR.out)⟩
        · have hin : false = true ∨ cn ≠ 93 := .inr h93
          have HIN := Lib.hid hin
          have b93 : (cn != 93) = true := by simpa using h93
          clear hcls hin h93
          have c1 := HC5.out.q.blk.c1
          go_upto_region 9 with (first
            | (go_at_call 43; go_loud (refine (qok_any _ _ HC5.out.q).mono ?_; rw [HOK.out]; rintro e w6 ⟨rfl, hx⟩; have HC6 := Lib.hid (HC5.out.ex hx); have HX6 := Lib.hid hx; clear hx))
            | (go_at_call 63; go_loud (refine (qnext_any _ _ HC6.out.q).mono ?_; rw [HCN.out]; rintro e w7 ⟨rfl, hx⟩; have HC7 := Lib.hid (HC6.out.ex hx); have HX7 := Lib.hid hx; clear hx)))
          clear c1 b93
          have c1 := HC7.out.q.blk.c1
          go_upto_region 10 with fail
          clear c1
          go_wp2_with fail
          refine (HME.out _ HC7.out.q).mono ?_
          rintro e wm ⟨ho, hme⟩
          rcases hme with ⟨hmok, vm, rfl, hv, hq⟩ | ⟨hmok, rfl, stb, hq, hbd⟩
          rotate_left
          · have HCM := Lib.hid (HC7.out.call ho hq)
            have HBD := Lib.hid hbd
            have HB := Lib.hid (HBAD.out HIN.out hmok)
            have HOKM := Lib.hid (show stb.ok = false by rw [hbd.ok]; exact hmok)
            clear ho hq hbd hmok
            go_wp2_with (go_at_call 43; go_loud (refine (qok_any _ _ HCM.out.q).mono ?_; rw [HOKM.out]; rintro e wN2 ⟨rfl, hx⟩; have HCN2 := Lib.hid (HCM.out.ex hx); skip; clear hx))
            go_ret
            exact ⟨[], _, stb, rfl, SlB.nil_, HCN2.out.q.blk, HCN2.out.only, QOut.nil_ (HBD.out.op.trans HOP.out) (by have := HBD.out.hi; omega) (show R.2.ok = false from HB.out.1) (HBD.out.code.trans HB.out.2.1.symm) (HBD.out.bat.trans HB.out.2.2.symm)⟩
          have HCM := Lib.hid (HC7.out.call ho hq)
          have HVM := Lib.hid (SlB.weaken hv HC7.out.only.size)
          have HOKM := Lib.hid hmok
          have hmo := HMO.out hmok
          have hmhi := HFW.out.okl hmok
          have HMOP := Lib.hid (HFW.out.op.trans HOP.out)
          have hse := HSE.out
          obtain ⟨Am, cm, rfl, hmc, -⟩ := hv.form
          clear ho hq hv hmok
          rcases so with _ | l
          rotate_left
          · have hml : RX.memSet (x, some l, stm) = l := rfl
            rw [hml] at HVM hmc hse HN1 ⊢
            have HNX := Lib.hid (HN1.out HIN.out HOKM.out (fun h => by cases h))
            clear hml hmc
            go_wp2_with (first
              | (go_at_call 43; go_loud (refine (qok_any _ _ HCM.out.q).mono ?_; rw [HOKM.out]; rintro e wN2 ⟨rfl, hx⟩; have HCN2 := Lib.hid (HCM.out.ex hx); have HVM2 := Lib.hid (HVM.out.keep (keeps_c []) (KeepT.of_ext hx) (KeepT.of_ext hx)); clear hx))
              | (at_builtin; go_loud (refine app_srcC rfl _ _ rfl w1.heap.size _ _ set l HCN2.out.own rfl rfl (SlB.slc HVM2.out) ?hn ?hB ?_; (case hn => (first | omega | (simp only [List.length_cons, List.length_nil]; omega))); (case hB => exact HCN2.out.only.size); intro va wa h1 h2; generalize hsl2 : set ++ l = set2 at h1; have HCA := Lib.hid (HCN2.out.app h1 h2); have HS2 := Lib.hid hsl2; obtain ⟨Aa, ca, rfl, -⟩ := h1.form; clear h1 h2 hsl2)))
            go_roundg k
            case measure => omega
            case rel => exact ⟨stm, set2, false, rfl, HCA.out, by rw [← HS2.out]; exact HNX.out, HMOP.out, by rw [← HS2.out, List.length_append]; omega, by omega, fun _ => by omega⟩
          have hml : RX.memSet (x, none, stm) = [x, x] := rfl
          rw [hml] at HVM hmc hse HN1 ⊢
          obtain ⟨c2, hc2⟩ : ∃ y, RX.nxt s stm 0 = y := ⟨_, rfl⟩
          have HC2N := Lib.hid hc2
          rw [hc2] at HN1 HN2
          clear hml hmc hc2
          by_cases h45 : c2 = 45
          rotate_left
          · have b45 : (c2 == 45) = false := by simpa using h45
            have HNX := Lib.hid (HN1.out HIN.out HOKM.out (fun _ h => absurd h h45))
            clear h45
            go_wp2_with (first
              | (go_at_call 43; go_loud (refine (qok_any _ _ HCM.out.q).mono ?_; rw [HOKM.out]; rintro e wN2 ⟨rfl, hx⟩; have HCN2 := Lib.hid (HCM.out.ex hx); have HVM2 := Lib.hid (HVM.out.keep (keeps_c []) (KeepT.of_ext hx) (KeepT.of_ext hx)); clear hx))
              | (go_at_call 63; go_loud (refine (qnext_any _ _ HCN2.out.q).mono ?_; rw [HC2N.out]; rintro e wP2 ⟨rfl, hx⟩; have HCP2 := Lib.hid (HCN2.out.ex hx); have HVM3 := Lib.hid (HVM2.out.keep (keeps_c []) (KeepT.of_ext hx) (KeepT.of_ext hx)); clear hx))
              | (at_builtin; go_loud (refine app_srcC rfl _ _ rfl w1.heap.size _ _ set [x, x] HCP2.out.own rfl rfl (SlB.slc HVM3.out) ?hn ?hB ?_; (case hn => (first | omega | (simp only [List.length_cons, List.length_nil]; omega))); (case hB => exact HCP2.out.only.size); intro va wa h1 h2; generalize hsl2 : set ++ [x, x] = set2 at h1; have HCA := Lib.hid (HCP2.out.app h1 h2); have HS2 := Lib.hid hsl2; obtain ⟨Aa, ca, rfl, -⟩ := h1.form; clear h1 h2 hsl2)))
            go_roundg k
            case measure => omega
            case rel => exact ⟨stm, set2, false, rfl, HCA.out, by rw [← HS2.out]; exact HNX.out, HMOP.out, by rw [← HS2.out, List.length_append]; simp only [List.length_cons, List.length_nil]; omega, by omega, fun _ => by omega⟩
          have b45 : (c2 == 45) = true := by simpa using h45
          have HSI := Lib.hid (fun w h => (show Calls Tryz.prog 100 #[.pointer (some ⟨rb, 0, none⟩), .int .i64 ((stm.at_ : Int) + 1)] w (RetE (.bool (RX.singleM s (stm.at_ + 1))) w) from qsingle_any (w0 := w0) (sv := sv) w stm h (stm.at_ + 1) (by omega)))
          rcases hsg : RX.singleM s (stm.at_ + 1) with _ | _
          · have HSG := Lib.hid hsg
            have HNX := Lib.hid (HN1.out HIN.out HOKM.out (fun _ _ => hsg))
            rw [hsg] at HSI
            clear h45 hsg
            go_upto_region 13 with (go_at_call 43; go_loud (refine (qok_any _ _ HCM.out.q).mono ?_; rw [HOKM.out]; rintro e wN2 ⟨rfl, hx⟩; have HCN2 := Lib.hid (HCM.out.ex hx); have HVM2 := Lib.hid (HVM.out.keep (keeps_c []) (KeepT.of_ext hx) (KeepT.of_ext hx)); clear hx))
            have c1 := HCN2.out.q.blk.c1
            go_wp2_with (first
              | (go_at_call 63; go_loud (refine (qnext_any _ _ HCN2.out.q).mono ?_; rw [HC2N.out]; rintro e wP2 ⟨rfl, hx⟩; have HCP2 := Lib.hid (HCN2.out.ex hx); have c1 := HCP2.out.q.blk.c1; have HVM3 := Lib.hid (HVM2.out.keep (keeps_c []) (KeepT.of_ext hx) (KeepT.of_ext hx)); clear hx))
              | (go_at_call 100; go_loud (refine (HSI.out _ HCP2.out.q).mono ?_; rintro e wQ2 ⟨rfl, hx⟩; have HCQ2 := Lib.hid (HCP2.out.ex hx); have HVM4 := Lib.hid (HVM3.out.keep (keeps_c []) (KeepT.of_ext hx) (KeepT.of_ext hx)); clear hx))
              | (at_builtin; go_loud (refine app_srcC rfl _ _ rfl w1.heap.size _ _ set [x, x] HCQ2.out.own rfl rfl (SlB.slc HVM4.out) ?hn ?hB ?_; (case hn => (first | omega | (simp only [List.length_cons, List.length_nil]; omega))); (case hB => exact HCQ2.out.only.size); intro va wa h1 h2; generalize hsl2 : set ++ [x, x] = set2 at h1; have HCA := Lib.hid (HCQ2.out.app h1 h2); have HS2 := Lib.hid hsl2; obtain ⟨Aa, ca, rfl, -⟩ := h1.form; clear h1 h2 hsl2)))
            go_roundg k
            case measure => omega
            case rel => exact ⟨stm, set2, false, rfl, HCA.out, by rw [← HS2.out]; exact HNX.out, HMOP.out, by rw [← HS2.out, List.length_append]; simp only [List.length_cons, List.length_nil]; omega, by omega, fun _ => by omega⟩
          have HN2X := Lib.hid (HN2.out HIN.out HOKM.out rfl h45 hsg)
          rw [hsg] at HSI
          have hstlt : stm.at_ + 1 ≤ s.length := by
            obtain ⟨cc, hcc2, -⟩ := RX.single_sign hsg
            exact Nat.le_of_lt (List.getElem?_eq_some_iff.1 hcc2).1
          have hms := RX.member_single (s := s) (st := stm.bump 1) HOKM.out HPOS.out hsg
          have HFW2 := Lib.hid (RX.member_fwd (s := s) (st := stm.bump 1) hstlt HFW.out.caps9)
          have HMO2 := Lib.hid (RX.member_more (s := s) (st := stm.bump 1) hms.1)
          have HME2 := Lib.hid (fun w h => qmember_any (w0 := w0) (rb := rb) (sv := sv) (s := s) w (stm.bump 1) h HOKM.out (by show stm.at_ + 1 ≤ 1000; omega))
          unfold MeP at HME2
          obtain ⟨m2, hm2⟩ : ∃ y, RX.member s (stm.bump 1) = y := ⟨_, rfl⟩
          rw [hm2] at HN2X hms HFW2 HMO2 HME2
          obtain ⟨y, so2, st4⟩ := m2
          dsimp only at HN2X hms HFW2 HMO2 HME2
          obtain ⟨hok4, rfl⟩ := hms
          have HOK4 := Lib.hid hok4
          have h4hi := HFW2.out.okl hok4
          have h4mo : stm.at_ + 2 ≤ st4.at_ := HMO2.out
          have HOP4 := Lib.hid ((HFW2.out.op).trans HMOP.out)
          clear h45 hsg hm2 hstlt hok4
          go_upto_region 13 with (go_at_call 43; go_loud (refine (qok_any _ _ HCM.out.q).mono ?_; rw [HOKM.out]; rintro e wN2 ⟨rfl, hx⟩; have HCN2 := Lib.hid (HCM.out.ex hx); have HVM2 := Lib.hid (HVM.out.keep (keeps_c []) (KeepT.of_ext hx) (KeepT.of_ext hx)); clear hx))
          have c1 := HCN2.out.q.blk.c1
          go_upto_region 14 with (first
            | (go_at_call 63; go_loud (refine (qnext_any _ _ HCN2.out.q).mono ?_; rw [HC2N.out]; rintro e wP2 ⟨rfl, hx⟩; have HCP2 := Lib.hid (HCN2.out.ex hx); have c1 := HCP2.out.q.blk.c1; have HVM3 := Lib.hid (HVM2.out.keep (keeps_c []) (KeepT.of_ext hx) (KeepT.of_ext hx)); clear hx))
            | (go_at_call 100; go_loud (refine (HSI.out _ HCP2.out.q).mono ?_; rintro e wQ2 ⟨rfl, hx⟩; have HCQ2 := Lib.hid (HCP2.out.ex hx); have HVM4 := Lib.hid (HVM3.out.keep (keeps_c []) (KeepT.of_ext hx) (KeepT.of_ext hx)); clear hx)))
          clear c1
          have c1 := HCQ2.out.q.blk.c1
          have f1 := HCQ2.out.q.blk.fr 1
          go_upto_region 15 with fail
          have HCR := Lib.hid HCQ2.out.bump1
          have HVM5 := Lib.hid (HVM4.out.keepB (keepsB_c _) (KeepB.low ((Only.refl wQ2 rb).set (o := 1) (.int .i64 ((stm.at_ : Int) + 1))) HC1.out.lt))
          generalize wQ2.setCell _ _ = wR at HCR HVM5 ⊢
          clear c1 f1
          go_wp2_with fail
          refine (HME2.out _ HCR.out.q).mono ?_
          rintro e wS ⟨ho, hme⟩
          obtain ⟨vS, rfl, hvS, hqS⟩ : ∃ v, e = .returned (.tuple #[v, .bool (none : Option (List Int)).isNone]) ∧ SlB 21 1 Cc wR.heap.size wS v (RX.memSet (y, none, st4)) ∧ QS rb sv wS st4 := by
            rcases hme with ⟨-, h⟩ | ⟨h, -⟩
            · exact h
            · rw [HOK4.out] at h; cases h
          have hml : RX.memSet (y, none, st4) = [y, y] := rfl
          rw [hml] at hvS
          have HCS := Lib.hid (HCR.out.call ho hqS)
          have HVM6 := Lib.hid (HVM5.out.keepB (keepsB_c _) (KeepB.low ho HC1.out.lt))
          have HVS := Lib.hid hvS
          obtain ⟨AS, cS, rfl, -⟩ := hvS.form
          obtain ⟨g1, o1, rfl, q1, -⟩ := two_at HVM6.out
          obtain ⟨g2, o2, rfl, q2, -⟩ := two_at HVS.out
          clear ho hme hvS hqS hml
          go_upto_region 16 with fail
          have hb1 : w1.heap.size ≤ g1 := by obtain ⟨_, _, hv, _, _, _, hA⟩ := HVM6.out; injection hv with e1 _ _; obtain ⟨_, _, _, e2, e3, _⟩ := hA _ e1.symm; injection e2 with e2 _ _; omega
          have hb2 : w1.heap.size ≤ g2 := by obtain ⟨_, _, hv, _, _, _, hA⟩ := HVS.out; injection hv with e1 _ _; obtain ⟨_, _, _, e2, e3, _⟩ := hA _ e1.symm; injection e2 with e2 _ _; have := HCR.out.only.size; omega
          have hrb := HC1.out.lt
          by_cases hyx : y < x
          · have hd : decide (y < x) = true := decide_eq_true hyx
            have HB2 := Lib.hid (HN2X.out.2 hyx)
            clear hyx
            go_quiet (fail)
            go_upto_region 17 with fail
            generalize hT : wS.drewN _ = wT
            have hxT : Ext wS wT := by rw [← hT]; exact (Ext.refl _).drewN _
            have HCT := Lib.hid (HCS.out.ex hxT)
            replace q1 := hxT.cell q1
            replace q2 := hxT.cell q2
            clear hT hxT
            go_upto_region 18 with (go_at_call 44; go_loud (refine (qbad_any _ _ 5 (st'.at_ : Int) HCT.out.q).mono ?_; rintro e wU ⟨rfl, hq, ho⟩; have HCU := Lib.hid (HCT.out.call ho hq); have HYU := Lib.hid ho; clear hq ho))
            replace q1 := World.grownBy.cell HYU.out q1 (by intro e; injection e with e; simp only at e; omega)
            replace q2 := World.grownBy.cell HYU.out q2 (by intro e; injection e with e; simp only at e; omega)
            go_region_held3 (fun w' => w'.cell? ⟨g1, o1, none⟩ = some (.int .i32 x) ∧ w'.cell? ⟨g2, o2, none⟩ = some (.int .i32 y)) (first | go_keep | (go_split_ands; refine ⟨?_, ?_⟩ <;> assumption)) (fail)
            have HFK := Lib.hid (show (st4.fail 5 st'.at_).ok = false ∧ (st4.fail 5 st'.at_).code = R.2.code ∧ (st4.fail 5 st'.at_).bat = R.2.bat from by
              have hk4 : st4.code = 0 := by simpa [RX.St.ok] using HOK4.out
              refine ⟨?_, ?_, ?_⟩
              · simp [RX.St.fail, RX.St.ok, hk4]
              · rw [HB2.out.1]; simp [RX.St.fail, hk4]
              · rw [HB2.out.2]; simp [RX.St.fail, hk4])
            have hfo : (st4.fail 5 st'.at_).op = st4.op := by unfold RX.St.fail; split <;> rfl
            have hfa : (st4.fail 5 st'.at_).at_ = st4.at_ := by unfold RX.St.fail; split <;> rfl
            have hxL : Ext wU (wU.alloc (.cells #[.int .i32 x, .int .i32 y] 21)).drew := ((Ext.refl _).alloc _).drew
            have HCL2 := Lib.hid (HCU.out.ex hxL)
            have HVL := Lib.hid (show SlC (wU.alloc (.cells #[.int .i32 x, .int .i32 y] 21)).drew (.slice (some ⟨wU.heap.size, 0, none⟩) 2 2) [x, y] from (SlB.slc (c_lit (B := 0) wU [x, y] _ _ rfl rfl (Nat.zero_le _) (by simp))).ext (Ext.drew (Ext.refl _)))
            clear hxL
            generalize (wU.alloc _).drew = wL at HCL2 HVL ⊢
            generalize wU.heap.size = nl at HVL ⊢
            go_wp2_with (at_builtin; go_loud (refine app_srcC rfl _ _ rfl w1.heap.size _ _ set [x, y] HCL2.out.own rfl rfl HVL.out ?hn ?hB ?_; (case hn => (first | omega | (simp only [List.length_cons, List.length_nil]; omega))); (case hB => exact HCL2.out.only.size); intro va wa h1 h2; generalize hsl2 : set ++ [x, y] = set2 at h1; have HCA := Lib.hid (HCL2.out.app h1 h2); have HS2 := Lib.hid hsl2; obtain ⟨Aa, ca, rfl, -⟩ := h1.form; clear h1 h2 hsl2))
            go_roundg k
            case measure => omega
            case rel => exact ⟨st4.fail 5 st'.at_, set2, false, rfl, HCA.out, by rw [← HS2.out]; exact .fail _ _ _ HFK.out.1 HFK.out.2.1 HFK.out.2.2, hfo.trans HOP4.out, by rw [← HS2.out, List.length_append]; simp only [List.length_cons, List.length_nil]; omega, by omega, fun h => by omega⟩
          · have hd : decide (y < x) = false := decide_eq_false hyx
            have HB2 := Lib.hid (HN2X.out.1 (by omega))
            clear hyx
            go_quiet (fail)
            go_upto_region 18 with fail
            generalize hT : wS.drewN _ = wU
            have hxT : Ext wS wU := by rw [← hT]; exact (Ext.refl _).drewN _
            have HCU := Lib.hid (HCS.out.ex hxT)
            replace q1 := hxT.cell q1
            replace q2 := hxT.cell q2
            clear hT hxT
            go_region_held3 (fun w' => w'.cell? ⟨g1, o1, none⟩ = some (.int .i32 x) ∧ w'.cell? ⟨g2, o2, none⟩ = some (.int .i32 y)) (first | go_keep | (go_split_ands; refine ⟨?_, ?_⟩ <;> assumption)) (fail)
            have hxL : Ext wU (wU.alloc (.cells #[.int .i32 x, .int .i32 y] 21)).drew := ((Ext.refl _).alloc _).drew
            have HCL2 := Lib.hid (HCU.out.ex hxL)
            have HVL := Lib.hid (show SlC (wU.alloc (.cells #[.int .i32 x, .int .i32 y] 21)).drew (.slice (some ⟨wU.heap.size, 0, none⟩) 2 2) [x, y] from (SlB.slc (c_lit (B := 0) wU [x, y] _ _ rfl rfl (Nat.zero_le _) (by simp))).ext (Ext.drew (Ext.refl _)))
            clear hxL
            generalize (wU.alloc _).drew = wL at HCL2 HVL ⊢
            generalize wU.heap.size = nl at HVL ⊢
            go_wp2_with (at_builtin; go_loud (refine app_srcC rfl _ _ rfl w1.heap.size _ _ set [x, y] HCL2.out.own rfl rfl HVL.out ?hn ?hB ?_; (case hn => (first | omega | (simp only [List.length_cons, List.length_nil]; omega))); (case hB => exact HCL2.out.only.size); intro va wa h1 h2; generalize hsl2 : set ++ [x, y] = set2 at h1; have HCA := Lib.hid (HCL2.out.app h1 h2); have HS2 := Lib.hid hsl2; obtain ⟨Aa, ca, rfl, -⟩ := h1.form; clear h1 h2 hsl2))
            go_roundg k
            case measure => omega
            case rel => exact ⟨st4, set2, false, rfl, HCA.out, by rw [← HS2.out]; exact HB2.out, HOP4.out, by rw [← HS2.out, List.length_append]; simp only [List.length_cons, List.length_nil]; omega, by omega, fun h => by omega⟩
      · have hin : true = true ∨ cn ≠ 93 := .inl rfl
        have HIN := Lib.hid hin
        clear hcls hin
        go_upto_region 9 with (go_at_call 43; go_loud (refine (qok_any _ _ HC5.out.q).mono ?_; rw [HOK.out]; rintro e w6 ⟨rfl, hx⟩; have HC6 := Lib.hid (HC5.out.ex hx); have HX6 := Lib.hid hx; clear hx))
        have HC7 := HC6
        obtain ⟨w7, hw7⟩ : ∃ x, x = w6 := ⟨_, rfl⟩
        subst hw7
        have c1 := HC7.out.q.blk.c1
        go_upto_region 10 with fail
        clear c1
        go_wp2_with fail
        refine (HME.out _ HC7.out.q).mono ?_
        rintro e wm ⟨ho, hme⟩
        rcases hme with ⟨hmok, vm, rfl, hv, hq⟩ | ⟨hmok, rfl, stb, hq, hbd⟩
        rotate_left
        · have HCM := Lib.hid (HC7.out.call ho hq)
          have HBD := Lib.hid hbd
          have HB := Lib.hid (HBAD.out HIN.out hmok)
          have HOKM := Lib.hid (show stb.ok = false by rw [hbd.ok]; exact hmok)
          clear ho hq hbd hmok
          go_wp2_with (go_at_call 43; go_loud (refine (qok_any _ _ HCM.out.q).mono ?_; rw [HOKM.out]; rintro e wN2 ⟨rfl, hx⟩; have HCN2 := Lib.hid (HCM.out.ex hx); skip; clear hx))
          go_ret
          exact ⟨[], _, stb, rfl, SlB.nil_, HCN2.out.q.blk, HCN2.out.only, QOut.nil_ (HBD.out.op.trans HOP.out) (by have := HBD.out.hi; omega) (show R.2.ok = false from HB.out.1) (HBD.out.code.trans HB.out.2.1.symm) (HBD.out.bat.trans HB.out.2.2.symm)⟩
        have HCM := Lib.hid (HC7.out.call ho hq)
        have HVM := Lib.hid (SlB.weaken hv HC7.out.only.size)
        have HOKM := Lib.hid hmok
        have hmo := HMO.out hmok
        have hmhi := HFW.out.okl hmok
        have HMOP := Lib.hid (HFW.out.op.trans HOP.out)
        have hse := HSE.out
        obtain ⟨Am, cm, rfl, hmc, -⟩ := hv.form
        clear ho hq hv hmok
        rcases so with _ | l
        rotate_left
        · have hml : RX.memSet (x, some l, stm) = l := rfl
          rw [hml] at HVM hmc hse HN1 ⊢
          have HNX := Lib.hid (HN1.out HIN.out HOKM.out (fun h => by cases h))
          clear hml hmc
          go_wp2_with (first
            | (go_at_call 43; go_loud (refine (qok_any _ _ HCM.out.q).mono ?_; rw [HOKM.out]; rintro e wN2 ⟨rfl, hx⟩; have HCN2 := Lib.hid (HCM.out.ex hx); have HVM2 := Lib.hid (HVM.out.keep (keeps_c []) (KeepT.of_ext hx) (KeepT.of_ext hx)); clear hx))
            | (at_builtin; go_loud (refine app_srcC rfl _ _ rfl w1.heap.size _ _ set l HCN2.out.own rfl rfl (SlB.slc HVM2.out) ?hn ?hB ?_; (case hn => (first | omega | (simp only [List.length_cons, List.length_nil]; omega))); (case hB => exact HCN2.out.only.size); intro va wa h1 h2; generalize hsl2 : set ++ l = set2 at h1; have HCA := Lib.hid (HCN2.out.app h1 h2); have HS2 := Lib.hid hsl2; obtain ⟨Aa, ca, rfl, -⟩ := h1.form; clear h1 h2 hsl2)))
          go_roundg k
          case measure => omega
          case rel => exact ⟨stm, set2, false, rfl, HCA.out, by rw [← HS2.out]; exact HNX.out, HMOP.out, by rw [← HS2.out, List.length_append]; omega, by omega, fun _ => by omega⟩
        have hml : RX.memSet (x, none, stm) = [x, x] := rfl
        rw [hml] at HVM hmc hse HN1 ⊢
        obtain ⟨c2, hc2⟩ : ∃ y, RX.nxt s stm 0 = y := ⟨_, rfl⟩
        have HC2N := Lib.hid hc2
        rw [hc2] at HN1 HN2
        clear hml hmc hc2
        by_cases h45 : c2 = 45
        rotate_left
        · have b45 : (c2 == 45) = false := by simpa using h45
          have HNX := Lib.hid (HN1.out HIN.out HOKM.out (fun _ h => absurd h h45))
          clear h45
          go_wp2_with (first
            | (go_at_call 43; go_loud (refine (qok_any _ _ HCM.out.q).mono ?_; rw [HOKM.out]; rintro e wN2 ⟨rfl, hx⟩; have HCN2 := Lib.hid (HCM.out.ex hx); have HVM2 := Lib.hid (HVM.out.keep (keeps_c []) (KeepT.of_ext hx) (KeepT.of_ext hx)); clear hx))
            | (go_at_call 63; go_loud (refine (qnext_any _ _ HCN2.out.q).mono ?_; rw [HC2N.out]; rintro e wP2 ⟨rfl, hx⟩; have HCP2 := Lib.hid (HCN2.out.ex hx); have HVM3 := Lib.hid (HVM2.out.keep (keeps_c []) (KeepT.of_ext hx) (KeepT.of_ext hx)); clear hx))
            | (at_builtin; go_loud (refine app_srcC rfl _ _ rfl w1.heap.size _ _ set [x, x] HCP2.out.own rfl rfl (SlB.slc HVM3.out) ?hn ?hB ?_; (case hn => (first | omega | (simp only [List.length_cons, List.length_nil]; omega))); (case hB => exact HCP2.out.only.size); intro va wa h1 h2; generalize hsl2 : set ++ [x, x] = set2 at h1; have HCA := Lib.hid (HCP2.out.app h1 h2); have HS2 := Lib.hid hsl2; obtain ⟨Aa, ca, rfl, -⟩ := h1.form; clear h1 h2 hsl2)))
          go_roundg k
          case measure => omega
          case rel => exact ⟨stm, set2, false, rfl, HCA.out, by rw [← HS2.out]; exact HNX.out, HMOP.out, by rw [← HS2.out, List.length_append]; simp only [List.length_cons, List.length_nil]; omega, by omega, fun _ => by omega⟩
        have b45 : (c2 == 45) = true := by simpa using h45
        have HSI := Lib.hid (fun w h => (show Calls Tryz.prog 100 #[.pointer (some ⟨rb, 0, none⟩), .int .i64 ((stm.at_ : Int) + 1)] w (RetE (.bool (RX.singleM s (stm.at_ + 1))) w) from qsingle_any (w0 := w0) (sv := sv) w stm h (stm.at_ + 1) (by omega)))
        rcases hsg : RX.singleM s (stm.at_ + 1) with _ | _
        · have HSG := Lib.hid hsg
          have HNX := Lib.hid (HN1.out HIN.out HOKM.out (fun _ _ => hsg))
          rw [hsg] at HSI
          clear h45 hsg
          go_upto_region 13 with (go_at_call 43; go_loud (refine (qok_any _ _ HCM.out.q).mono ?_; rw [HOKM.out]; rintro e wN2 ⟨rfl, hx⟩; have HCN2 := Lib.hid (HCM.out.ex hx); have HVM2 := Lib.hid (HVM.out.keep (keeps_c []) (KeepT.of_ext hx) (KeepT.of_ext hx)); clear hx))
          have c1 := HCN2.out.q.blk.c1
          go_wp2_with (first
            | (go_at_call 63; go_loud (refine (qnext_any _ _ HCN2.out.q).mono ?_; rw [HC2N.out]; rintro e wP2 ⟨rfl, hx⟩; have HCP2 := Lib.hid (HCN2.out.ex hx); have c1 := HCP2.out.q.blk.c1; have HVM3 := Lib.hid (HVM2.out.keep (keeps_c []) (KeepT.of_ext hx) (KeepT.of_ext hx)); clear hx))
            | (go_at_call 100; go_loud (refine (HSI.out _ HCP2.out.q).mono ?_; rintro e wQ2 ⟨rfl, hx⟩; have HCQ2 := Lib.hid (HCP2.out.ex hx); have HVM4 := Lib.hid (HVM3.out.keep (keeps_c []) (KeepT.of_ext hx) (KeepT.of_ext hx)); clear hx))
            | (at_builtin; go_loud (refine app_srcC rfl _ _ rfl w1.heap.size _ _ set [x, x] HCQ2.out.own rfl rfl (SlB.slc HVM4.out) ?hn ?hB ?_; (case hn => (first | omega | (simp only [List.length_cons, List.length_nil]; omega))); (case hB => exact HCQ2.out.only.size); intro va wa h1 h2; generalize hsl2 : set ++ [x, x] = set2 at h1; have HCA := Lib.hid (HCQ2.out.app h1 h2); have HS2 := Lib.hid hsl2; obtain ⟨Aa, ca, rfl, -⟩ := h1.form; clear h1 h2 hsl2)))
          go_roundg k
          case measure => omega
          case rel => exact ⟨stm, set2, false, rfl, HCA.out, by rw [← HS2.out]; exact HNX.out, HMOP.out, by rw [← HS2.out, List.length_append]; simp only [List.length_cons, List.length_nil]; omega, by omega, fun _ => by omega⟩
        have HN2X := Lib.hid (HN2.out HIN.out HOKM.out rfl h45 hsg)
        rw [hsg] at HSI
        have hstlt : stm.at_ + 1 ≤ s.length := by
          obtain ⟨cc, hcc2, -⟩ := RX.single_sign hsg
          exact Nat.le_of_lt (List.getElem?_eq_some_iff.1 hcc2).1
        have hms := RX.member_single (s := s) (st := stm.bump 1) HOKM.out HPOS.out hsg
        have HFW2 := Lib.hid (RX.member_fwd (s := s) (st := stm.bump 1) hstlt HFW.out.caps9)
        have HMO2 := Lib.hid (RX.member_more (s := s) (st := stm.bump 1) hms.1)
        have HME2 := Lib.hid (fun w h => qmember_any (w0 := w0) (rb := rb) (sv := sv) (s := s) w (stm.bump 1) h HOKM.out (by show stm.at_ + 1 ≤ 1000; omega))
        unfold MeP at HME2
        obtain ⟨m2, hm2⟩ : ∃ y, RX.member s (stm.bump 1) = y := ⟨_, rfl⟩
        rw [hm2] at HN2X hms HFW2 HMO2 HME2
        obtain ⟨y, so2, st4⟩ := m2
        dsimp only at HN2X hms HFW2 HMO2 HME2
        obtain ⟨hok4, rfl⟩ := hms
        have HOK4 := Lib.hid hok4
        have h4hi := HFW2.out.okl hok4
        have h4mo : stm.at_ + 2 ≤ st4.at_ := HMO2.out
        have HOP4 := Lib.hid ((HFW2.out.op).trans HMOP.out)
        clear h45 hsg hm2 hstlt hok4
        go_upto_region 13 with (go_at_call 43; go_loud (refine (qok_any _ _ HCM.out.q).mono ?_; rw [HOKM.out]; rintro e wN2 ⟨rfl, hx⟩; have HCN2 := Lib.hid (HCM.out.ex hx); have HVM2 := Lib.hid (HVM.out.keep (keeps_c []) (KeepT.of_ext hx) (KeepT.of_ext hx)); clear hx))
        have c1 := HCN2.out.q.blk.c1
        go_upto_region 14 with (first
          | (go_at_call 63; go_loud (refine (qnext_any _ _ HCN2.out.q).mono ?_; rw [HC2N.out]; rintro e wP2 ⟨rfl, hx⟩; have HCP2 := Lib.hid (HCN2.out.ex hx); have c1 := HCP2.out.q.blk.c1; have HVM3 := Lib.hid (HVM2.out.keep (keeps_c []) (KeepT.of_ext hx) (KeepT.of_ext hx)); clear hx))
          | (go_at_call 100; go_loud (refine (HSI.out _ HCP2.out.q).mono ?_; rintro e wQ2 ⟨rfl, hx⟩; have HCQ2 := Lib.hid (HCP2.out.ex hx); have HVM4 := Lib.hid (HVM3.out.keep (keeps_c []) (KeepT.of_ext hx) (KeepT.of_ext hx)); clear hx)))
        clear c1
        have c1 := HCQ2.out.q.blk.c1
        have f1 := HCQ2.out.q.blk.fr 1
        go_upto_region 15 with fail
        have HCR := Lib.hid HCQ2.out.bump1
        have HVM5 := Lib.hid (HVM4.out.keepB (keepsB_c _) (KeepB.low ((Only.refl wQ2 rb).set (o := 1) (.int .i64 ((stm.at_ : Int) + 1))) HC1.out.lt))
        generalize wQ2.setCell _ _ = wR at HCR HVM5 ⊢
        clear c1 f1
        go_wp2_with fail
        refine (HME2.out _ HCR.out.q).mono ?_
        rintro e wS ⟨ho, hme⟩
        obtain ⟨vS, rfl, hvS, hqS⟩ : ∃ v, e = .returned (.tuple #[v, .bool (none : Option (List Int)).isNone]) ∧ SlB 21 1 Cc wR.heap.size wS v (RX.memSet (y, none, st4)) ∧ QS rb sv wS st4 := by
          rcases hme with ⟨-, h⟩ | ⟨h, -⟩
          · exact h
          · rw [HOK4.out] at h; cases h
        have hml : RX.memSet (y, none, st4) = [y, y] := rfl
        rw [hml] at hvS
        have HCS := Lib.hid (HCR.out.call ho hqS)
        have HVM6 := Lib.hid (HVM5.out.keepB (keepsB_c _) (KeepB.low ho HC1.out.lt))
        have HVS := Lib.hid hvS
        obtain ⟨AS, cS, rfl, -⟩ := hvS.form
        obtain ⟨g1, o1, rfl, q1, -⟩ := two_at HVM6.out
        obtain ⟨g2, o2, rfl, q2, -⟩ := two_at HVS.out
        clear ho hme hvS hqS hml
        go_upto_region 16 with fail
        have hb1 : w1.heap.size ≤ g1 := by obtain ⟨_, _, hv, _, _, _, hA⟩ := HVM6.out; injection hv with e1 _ _; obtain ⟨_, _, _, e2, e3, _⟩ := hA _ e1.symm; injection e2 with e2 _ _; omega
        have hb2 : w1.heap.size ≤ g2 := by obtain ⟨_, _, hv, _, _, _, hA⟩ := HVS.out; injection hv with e1 _ _; obtain ⟨_, _, _, e2, e3, _⟩ := hA _ e1.symm; injection e2 with e2 _ _; have := HCR.out.only.size; omega
        have hrb := HC1.out.lt
        by_cases hyx : y < x
        · have hd : decide (y < x) = true := decide_eq_true hyx
          have HB2 := Lib.hid (HN2X.out.2 hyx)
          clear hyx
          go_quiet (fail)
          go_upto_region 17 with fail
          generalize hT : wS.drewN _ = wT
          have hxT : Ext wS wT := by rw [← hT]; exact (Ext.refl _).drewN _
          have HCT := Lib.hid (HCS.out.ex hxT)
          replace q1 := hxT.cell q1
          replace q2 := hxT.cell q2
          clear hT hxT
          go_upto_region 18 with (go_at_call 44; go_loud (refine (qbad_any _ _ 5 (st'.at_ : Int) HCT.out.q).mono ?_; rintro e wU ⟨rfl, hq, ho⟩; have HCU := Lib.hid (HCT.out.call ho hq); have HYU := Lib.hid ho; clear hq ho))
          replace q1 := World.grownBy.cell HYU.out q1 (by intro e; injection e with e; simp only at e; omega)
          replace q2 := World.grownBy.cell HYU.out q2 (by intro e; injection e with e; simp only at e; omega)
          go_region_held3 (fun w' => w'.cell? ⟨g1, o1, none⟩ = some (.int .i32 x) ∧ w'.cell? ⟨g2, o2, none⟩ = some (.int .i32 y)) (first | go_keep | (go_split_ands; refine ⟨?_, ?_⟩ <;> assumption)) (fail)
          have HFK := Lib.hid (show (st4.fail 5 st'.at_).ok = false ∧ (st4.fail 5 st'.at_).code = R.2.code ∧ (st4.fail 5 st'.at_).bat = R.2.bat from by
            have hk4 : st4.code = 0 := by simpa [RX.St.ok] using HOK4.out
            refine ⟨?_, ?_, ?_⟩
            · simp [RX.St.fail, RX.St.ok, hk4]
            · rw [HB2.out.1]; simp [RX.St.fail, hk4]
            · rw [HB2.out.2]; simp [RX.St.fail, hk4])
          have hfo : (st4.fail 5 st'.at_).op = st4.op := by unfold RX.St.fail; split <;> rfl
          have hfa : (st4.fail 5 st'.at_).at_ = st4.at_ := by unfold RX.St.fail; split <;> rfl
          have hxL : Ext wU (wU.alloc (.cells #[.int .i32 x, .int .i32 y] 21)).drew := ((Ext.refl _).alloc _).drew
          have HCL2 := Lib.hid (HCU.out.ex hxL)
          have HVL := Lib.hid (show SlC (wU.alloc (.cells #[.int .i32 x, .int .i32 y] 21)).drew (.slice (some ⟨wU.heap.size, 0, none⟩) 2 2) [x, y] from (SlB.slc (c_lit (B := 0) wU [x, y] _ _ rfl rfl (Nat.zero_le _) (by simp))).ext (Ext.drew (Ext.refl _)))
          clear hxL
          generalize (wU.alloc _).drew = wL at HCL2 HVL ⊢
          generalize wU.heap.size = nl at HVL ⊢
          go_wp2_with (at_builtin; go_loud (refine app_srcC rfl _ _ rfl w1.heap.size _ _ set [x, y] HCL2.out.own rfl rfl HVL.out ?hn ?hB ?_; (case hn => (first | omega | (simp only [List.length_cons, List.length_nil]; omega))); (case hB => exact HCL2.out.only.size); intro va wa h1 h2; generalize hsl2 : set ++ [x, y] = set2 at h1; have HCA := Lib.hid (HCL2.out.app h1 h2); have HS2 := Lib.hid hsl2; obtain ⟨Aa, ca, rfl, -⟩ := h1.form; clear h1 h2 hsl2))
          go_roundg k
          case measure => omega
          case rel => exact ⟨st4.fail 5 st'.at_, set2, false, rfl, HCA.out, by rw [← HS2.out]; exact .fail _ _ _ HFK.out.1 HFK.out.2.1 HFK.out.2.2, hfo.trans HOP4.out, by rw [← HS2.out, List.length_append]; simp only [List.length_cons, List.length_nil]; omega, by omega, fun h => by omega⟩
        · have hd : decide (y < x) = false := decide_eq_false hyx
          have HB2 := Lib.hid (HN2X.out.1 (by omega))
          clear hyx
          go_quiet (fail)
          go_upto_region 18 with fail
          generalize hT : wS.drewN _ = wU
          have hxT : Ext wS wU := by rw [← hT]; exact (Ext.refl _).drewN _
          have HCU := Lib.hid (HCS.out.ex hxT)
          replace q1 := hxT.cell q1
          replace q2 := hxT.cell q2
          clear hT hxT
          go_region_held3 (fun w' => w'.cell? ⟨g1, o1, none⟩ = some (.int .i32 x) ∧ w'.cell? ⟨g2, o2, none⟩ = some (.int .i32 y)) (first | go_keep | (go_split_ands; refine ⟨?_, ?_⟩ <;> assumption)) (fail)
          have hxL : Ext wU (wU.alloc (.cells #[.int .i32 x, .int .i32 y] 21)).drew := ((Ext.refl _).alloc _).drew
          have HCL2 := Lib.hid (HCU.out.ex hxL)
          have HVL := Lib.hid (show SlC (wU.alloc (.cells #[.int .i32 x, .int .i32 y] 21)).drew (.slice (some ⟨wU.heap.size, 0, none⟩) 2 2) [x, y] from (SlB.slc (c_lit (B := 0) wU [x, y] _ _ rfl rfl (Nat.zero_le _) (by simp))).ext (Ext.drew (Ext.refl _)))
          clear hxL
          generalize (wU.alloc _).drew = wL at HCL2 HVL ⊢
          generalize wU.heap.size = nl at HVL ⊢
          go_wp2_with (at_builtin; go_loud (refine app_srcC rfl _ _ rfl w1.heap.size _ _ set [x, y] HCL2.out.own rfl rfl HVL.out ?hn ?hB ?_; (case hn => (first | omega | (simp only [List.length_cons, List.length_nil]; omega))); (case hB => exact HCL2.out.only.size); intro va wa h1 h2; generalize hsl2 : set ++ [x, y] = set2 at h1; have HCA := Lib.hid (HCL2.out.app h1 h2); have HS2 := Lib.hid hsl2; obtain ⟨Aa, ca, rfl, -⟩ := h1.form; clear h1 h2 hsl2))
          go_roundg k
          case measure => omega
          case rel => exact ⟨st4, set2, false, rfl, HCA.out, by rw [← HS2.out]; exact HB2.out, HOP4.out, by rw [← HS2.out, List.length_append]; simp only [List.length_cons, List.length_nil]; omega, by omega, fun h => by omega⟩
end
end Go.Proofs.YtfblkahjefdmaaaGreat
