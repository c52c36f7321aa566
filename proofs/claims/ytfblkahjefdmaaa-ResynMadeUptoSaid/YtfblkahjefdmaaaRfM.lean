/- Walk: Parse of the document's own reader. -/
import Derived.Test.YtfblkahjefdmaaaRfL
namespace Go.Proofs.Ytfblkahjefdmaaa
open Go.RowKit

theorem qaltN {w0 : World} {rb : Nat} {sv : Value} {s : List Int} (hl : s.length ≤ 60) : ∀ n, n ≤ 12 → AltQ w0 rb sv s n (RX.altN s n) (250 * (n + 1)) (4 * n + 4) (s.length + 4 + 9 * (n + 1))
  | 0, _ => by
    have h := qalt_any (w0 := w0) (rb := rb) (sv := sv) (s := s) 0 (fun st => ([], st)) (c := 1) (K := 0) (D := 0) (N := s.length + 4) RX.AltOk.stub (fun m hm => by cases hm) (by omega) (by omega) (by omega)
    exact h
  | n + 1, hn => by
    have h := qalt_any (w0 := w0) (rb := rb) (sv := sv) (s := s) (n + 1) (RX.altN s n) (RX.altN_ok s n) (fun m hm => by injection hm with hm; subst hm; exact qaltN hl n (by omega)) (by omega) (by omega) (by omega)
    rw [show 250 * (n + 1) + 250 = 250 * (n + 1 + 1) by omega, show (4 * (n : Int) + 4) + 4 = 4 * ((n + 1 : Nat) : Int) + 4 by omega, show s.length + 4 + 9 * (n + 1) + 9 = s.length + 4 + 9 * (n + 1 + 1) by omega] at h
    exact h
theorem class_sign (x : Int) : (RX.classOf x == 0) = !RX.isSign x := by
  unfold RX.classOf
  rcases h : RX.isSign x with _ | _
  · simp
  · simp only [if_neg (show ¬ (true = false) by decide)]
    split
    · rfl
    split
    · rfl
    split
    · rfl
    split
    · rfl
    · rfl
theorem sign_pos {x : Int} (h : RX.isSign x = true) : 0 ≤ x := by
  unfold RX.isSign at h
  simp only [Bool.and_eq_true, decide_eq_true_eq] at h
  exact h.1.1
theorem parse_some {s : List Int} {k : Nat} {x : Int} (hx : s[k]? = some x) (hn : RX.isSign x = false) (hp : ∀ j, j < k → ∀ x, s[j]? = some x → RX.isSign x = true) : s.findIdx? (fun c => RX.classOf c == 0) = some k := by
  obtain ⟨hk, hx⟩ := List.getElem?_eq_some_iff.1 hx
  rw [List.findIdx?_eq_some_iff_getElem]
  refine ⟨hk, by rw [class_sign, hx, hn]; rfl, fun j hj => ?_⟩
  rw [class_sign, hp j hj _ (List.getElem?_eq_getElem (by omega))]
  decide
theorem parse_none {s : List Int} (hp : ∀ x ∈ s, RX.isSign x = true) : s.findIdx? (fun c => RX.classOf c == 0) = none := by
  rw [List.findIdx?_eq_none_iff]
  intro x hx
  rw [class_sign, hp x hx]
  rfl
/-- Inside of Parse: the reader behind the fault's cells; the tree. -/
structure Pq (w : World) (nb : Nat) (s : List Int) (sv : Value) (st : RX.St) (vl : Value) (l : List RX.ReN) (wr : World) : Prop where
  q : Qn (w.alloc (.cells #[.int .i64 0, .int .i64 0] 36)) (nb + 1) sv s wr st
  ext : Ext w wr
  box : wr.heap[nb]? = some (.cells #[.int .i64 0, .int .i64 0] 36 (0, 0))
  val : SlRe (nb + 2) (nb + 2) wr vl l
  nbs : nb = w.heap.size
section
variable {w wr w' : World} {nb : Nat} {s : List Int} {sv vl vl' : Value} {st st' : RX.St} {l l' : List RX.ReN}
theorem Pq.call (h : Pq w nb s sv st vl l wr) (ho : Only wr w' (nb + 1)) (hq : QS (nb + 1) sv w' st') : Pq w nb s sv st' vl l w' :=
  ⟨h.q.step ho hq, h.ext.only ho (by have := h.nbs; omega), (ho.block nb (heap_lt h.box) (by intro e; injection e with e; omega)).trans h.box, SlB.only h.val (keepsB_re _) ho, h.nbs⟩
theorem Pq.ex (h : Pq w nb s sv st vl l wr) (hx : Ext wr w') : Pq w nb s sv st vl l w' := h.call (Only.of_ext hx _) (hx.heap h.q.blk)
theorem Pq.setv (h : Pq w nb s sv st vl l wr) (hv : SlRe (nb + 2) (nb + 2) wr vl' l') : Pq w nb s sv st vl' l' wr := ⟨h.q, h.ext, h.box, hv, h.nbs⟩
theorem Pq.done {n : Nat} {x y : Value} (h : Pq w nb s sv st vl l wr) : SlRe w.heap.size w.heap.size (((wr.drewN n).setCell ⟨nb, 0, none⟩ x).setCell ⟨nb, 1, none⟩ y) vl l ∧ Ext w (((wr.drewN n).setCell ⟨nb, 0, none⟩ x).setCell ⟨nb, 1, none⟩ y) := by
  have hb := h.nbs
  have ho : Only wr (((wr.drewN n).setCell ⟨nb, 0, none⟩ x).setCell ⟨nb, 1, none⟩ y) nb := (((Only.refl _ _).drewN n).set _).set _
  exact ⟨SlRe.weak (SlB.keepB h.val (keepsB_re _) (KeepB.low ho (by omega))) (by omega), h.ext.only ho (by omega)⟩
end
set_option maxRecDepth 100000 in
set_option maxHeartbeats 4000000 in
theorem qparse_any (s : List Int) (v : Value) (w : World) (hv : SlC w v s) : Calls Try.prog 56 #[v] w (ParseP s w) := by
  obtain ⟨A, c, rfl, hlc, hcm, _⟩ := id hv
  by_cases hlen : 60 < s.length
  · have hP := Lib.hid (show RX.parse s = ([], 3, 60) by unfold RX.parse; rw [if_pos hlen])
    have hd : decide ((60 : Int) < s.length) = true := by simp; omega
    clear hv
    go_enter Try.func56, Try.ntmps56
    go_wp2_with fail
    refine bodyPost_ret (v := .tuple #[.slice none 0 0, .agg #[.int .i64 3, .int .i64 60]]) (by simp [results, Try.results56, go_sem]) rfl ?_
    exact ⟨_, _, rfl, by rw [hP.out]; exact ⟨SlB.nil_, rfl⟩, (Ext.refl w).alloc _⟩
  have hd : decide ((60 : Int) < s.length) = false := by simp; omega
  have hl60 : s.length ≤ 60 := by omega
  have HS := Lib.hid (hv.ext ((Ext.refl w).alloc (.cells #[.int .i64 0, .int .i64 0] 36)))
  have HP := Lib.hid (show RX.parse s = match s.findIdx? (fun c => RX.classOf c == 0) with
    | some i => ([], 1, (i : Int))
    | none =>
      let r := RX.altN s 12 ⟨0, 0, 0, 0, 0⟩
      let st := if r.2.ok = true ∧ r.2.at_ < s.length then r.2.fail 5 r.2.at_ else r.2
      if st.ok then (r.1, 0, 0) else ([], st.code, st.bat) from by unfold RX.parse; rw [if_neg hlen]; rfl)
  clear hv hlen
  go_enter Try.func56, Try.ntmps56
  go_wp2_with fail
  go_loop [4] (fun i => ∃ k : Nat, k ≤ s.length ∧ i = .int .i64 k ∧ ∀ j, j < k → ∀ x, s[j]? = some x → RX.isSign x = true) (fun i => s.length - (intOf i).toNat)
  case atStart => exact ⟨0, Nat.zero_le _, rfl, by intro j hj; omega⟩
  case round =>
    obtain ⟨k, hk, rfl, hpre⟩ := hrel
    have HPR := Lib.hid hpre
    clear hpre
    by_cases hlt : k < s.length
    · obtain ⟨b, o, rfl, hc⟩ := HS.out.at_ (k := k) hlt
      have hki : (k : Int) < (s.length : Int) := by omega
      have hdk : decide ((k : Int) < (s.length : Int)) = true := decide_eq_true hki
      have hg : s[k]? = some s[k] := List.getElem?_eq_getElem hlt
      generalize s[k] = x at hc hg
      have HG := Lib.hid hg
      clear hg
      rcases hsg : RX.isSign x with _ | _
      · have HSG := Lib.hid hsg
        clear hsg
        go_wp2_with (go_at_call 51; go_loud (refine (rsignQ_any x _).mono ?_; rw [HSG.out]; rintro e w3 ⟨rfl, rfl⟩))
        have hp1 := HP.out
        rw [parse_some HG.out HSG.out HPR.out] at hp1
        refine bodyPost_ret (v := .tuple #[.slice none 0 0, .agg #[.int .i64 1, .int .i64 k]]) (by simp [results, Try.results56, go_sem]) rfl ?_
        exact ⟨_, _, rfl, by rw [hp1]; exact ⟨SlB.nil_, rfl⟩, (Ext.refl w).alloc _⟩
      · have HSG := Lib.hid hsg
        clear hsg
        go_wp2_with (go_at_call 51; go_loud (refine (rsignQ_any x _).mono ?_; rw [HSG.out]; rintro e w3 ⟨rfl, rfl⟩))
        go_round
        case rel => exact ⟨k + 1, by omega, by go_num, by
          intro j hj y hy
          rcases Nat.lt_succ_iff_lt_or_eq.1 hj with h | rfl
          · exact HPR.out j h y hy
          · rw [HG.out] at hy; injection hy with hy; rw [← hy]; exact HSG.out⟩
        case measure => simp [intOf]; omega
    · have hdk : decide ((k : Int) < (s.length : Int)) = false := by simp; omega
      go_upto_region 9 with fail
      have hall : ∀ x ∈ s, RX.isSign x = true := by
        intro x hx
        obtain ⟨j, hj, e⟩ := List.mem_iff_getElem.1 hx
        exact HPR.out j (by omega) x (by rw [List.getElem?_eq_getElem hj, e])
      have hp1 := HP.out
      rw [parse_none hall] at hp1
      dsimp only at hp1
      obtain ⟨nb, hnb⟩ : ∃ nb, nb = w.heap.size := ⟨_, rfl⟩
      have HC1 := Lib.hid (show Pq w nb s (.slice A s.length c) ⟨0, 0, 0, 0, 0⟩ (.slice none 0 0) [] ((w.alloc (.cells #[.int .i64 0, .int .i64 0] 36)).alloc (.cells #[.slice A s.length c, .int .i64 0, .int .i64 0, .int .i64 0, .int .i64 0, .int .i64 0] 130)) from
        ⟨⟨HS.out, by simp; omega, hl60, fun x hx => sign_pos (hall x hx), (Ext.refl _).alloc _, by
            have := heap_alloc_new (w.alloc (.cells #[.int .i64 0, .int .i64 0] 36)) (.cells #[.slice A s.length c, .int .i64 0, .int .i64 0, .int .i64 0, .int .i64 0, .int .i64 0] 130)
            rw [show nb + 1 = (w.alloc (.cells #[.int .i64 0, .int .i64 0] 36)).heap.size by simp; omega]
            exact this⟩, ((Ext.refl w).alloc _).alloc _, ((Ext.refl _).alloc _).heap (hnb ▸ heap_alloc_new w _), SlB.nil_, hnb⟩)
      have HAL := Lib.hid (qaltN (w0 := w.alloc (.cells #[.int .i64 0, .int .i64 0] 36)) (rb := nb + 1) (sv := .slice A s.length c) (s := s) hl60 12 (Nat.le_refl _))
      generalize hr : RX.altN s 12 ⟨0, 0, 0, 0, 0⟩ = r at hp1
      generalize hsq : (if r.2.ok = true ∧ r.2.at_ < s.length then r.2.fail 5 r.2.at_ else r.2) = stq at hp1
      have HSQ := Lib.hid hsq
      have HR := Lib.hid hr
      have HPP := Lib.hid hp1
      have HNB := Lib.hid hnb
      have hbz : nb + 2 ≤ ((w.alloc (.cells #[.int .i64 0, .int .i64 0] 36)).alloc (.cells #[.slice A s.length c, .int .i64 0, .int .i64 0, .int .i64 0, .int .i64 0, .int .i64 0] 130)).heap.size := HC1.out.q.rbl
      rw [← hnb]
      generalize (w.alloc _).alloc _ = w2 at HC1 hbz ⊢
      clear hp1 hr hall hdk hlt hnb hsq
      go_upto_region 10 with (go_at_call 87; go_loud (refine (HAL.out _ _ HC1.out.q rfl (Nat.zero_le _) (by decide) rfl).mono ?_; rintro e w3 ⟨l, v, st, rfl, hv, hq, ho, hout⟩; have HC3 := Lib.hid ((HC1.out.call ho hq).setv (SlRe.weak hv hbz)); rw [HR.out] at hout; have HO := Lib.hid hout; obtain ⟨Av, cv, rfl, -⟩ := hv.form; clear hv hq ho hout))
      rcases hk' : st.ok with _ | _
      · have HK := Lib.hid hk'
        have hrk : r.2.ok = false := by rw [← HO.out.ok]; exact hk'
        have hcb := HO.out.bad hrk
        have hp := HPP.out
        have hk2 : stq = r.2 := by rw [← HSQ.out, if_neg (by rw [hrk]; simp)]
        rw [hk2, if_neg (by rw [hrk]; simp), ← hcb.1, ← hcb.2] at hp
        have HPX := Lib.hid hp
        clear hk' hrk hcb hp hk2
        go_upto_region 13 with (first
          | (go_at_call 88; go_loud (refine (qok_any _ _ HC3.out.q).mono ?_; rw [HK.out]; rintro e w4 ⟨rfl, hx⟩; have HC4 := Lib.hid (HC3.out.ex hx); have c1 := HC4.out.q.blk.c1; clear hx))
          | (go_at_call 88; go_loud (refine (qok_any _ _ HC4.out.q).mono ?_; rw [HK.out]; rintro e w5 ⟨rfl, hx⟩; have HC5 := Lib.hid (HC4.out.ex hx); have c1 := HC5.out.q.blk.c1; clear hx)))
        have c4 := HC5.out.q.blk.c4
        have c5 := HC5.out.q.blk.c5
        have b0 := cell_of_row _ nb 0 _ _ _ HC5.out.box
        have b1 := cell_of_row _ nb 1 _ _ _ HC5.out.box
        have g0 := frozen_of_row _ nb 0 _ _ HC5.out.box
        have g1 := frozen_of_row _ nb 1 _ _ HC5.out.box
        go_region
        all_goals go_wp2_with fail
        all_goals refine bodyPost_ret (v := .tuple #[.slice none 0 0, .agg #[.int .i64 st.code, .int .i64 st.bat]]) (by simp [results, Try.results56, go_sem, *]) rfl ?_
        all_goals
          have hd := HC5.out.done (n := 1) (x := .int .i64 st.code) (y := .int .i64 st.bat)
          exact ⟨_, _, rfl, by rw [HPX.out]; exact ⟨SlB.nil_, rfl⟩, hd.2⟩
      have HK := Lib.hid hk'
      have hrk : r.2.ok = true := by rw [← HO.out.ok]; exact hk'
      obtain ⟨e1, e2⟩ := HO.out.good hrk
      have hp := HPP.out
      have hsq := HSQ.out
      rw [← e1] at hp
      rw [← e2] at hsq
      have hnl : st.at_ ≤ 1000 := by have := HO.out.hi; omega
      by_cases hat : st.at_ < s.length
      · have hda : decide ((st.at_ : Int) < (s.length : Int)) = true := by simp; omega
        have hno := RX.failno st st.at_
        rw [if_pos ⟨hk', hat⟩] at hsq
        rw [← hsq, if_neg (by rw [hno]; simp)] at hp
        have HPX := Lib.hid hp
        have HNO := Lib.hid hno
        clear hk' hrk e1 e2 hp hno hsq
        go_upto_region 11 with (go_at_call 88; go_loud (refine (qok_any _ _ HC3.out.q).mono ?_; rw [HK.out]; rintro e w4 ⟨rfl, hx⟩; have HC4 := Lib.hid (HC3.out.ex hx); have c1 := HC4.out.q.blk.c1; clear hx))
        go_upto_region 13 with (first
          | (go_at_call 89; go_loud (refine (qbad_any _ _ 5 (st.at_ : Int) HC4.out.q).mono ?_; rintro e w6 ⟨rfl, hq, ho⟩; have HC6 := Lib.hid (HC4.out.call ho hq); clear hq ho))
          | (go_at_call 88; go_loud (refine (qok_any _ _ HC6.out.q).mono ?_; rw [HNO.out]; rintro e w5 ⟨rfl, hx⟩; have HC5 := Lib.hid (HC6.out.ex hx); have c1 := HC5.out.q.blk.c1; clear hx)))
        generalize st.fail 5 (st.at_ : Int) = st2 at HC5 HPX
        have c4 := HC5.out.q.blk.c4
        have c5 := HC5.out.q.blk.c5
        have b0 := cell_of_row _ nb 0 _ _ _ HC5.out.box
        have b1 := cell_of_row _ nb 1 _ _ _ HC5.out.box
        have g0 := frozen_of_row _ nb 0 _ _ HC5.out.box
        have g1 := frozen_of_row _ nb 1 _ _ HC5.out.box
        go_region
        all_goals go_wp2_with fail
        all_goals refine bodyPost_ret (v := .tuple #[.slice none 0 0, .agg #[.int .i64 st2.code, .int .i64 st2.bat]]) (by simp [results, Try.results56, go_sem, *]) rfl ?_
        all_goals
          have hd := HC5.out.done (n := 1) (x := .int .i64 st2.code) (y := .int .i64 st2.bat)
          exact ⟨_, _, rfl, by rw [HPX.out]; exact ⟨SlB.nil_, rfl⟩, hd.2⟩
      · have hda : decide ((st.at_ : Int) < (s.length : Int)) = false := by simp; omega
        rw [if_neg (fun h => hat h.2)] at hsq
        rw [← hsq, if_pos hk'] at hp
        have HPX := Lib.hid hp
        clear hk' hrk e1 e2 hp hsq
        go_upto_region 14 with (first
          | (go_at_call 88; go_loud (refine (qok_any _ _ HC3.out.q).mono ?_; rw [HK.out]; rintro e w4 ⟨rfl, hx⟩; have HC4 := Lib.hid (HC3.out.ex hx); have c1 := HC4.out.q.blk.c1; clear hx))
          | (go_at_call 88; go_loud (refine (qok_any _ _ HC4.out.q).mono ?_; rw [HK.out]; rintro e w5 ⟨rfl, hx⟩; have HC5 := Lib.hid (HC4.out.ex hx); have c1 := HC5.out.q.blk.c1; clear hx)))
        have b0 := cell_of_row _ nb 0 _ _ _ HC5.out.box
        have b1 := cell_of_row _ nb 1 _ _ _ HC5.out.box
        have g0 := frozen_of_row _ nb 0 _ _ HC5.out.box
        have g1 := frozen_of_row _ nb 1 _ _ HC5.out.box
        go_wp2_with fail
        refine bodyPost_ret (v := .tuple #[.slice Av l.length cv, .agg #[.int .i64 0, .int .i64 0]]) (by simp [results, Try.results56, go_sem, b0, b1]) rfl ?_
        have hd := HC5.out.done (n := 0) (x := .int .i64 0) (y := .int .i64 0)
        exact ⟨_, _, rfl, by rw [HPX.out]; exact ⟨hd.1, rfl⟩, hd.2⟩
end Go.Proofs.Ytfblkahjefdmaaa
