/- Walk: alternatives of the document's own reader. -/
import Derived.Test.YtfblkahjefdmaaaRfK
namespace Go.Proofs.Ytfblkahjefdmaaa
open Go.RowKit

namespace RX
/-- The rounds of the alternatives: in step with the elder reader; or something is wrong, and known. -/
inductive AltI (s : List Int) (alt : St → List ReN × St) (c : Nat) (Q : List (List ReN) × St) (st : St) (K : Nat) (D : Int) (N : Nat) (k : Nat) : St → List ReN → Prop
  | sync (st' : St) (rows : List (List ReN)) : st'.ok = true → altLoop s alt k st' rows = Q → s.length + 1 ≤ k + st'.at_ → Fwd s (c + 1) st st' → (∀ l ∈ rows, ∀ x ∈ l, 0 ≤ x.deep ∧ x.deep ≤ D + 3) → rows.flatten.length ≤ 2 * (st'.at_ - st.at_) + 1 → (1 ≤ rows.length ∧ (rows.length = 1 → nxt s st' 0 = 124)) → AltI s alt c Q st K D N k st' (under (node 1 0 0 false false []) rows)
  | fail (st' : St) (l : List ReN) : st'.ok = false → st'.code = Q.2.code → st'.bat = Q.2.bat → Q.2.ok = false → st'.op = st.op → st'.at_ ≤ N + 8 → l.length ≤ K + 250 → (∀ x ∈ l, 0 ≤ x.deep ∧ x.deep ≤ D + 4) → AltI s alt c Q st K D N k st' l
section
variable {s : List Int} {alt : St → List ReN × St} {c : Nat} {st st' : St} {K : Nat} {D : Int} {N k : Nat} {l : List ReN}
theorem altP_eqQ (s : List Int) (alt : St → List ReN × St) (st : St) : altP s alt st = (if (altLoop s alt (s.length + 2 - (rowP s alt st).2.at_) (rowP s alt st).2 [(rowP s alt st).1]).1.length = 1 then (altLoop s alt (s.length + 2 - (rowP s alt st).2.at_) (rowP s alt st).2 [(rowP s alt st).1]).1.headD [] else under (node 1 0 0 false false []) (altLoop s alt (s.length + 2 - (rowP s alt st).2.at_) (rowP s alt st).2 [(rowP s alt st).1]).1, (altLoop s alt (s.length + 2 - (rowP s alt st).2.at_) (rowP s alt st).2 [(rowP s alt st).1]).2) := rfl
theorem altLoop_end {k : Nat} {st : St} {rows : List (List ReN)} (h : st.ok = false ∨ nxt s st 0 ≠ 124) : altLoop s alt k st rows = (rows, st) := by
  cases k with
  | zero => rfl
  | succ k =>
    unfold altLoop
    rw [if_neg (by
      intro h1
      simp only [Bool.and_eq_true, decide_eq_true_eq] at h1
      rcases h with h | h
      · rw [h1.1] at h; cases h
      · exact h h1.2)]
theorem alt_stop {lr : List ReN} {str : St} (h : QOut (rowP s alt st) st (K + 125) (D + 3) (N + 8) lr str) (hn : nxt s str 0 ≠ 124) : QOut (altP s alt st) st (K + 250) (D + 4) (N + 9) lr str := by
  have e : altP s alt st = ((rowP s alt st).1, (rowP s alt st).2) := by
    rw [altP_eqQ]
    have hx : (rowP s alt st).2.ok = false ∨ nxt s (rowP s alt st).2 0 ≠ 124 := by
      rcases hk : (rowP s alt st).2.ok with _ | _
      · exact .inl rfl
      · right; rw [← (h.good hk).2]; exact hn
    rw [altLoop_end hx]
    rfl
  rw [e]
  exact h.mono (by omega) (by omega) (by omega)
theorem AltI.start (halt : AltOk s c D alt) (hD : 0 ≤ D) (ha : st.at_ ≤ s.length) (h9 : st.caps ≤ 9) {lr : List ReN} {str : St} (h : QOut (rowP s alt st) st (K + 125) (D + 3) (N + 8) lr str) (hn : nxt s str 0 = 124) :
    AltI s alt c (altLoop s alt (s.length + 2 - (rowP s alt st).2.at_) (rowP s alt st).2 [(rowP s alt st).1]) st K D N (s.length + 2 - str.at_) str (node 1 0 0 false false [] :: lr.map ReN.down) := by
  have hf := rowP_fwd halt hD ha h9
  rcases hk : (rowP s alt st).2.ok with _ | _
  · rw [altLoop_end (.inl hk)]
    obtain ⟨e1, e2⟩ := h.bad hk
    refine .fail _ _ (by rw [h.ok]; exact hk) e1 e2 hk h.op h.hi ?_ ?_
    · have := h.len; simp; omega
    · intro x hx
      rcases List.mem_cons.1 hx with rfl | hx
      · exact ⟨Int.le_refl _, by show (0 : Int) ≤ D + 4; omega⟩
      · obtain ⟨y, hy, rfl⟩ := List.mem_map.1 hx
        have := h.deep y hy
        exact ⟨by show 0 ≤ y.deep + 1; omega, by show y.deep + 1 ≤ D + 4; omega⟩
  · obtain ⟨rfl, rfl⟩ := h.good hk
    have hat := hf.1.okl hk
    rw [← under_one]
    exact .sync _ _ hk rfl (by omega) hf.1 (by intro l hl x hx; simp at hl; subst hl; exact hf.2.2 x hx) (by simpa using hf.2.1) ⟨Nat.le_refl _, fun _ => hn⟩
variable {Q : List (List ReN) × St}
theorem AltI.shape (h : AltI s alt c Q st K D N k st' l) (hl : s.length ≤ 60) (hD : 0 ≤ D) : l.length ≤ K + 250 ∧ (∀ x ∈ l, 0 ≤ x.deep ∧ x.deep ≤ D + 4) ∧ st'.op = st.op := by
  cases h with
  | sync rows h1 h2 h3 h4 h5 h6 h7 =>
    have := under_tr (top := node 1 0 0 false false []) rfl (show 0 ≤ D + 3 by omega) h5
    have h7 := h4.okl h1
    refine ⟨Nat.le_trans this.1 (by omega), fun x hx => ⟨(this.2 x hx).1, by have := (this.2 x hx).2; omega⟩, h4.op⟩
  | fail _ _ _ _ _ h5 _ h7 h8 => exact ⟨h7, h8, h5⟩
theorem AltI.live (h : AltI s alt c Q st K D N k st' l) (hok : st'.ok = true) : st'.at_ ≤ s.length ∧ st'.caps ≤ 9 ∧ s.length + 1 ≤ k + st'.at_ ∧ 0 < l.length := by
  cases h with
  | sync _ h1 h2 h3 h4 => exact ⟨h4.okl h1, h4.caps9, h3, Nat.succ_pos _⟩
  | fail _ h1 => rw [hok] at h1; cases h1
theorem AltI.stop (h : AltI s alt c Q st K D N k st' l) (he : st'.ok = false ∨ nxt s st' 0 ≠ 124) (hl : s.length ≤ 60) (hD : 0 ≤ D) (hN : s.length ≤ N) : QOut (if Q.1.length = 1 then Q.1.headD [] else under (node 1 0 0 false false []) Q.1, Q.2) st (K + 250) (D + 4) (N + 9) l st' := by
  have hsh := h.shape hl hD
  cases h with
  | sync rows h1 h2 h3 h4 h5 h6 h7 =>
    have hn : nxt s st' 0 ≠ 124 := he.resolve_left (by rw [h1]; simp)
    rw [altLoop_end (.inr hn)] at h2
    subst h2
    have h8 := h4.okl h1
    rw [if_neg (fun h => hn (h7.2 h))]
    exact ⟨hsh.1, hsh.2.1, by omega, h4.op, fun _ => ⟨rfl, rfl⟩, fun _ => ⟨rfl, rfl⟩⟩
  | fail _ _ h2 h3 h4 h5 h6 h7 h8 => exact ⟨h7, h8, by omega, h5, (fun h => by rw [h4] at h; cases h), fun _ => ⟨h2, h3⟩⟩
theorem AltI.next (halt : AltOk s c D alt) (h : AltI s alt c Q st K D N (k + 1) st' l) (hok : st'.ok = true) (he : nxt s st' 0 = 124) (hlt : st'.at_ < s.length) (hl : s.length ≤ 60) (hD : 0 ≤ D) {lr : List ReN} {str : St}
    (hi : QOut (rowP s alt (st'.bump 1)) (st'.bump 1) (K + 125) (D + 3) (N + 8) lr str) : AltI s alt c Q st K D N k str (l ++ lr.map ReN.down) := by
  cases h with
  | sync rows h1 h2 h3 h4 h5 h6 h7 =>
    unfold altLoop at h2
    rw [if_pos (by rw [h1, he]; rfl)] at h2
    have hb := h4.bump 1 hlt
    have hst : (st'.bump 1).at_ = st'.at_ + 1 := rfl
    have hf := rowP_fwd halt hD (st := st'.bump 1) hlt hb.caps9
    have hlen0 := h7.1
    rw [← under_snoc]
    rcases hk : (rowP s alt (st'.bump 1)).2.ok with _ | _
    · obtain ⟨e1, e2⟩ := hi.bad hk
      rw [altLoop_end (.inl hk)] at h2
      have hu := under_tr (top := node 1 0 0 false false []) (parts := rows ++ [lr]) rfl (show 0 ≤ D + 3 by omega) (by
        intro l hl x hx
        rcases List.mem_append.1 hl with hl | hl
        · exact h5 l hl x hx
        · simp at hl; subst hl; exact hi.deep x hx)
      have hlen : (rows ++ [lr]).flatten.length ≤ 2 * (st'.at_ - st.at_) + 1 + (K + 125) := by
        rw [List.flatten_append, List.length_append, List.flatten_singleton]
        have := hi.len
        omega
      refine .fail str _ (by rw [hi.ok]; exact hk) (by rw [← h2]; exact e1) (by rw [← h2]; exact e2) (by rw [← h2]; exact hk) (hi.op.trans h4.op) hi.hi (Nat.le_trans hu.1 (by omega)) (fun x hx => ⟨(hu.2 x hx).1, by have := (hu.2 x hx).2; omega⟩)
    · obtain ⟨rfl, rfl⟩ := hi.good hk
      have h8 := hf.2.1
      have h9 := h4.mono
      have h10 := hf.1.mono
      refine .sync _ _ hk h2 (by omega) (hb.trans hf.1) ?_ ?_ ?_
      · intro l hl x hx
        rcases List.mem_append.1 hl with hl | hl
        · exact h5 l hl x hx
        · simp at hl; subst hl; exact hf.2.2 x hx
      · rw [List.flatten_append, List.length_append, List.flatten_singleton]
        omega
      · rw [List.length_append]; simp only [List.length_cons, List.length_nil]; exact ⟨by omega, fun h => by omega⟩
  | fail _ h1 => rw [hok] at h1; cases h1
end
end RX
section
variable {w0 : World} {rb : Nat} {sv : Value} {s : List Int}
set_option maxRecDepth 100000 in
set_option maxHeartbeats 3000000 in
theorem qalt_any (n : Nat) (alt : RX.St → List RX.ReN × RX.St) {c K : Nat} {D : Int} {N : Nat} (halt : RX.AltOk s c D alt) (HA : ∀ m, n = m + 1 → AltQ w0 rb sv s m alt K D N) (hK : K ≤ 10000) (hD : 0 ≤ D ∧ D ≤ 100) (hN : s.length + 4 ≤ N ∧ N ≤ 400) :
    AltQ w0 rb sv s n (RX.altP s alt) (K + 250) (D + 4) (N + 9) := by
  intro w1 st he hok ha h9 hop
  have hl60 := he.len
  have hrb := he.rbl
  have HC1 := Lib.hid (show Qb w0 rb sv s w1 st w1 from ⟨he, Only.refl _ _⟩)
  obtain ⟨R, hR⟩ : ∃ x, RX.altP s alt st = x := ⟨_, rfl⟩
  have HR := Lib.hid hR
  rw [hR]
  have HOPN := Lib.hid hop
  have HOK := Lib.hid hok
  have HRO := Lib.hid (fun w st' h h1 h2 h3 h4 => qrow_any n alt halt HA hK hD hN w st' h h1 h2 h3 h4)
  have HALT := Lib.hid halt
  have HH := Lib.hid (And.intro ha h9)
  clear he hok hR HA hop halt
  go_enter Try.func87, Try.ntmps87
  go_upto_region 2 with (go_at_call 115; go_loud (refine (HRO.out _ _ HC1.out.q HOK.out ha h9 HOPN.out).mono ?_; rintro e w2 ⟨lr, vr, str, rfl, hv, hq, ho, hout⟩; have HC2 := Lib.hid (HC1.out.call ho hq); have HV2 := Lib.hid hv; have HO2 := Lib.hid hout; obtain ⟨Ar, cr, rfl, -⟩ := hv.form; clear hv hq ho hout))
  obtain ⟨c2, hc2⟩ : ∃ x, RX.nxt s str 0 = x := ⟨_, rfl⟩
  have HN2 := Lib.hid hc2
  by_cases h124 : c2 = 124
  rotate_left
  · have b124 : (c2 != 124) = true := by simpa using h124
    have HQ := Lib.hid (RX.alt_stop HO2.out (by rw [hc2]; exact h124))
    clear hc2 h124
    go_wp2_with (go_at_call 116; go_loud (refine (qnext_any _ _ HC2.out.q).mono ?_; rw [HN2.out]; rintro e w3 ⟨rfl, hx⟩; have HC3 := Lib.hid (HC2.out.ex hx); have HV3 := Lib.hid (HV2.out.keep (keeps_re _) (KeepT.of_ext hx) (KeepT.of_ext hx)); clear hx))
    go_ret
    exact ⟨_, _, _, rfl, HV3.out, HC3.out.q.blk, HC3.out.only, by rw [← HR.out]; exact HQ.out⟩
  have b124 : (c2 != 124) = false := by simpa using h124
  have HS := Lib.hid (RX.AltI.start HALT.out hD.1 ha h9 HO2.out (hc2.trans h124))
  have hR2 := HR.out
  rw [RX.altP_eqQ] at hR2
  generalize RX.altLoop s alt (s.length + 2 - (RX.rowP s alt st).2.at_) (RX.rowP s alt st).2 [(RX.rowP s alt st).1] = Q at HS hR2
  have HR2 := Lib.hid hR2
  have hbz := HC2.out.only.size
  obtain ⟨l4, hl4⟩ : ∃ x, RX.node 1 0 0 false false [] :: lr.map RX.ReN.down = x := ⟨_, rfl⟩
  rw [hl4] at HS
  have HL4 := Lib.hid hl4
  clear hc2 h124 hR2 hl4
  go_wp2_with (first
    | (go_at_call 116; go_loud (refine (qnext_any _ _ HC2.out.q).mono ?_; rw [HN2.out]; rintro e w3 ⟨rfl, hx⟩; have HC3 := Lib.hid (HC2.out.ex hx); have HV3 := Lib.hid (HV2.out.keep (keeps_re _) (KeepT.of_ext hx) (KeepT.of_ext hx)); clear hx))
    | (go_at_call 117; go_loud (refine (qunder_any (B := w1.heap.size) _ (RX.node 1 0 0 false false []) _ lr _ CR.mk0 HV3.out HC3.out.only.size (by have := HO2.out.len; omega) (fun y hy => by have := HO2.out.deep y hy; omega)).mono ?_; rintro e w4 ⟨v4, rfl, hv4, hx4⟩; rw [HL4.out] at hv4; have HC4 := Lib.hid (show Qr w0 rb sv s w1 str v4 l4 w4 from ⟨(HC3.out.ex hx4).q, (HC3.out.ex hx4).only, hv4, hrb⟩); obtain ⟨A4, c4, rfl, -⟩ := hv4.form; clear hv4 hx4)))
  go_loopg [4] (s.length + 2 - str.at_) (fun k v wr => ∃ (st' : RX.St) (l : List RX.ReN), Qr w0 rb sv s w1 st' v l wr ∧ RX.AltI s alt c Q st K D N k st' l)
  case atStart => exact ⟨str, l4, HC4.out, HS.out⟩
  case round =>
    obtain ⟨st', l, hcc, hrow⟩ := hrel
    have HC5 := Lib.hid hcc
    have HRW := Lib.hid hrow
    obtain ⟨Al, cl, rfl, -⟩ := hcc.own.form
    have hsh := hrow.shape hl60 hD.1
    have HSH := Lib.hid hsh
    have hln := hsh.1
    clear hcc hsh
    rcases hk' : st'.ok with _ | _
    · have HK := Lib.hid hk'
      have HQ := Lib.hid (hrow.stop (.inl hk') hl60 hD.1 (by omega))
      clear hk' hrow
      go_wp2_with (go_at_call 88; go_loud (refine (qok_any _ _ HC5.out.q).mono ?_; rw [HK.out]; rintro e w6 ⟨rfl, hx⟩; have HC6 := Lib.hid (HC5.out.ex hx); clear hx))
      go_ret
      exact ⟨_, _, _, rfl, HC6.out.own.sl, HC6.out.q.blk, HC6.out.only, by rw [← HR2.out]; exact HQ.out⟩
    have HK := Lib.hid hk'
    have hlv := hrow.live hk'
    have HLV := Lib.hid hlv
    have hlp := hlv.2.2.2
    obtain ⟨cn, hcn⟩ : ∃ x, RX.nxt s st' 0 = x := ⟨_, rfl⟩
    have HN := Lib.hid hcn
    by_cases hend : cn = 124
    rotate_left
    · have HQ := Lib.hid (hrow.stop (.inr (by rw [hcn]; exact hend)) hl60 hD.1 (by omega))
      have b1 : (cn == 124) = false := by simpa using hend
      clear hk' hrow hlv hcn hend
      go_wp2_with (first
        | (go_at_call 88; go_loud (refine (qok_any _ _ HC5.out.q).mono ?_; rw [HK.out]; rintro e w6 ⟨rfl, hx⟩; have HC6 := Lib.hid (HC5.out.ex hx); clear hx))
        | (go_at_call 116; go_loud (refine (qnext_any _ _ HC6.out.q).mono ?_; rw [HN.out]; rintro e w7 ⟨rfl, hx⟩; have HC7 := Lib.hid (HC6.out.ex hx); clear hx)))
      go_ret
      exact ⟨_, _, _, rfl, HC7.out.own.sl, HC7.out.q.blk, HC7.out.only, by rw [← HR2.out]; exact HQ.out⟩
    have b1 : (cn == 124) = true := by simpa using hend
    have hlt : st'.at_ < s.length := RX.nxt_in (s := s) (k := 0) (st := st') (by rw [hcn, hend]; decide)
    obtain ⟨k, rfl⟩ : ∃ k, gk = k + 1 := ⟨gk - 1, by have := hlv.2.2.1; omega⟩
    have HEND := Lib.hid (hcn.trans hend)
    clear hk' hrow hlv hcn hend
    go_upto_region 6 with (first
      | (go_at_call 88; go_loud (refine (qok_any _ _ HC5.out.q).mono ?_; rw [HK.out]; rintro e w6 ⟨rfl, hx⟩; have HC6 := Lib.hid (HC5.out.ex hx); clear hx))
      | (go_at_call 116; go_loud (refine (qnext_any _ _ HC6.out.q).mono ?_; rw [HN.out]; rintro e w7 ⟨rfl, hx⟩; have HC7 := Lib.hid (HC6.out.ex hx); clear hx)))
    have c1 := HC7.out.q.blk.c1
    have f1 := HC7.out.q.blk.fr 1
    go_upto_region 7 with fail
    have HC8 := Lib.hid HC7.out.bump1
    generalize w7.setCell _ _ = w8 at HC8 ⊢
    clear c1 f1
    go_wp2_with (first
      | (go_at_call 115; go_loud (refine (HRO.out _ _ HC8.out.q HK.out hlt HLV.out.2.1 (by show st'.op + n = 12; rw [HSH.out.2.2]; exact HOPN.out)).mono ?_; rintro e w9 ⟨li, vi, sti, rfl, hv, hq, ho, hout⟩; have HC9 := Lib.hid (HC8.out.call ho hq); have HAP := Lib.hid (re_apart HC8.out.own hv); have HVI := Lib.hid (SlRe.weak hv HC8.out.only.size); have HOI := Lib.hid hout; obtain ⟨Ai, ci, rfl, -⟩ := hv.form; clear hv hq ho hout))
      | (go_at_call 117; go_loud (refine (qlower_any w1.heap.size w1.heap.size w1.heap.size l li _ _ _ HC9.out.own HVI.out hlp HAP.out HC9.out.only.size (by have := HOI.out.len; omega) (fun y hy => by have := HOI.out.deep y hy; omega)).mono ?_; rintro e wA ⟨v9, rfl, hw9, hg9⟩; generalize hl2 : l ++ li.map RX.ReN.down = l2 at hw9; have HCA := Lib.hid (HC9.out.app hw9 hg9); have HL2 := Lib.hid hl2; obtain ⟨A9, c9, rfl, -⟩ := hw9.form; clear hw9 hg9 hl2)))
    go_roundg k
    case measure => omega
    case rel => exact ⟨sti, l2, HCA.out, by rw [← HL2.out]; exact HRW.out.next HALT.out HK.out HEND.out hlt hl60 hD.1 HOI.out⟩
end
end Go.Proofs.Ytfblkahjefdmaaa
