/- Walk: row of the document's own reader. -/
import Derived.Test.YtfblkahjefdmaaaRfJ
namespace Go.Proofs.Ytfblkahjefdmaaa
open Go.RowKit

namespace RX
theorem under_snoc (x : ReN) (items : List (List ReN)) (l : List ReN) : under x (items ++ [l]) = under x items ++ l.map ReN.down := by simp [under]
/-- The rounds of a row: in step with the elder reader; or something is wrong, and known. -/
inductive RowI (s : List Int) (alt : St → List ReN × St) (c : Nat) (R : List ReN × St) (st : St) (K : Nat) (D : Int) (N : Nat) (k : Nat) : St → List ReN → Prop
  | sync (st' : St) (items : List (List ReN)) : st'.ok = true → rowLoop s alt k st' items = R → s.length + 1 ≤ k + st'.at_ → Fwd s (c + 1) st st' → (∀ l ∈ items, ∀ x ∈ l, 0 ≤ x.deep ∧ x.deep ≤ D + 2) → items.flatten.length ≤ 2 * (st'.at_ - st.at_) → RowI s alt c R st K D N k st' (under (node 0 0 0 false false []) items)
  | fail (st' : St) (l : List ReN) : st'.ok = false → st'.code = R.2.code → st'.bat = R.2.bat → R.2.ok = false → st'.op = st.op → st'.at_ ≤ N + 8 → l.length ≤ K + 125 → (∀ x ∈ l, 0 ≤ x.deep ∧ x.deep ≤ D + 3) → RowI s alt c R st K D N k st' l
section
variable {s : List Int} {alt : St → List ReN × St} {c : Nat} {R : List ReN × St} {st st' : St} {K : Nat} {D : Int} {N k : Nat} {l : List ReN}
theorem RowI.start (hok : st.ok = true) (ha : st.at_ ≤ s.length) (h9 : st.caps ≤ 9) (hR : rowLoop s alt k st [] = R) (hk : s.length + 1 ≤ k + st.at_) : RowI s alt c R st K D N k st [node 0 0 0 false false []] :=
  .sync st [] hok hR hk (Fwd.refl _ ha h9) (by simp) (by simp)
theorem RowI.shape (h : RowI s alt c R st K D N k st' l) (hl : s.length ≤ 60) (hD : 0 ≤ D) : l.length ≤ K + 125 ∧ (∀ x ∈ l, 0 ≤ x.deep ∧ x.deep ≤ D + 3) ∧ st'.op = st.op := by
  cases h with
  | sync items h1 h2 h3 h4 h5 h6 =>
    have := under_tr (top := node 0 0 0 false false []) rfl (show 0 ≤ D + 2 by omega) h5
    have h7 := h4.okl h1
    refine ⟨Nat.le_trans this.1 (by omega), fun x hx => ⟨(this.2 x hx).1, by have := (this.2 x hx).2; omega⟩, h4.op⟩
  | fail _ _ _ _ _ h5 _ h7 h8 => exact ⟨h7, h8, h5⟩
theorem RowI.out (h : RowI s alt c R st K D N k st' l) (hok : st'.ok = false) : QOut R st (K + 125) (D + 3) (N + 8) l st' := by
  cases h with
  | sync _ h1 => rw [hok] at h1; cases h1
  | fail _ _ h2 h3 h4 h5 h6 h7 h8 => exact ⟨h7, h8, h6, h5, (fun h => by rw [h4] at h; cases h), fun _ => ⟨h2, h3⟩⟩
theorem RowI.live (h : RowI s alt c R st K D N k st' l) (hok : st'.ok = true) : st'.at_ ≤ s.length ∧ st'.caps ≤ 9 ∧ s.length + 1 ≤ k + st'.at_ ∧ 0 < l.length := by
  cases h with
  | sync _ h1 h2 h3 h4 => exact ⟨h4.okl h1, h4.caps9, h3, Nat.succ_pos _⟩
  | fail _ h1 => rw [hok] at h1; cases h1
theorem RowI.stop (h : RowI s alt c R st K D N (k + 1) st' l) (hok : st'.ok = true) (he : rowEnds (nxt s st' 0) = true) (hl : s.length ≤ 60) (hD : 0 ≤ D) (hN : s.length ≤ N) : QOut R st (K + 125) (D + 3) (N + 8) l st' := by
  have hsh := h.shape hl hD
  have hlv := h.live hok
  cases h with
  | sync items h1 h2 h3 h4 h5 h6 =>
    unfold rowLoop at h2
    rw [if_pos h1, if_pos he] at h2
    subst h2
    exact ⟨hsh.1, hsh.2.1, by omega, h4.op, fun _ => ⟨rfl, rfl⟩, fun _ => ⟨rfl, rfl⟩⟩
  | fail _ h1 => rw [hok] at h1; cases h1
theorem RowI.next (halt : AltOk s c D alt) (h : RowI s alt c R st K D N (k + 1) st' l) (hok : st'.ok = true) (he : rowEnds (nxt s st' 0) = false) (hlt : st'.at_ < s.length) (hl : s.length ≤ 60) (hD : 0 ≤ D) {li : List ReN} {sti : St}
    (hi : QOut (itemP s alt st') st' (K + 2) (D + 2) (N + 8) li sti) : RowI s alt c R st K D N k sti (l ++ li.map ReN.down) := by
  have hlv := h.live hok
  cases h with
  | sync items h1 h2 h3 h4 h5 h6 =>
    unfold rowLoop at h2
    rw [if_pos h1, if_neg (by rw [he]; simp)] at h2
    have hf := itemP_fwd halt hD hok hlt h4.caps9
    rw [← under_snoc]
    rcases hk : (itemP s alt st').2.ok with _ | _
    · obtain ⟨e1, e2⟩ := hi.bad hk
      have hR : R = ([], (itemP s alt st').2) := by
        rw [← h2]
        cases k with
        | zero => rfl
        | succ k => unfold rowLoop; rw [if_neg (by rw [hk]; simp)]
      have hu := under_tr (top := node 0 0 0 false false []) (parts := items ++ [li]) rfl (show 0 ≤ D + 2 by omega) (by
        intro l hl x hx
        rcases List.mem_append.1 hl with hl | hl
        · exact h5 l hl x hx
        · simp at hl; subst hl; exact hi.deep x hx)
      have hlen : (items ++ [li]).flatten.length ≤ 2 * (st'.at_ - st.at_) + (K + 2) := by
        rw [List.flatten_append, List.length_append, List.flatten_singleton]
        have := hi.len
        omega
      refine .fail sti _ (by rw [hi.ok]; exact hk) (by rw [hR]; exact e1) (by rw [hR]; exact e2) (by rw [hR]; exact hk) (hi.op.trans h4.op) hi.hi (Nat.le_trans hu.1 (by omega)) (fun x hx => ⟨(hu.2 x hx).1, by have := (hu.2 x hx).2; omega⟩)
    · obtain ⟨rfl, rfl⟩ := hi.good hk
      have h7 := hf.2.2 hk
      have h8 := hf.2.1.1
      have h9 := h4.mono
      refine .sync _ _ hk h2 (by omega) (h4.trans hf.1) ?_ ?_
      · intro l hl x hx
        rcases List.mem_append.1 hl with hl | hl
        · exact h5 l hl x hx
        · simp at hl; subst hl; exact hi.deep x hx
      · rw [List.flatten_append, List.length_append, List.flatten_singleton]
        omega
  | fail _ h1 => rw [hok] at h1; cases h1
end
end RX
/-- Inside of a method that grows a row of nodes: the reader, the row. -/
structure Qr (w0 : World) (rb : Nat) (sv : Value) (s : List Int) (w1 : World) (st : RX.St) (v : Value) (l : List RX.ReN) (wr : World) : Prop where
  q : Qn w0 rb sv s wr st
  only : Only w1 wr rb
  own : OwnRe w1.heap.size w1.heap.size wr v l
  lt : rb < w1.heap.size
section
variable {w0 w1 wr w' : World} {rb : Nat} {sv v v' : Value} {s : List Int} {st st' : RX.St} {l l' : List RX.ReN}
theorem Qr.call (h : Qr w0 rb sv s w1 st v l wr) (ho : Only wr w' rb) (hq : QS rb sv w' st') : Qr w0 rb sv s w1 st' v l w' := ⟨h.q.step ho hq, h.only.trans ho, h.own.keepB (keepsB_re _) (KeepB.low ho h.lt), h.lt⟩
theorem Qr.ex (h : Qr w0 rb sv s w1 st v l wr) (hx : Ext wr w') : Qr w0 rb sv s w1 st v l w' := h.call (Only.of_ext hx rb) (hx.heap h.q.blk)
theorem Qr.bump1 (h : Qr w0 rb sv s w1 st v l wr) : Qr w0 rb sv s w1 (st.bump 1) v l (wr.setCell ⟨rb, 1, none⟩ (.int .i64 ((st.at_ : Int) + 1))) := h.call ((Only.refl _ rb).set _) h.q.bump1.blk
theorem Qr.app (h : Qr w0 rb sv s w1 st v l wr) (h1 : OwnRe w1.heap.size w1.heap.size w' v' l') (h2 : wr.grownBy w' v.ownBlock) : Qr w0 rb sv s w1 st v' l' w' := by
  have hg : ∀ k, v.ownBlock = some k → w1.heap.size ≤ k := fun k hk => (h.own.lt k hk).1
  refine ⟨⟨h.q.sl, h.q.lo, h.q.len, h.q.pos, h.q.ext.grown h2 (fun k hk => by have := hg k hk; have := h.lt; have := h.q.lo; omega), ?_⟩, Only.own (nb := w1.heap.size) h.only h2 hg (Nat.le_refl _), h1, h.lt⟩
  exact (h2.block rb h.q.rbl (by intro e; have := hg rb e.symm; have := h.lt; omega)).trans h.q.blk
/-- Two rows of nodes, of which one was held ahead of the other. -/
theorem re_apart {B b : Nat} {w w2 : World} {v vm : Value} {l more : List RX.ReN} (h : OwnRe B b w v l) (hm : SlRe w.heap.size w.heap.size w2 vm more) : ∀ g o n c, vm = .slice (some ⟨g, o, none⟩) n c → v.ownBlock ≠ some g := by
  intro g o n c hv hg
  obtain ⟨A, c', e, -, -, -, hA⟩ := hm
  rw [hv] at e
  injection e with e1 _ _
  obtain ⟨_, _, _, e2, e3, -⟩ := hA _ e1.symm
  injection e2 with e2 _ _
  have := (h.lt _ hg).2
  omega
end
section
variable {w0 : World} {rb : Nat} {sv : Value} {s : List Int}
set_option maxRecDepth 100000 in
set_option maxHeartbeats 3000000 in
theorem qrow_any (n : Nat) (alt : RX.St → List RX.ReN × RX.St) {c K : Nat} {D : Int} {N : Nat} (halt : RX.AltOk s c D alt) (HA : ∀ m, n = m + 1 → AltQ w0 rb sv s m alt K D N) (hK : K ≤ 10000) (hD : 0 ≤ D ∧ D ≤ 100) (hN : s.length + 4 ≤ N ∧ N ≤ 400)
    (w1 : World) (st : RX.St) (he : Qn w0 rb sv s w1 st) (hok : st.ok = true) (ha : st.at_ ≤ s.length) (h9 : st.caps ≤ 9) (hop : st.op + n = 12) :
    Calls Try.prog 115 #[.pointer (some ⟨rb, 0, none⟩)] w1 (QP rb sv w1 (RX.rowP s alt st) st (K + 125) (D + 3) (N + 8)) := by
  have hl60 := he.len
  have hrb := he.rbl
  have HPOS := Lib.hid he.pos
  have HC1 := Lib.hid (show Qb w0 rb sv s w1 st w1 from ⟨he, Only.refl _ _⟩)
  obtain ⟨R, hR⟩ : ∃ x, RX.rowP s alt st = x := ⟨_, rfl⟩
  rw [hR]
  have HS := Lib.hid (RX.RowI.start (c := c) (K := K) (D := D) (N := N) hok ha h9 (show RX.rowLoop s alt (s.length + 2 - st.at_) st [] = R from hR) (by omega))
  have HOPN := Lib.hid hop
  have HIT := Lib.hid (fun w st' h h1 h2 h3 h4 => qitem_any n alt HA hK hD hN w st' h h1 h2 h3 h4)
  have HALT := Lib.hid halt
  clear he hok hR HA hop halt
  go_enter Try.func115, Try.ntmps115
  go_upto_region 2 with fail
  have HC2 := Lib.hid (show Qr w0 rb sv s w1 st (.slice (some ⟨w1.heap.size, 0, none⟩) 1 1) [RX.node 0 0 0 false false []] _ from ⟨(HC1.out.ex ((Ext.refl w1).alloc (.cells #[.int .i64 0, .int .i64 0, .int .i64 0, .int .i64 0, .bool false, .bool false, .slice none 0 0] 40))).q, Only.of_ext ((Ext.refl w1).alloc _) rb, reQ_lit rfl (Nat.le_refl _) CR.mk0, hrb⟩)
  generalize w1.alloc _ = w2 at HC2 ⊢
  go_wp2_with fail
  go_loopg [3] (s.length + 2 - st.at_) (fun k v wr => ∃ (st' : RX.St) (l : List RX.ReN), Qr w0 rb sv s w1 st' v l wr ∧ RX.RowI s alt c R st K D N k st' l)
  case atStart => exact ⟨st, _, HC2.out, HS.out⟩
  case round =>
    obtain ⟨st', l, hcc, hrow⟩ := hrel
    have HC3 := Lib.hid hcc
    have HRW := Lib.hid hrow
    obtain ⟨Al, cl, rfl, -⟩ := hcc.own.form
    have hsh := hrow.shape hl60 hD.1
    have HSH := Lib.hid hsh
    have hln := hsh.1
    have HK0 := Lib.hid hcc.own.lt
    clear hcc hsh
    rcases hk' : st'.ok with _ | _
    · have HK := Lib.hid hk'
      have HQ := Lib.hid (hrow.out hk')
      clear hk' hrow
      go_wp2_with (go_at_call 88; go_loud (refine (qok_any _ _ HC3.out.q).mono ?_; rw [HK.out]; rintro e w4 ⟨rfl, hx⟩; have HC4 := Lib.hid (HC3.out.ex hx); clear hx))
      go_ret
      exact ⟨_, _, _, rfl, HC4.out.own.sl, HC4.out.q.blk, HC4.out.only, HQ.out⟩
    have HK := Lib.hid hk'
    have hlv := hrow.live hk'
    have HLV := Lib.hid hlv
    have hlp := hlv.2.2.2
    obtain ⟨k, rfl⟩ : ∃ k, gk = k + 1 := ⟨gk - 1, by have := hlv.2.2.1; have := hlv.1; omega⟩
    obtain ⟨cn, hcn⟩ : ∃ x, RX.nxt s st' 0 = x := ⟨_, rfl⟩
    have HN := Lib.hid hcn
    have hc0 : cn = -1 ∨ 0 ≤ cn := by
      rw [← hcn]
      unfold RX.nxt
      rcases hx : s[st'.at_ + 0]? with _ | x
      · exact .inl rfl
      · exact .inr (HPOS.out x (List.mem_of_getElem? hx))
    rcases hend : RX.rowEnds cn with _ | _
    rotate_left
    · have HQ := Lib.hid (hrow.stop hk' (by rw [hcn]; exact hend) hl60 hD.1 (by omega))
      have h3 : cn = -1 ∨ cn = 124 ∨ cn = 41 := by unfold RX.rowEnds at hend; simp at hend; omega
      clear hk' hrow hlv hcn hend
      by_cases h1 : cn = -1
      · have d0 : decide ((0 : Int) ≤ cn) = false := by simp; omega
        clear h1 h3 hc0
        go_wp2_with (first
          | (go_at_call 88; go_loud (refine (qok_any _ _ HC3.out.q).mono ?_; rw [HK.out]; rintro e w4 ⟨rfl, hx⟩; have HC4 := Lib.hid (HC3.out.ex hx); clear hx))
          | (go_at_call 116; go_loud (refine (qnext_any _ _ HC4.out.q).mono ?_; rw [HN.out]; rintro e w5 ⟨rfl, hx⟩; have HC5 := Lib.hid (HC4.out.ex hx); clear hx)))
        go_ret
        exact ⟨_, _, _, rfl, HC5.out.own.sl, HC5.out.q.blk, HC5.out.only, HQ.out⟩
      have d0 : decide ((0 : Int) ≤ cn) = true := by simp; omega
      by_cases h2 : cn = 124
      · have b1 : (cn != 124) = false := by simpa using h2
        clear h1 h2 h3 hc0
        go_wp2_with (first
          | (go_at_call 88; go_loud (refine (qok_any _ _ HC3.out.q).mono ?_; rw [HK.out]; rintro e w4 ⟨rfl, hx⟩; have HC4 := Lib.hid (HC3.out.ex hx); clear hx))
          | (go_at_call 116; go_loud (refine (qnext_any _ _ HC4.out.q).mono ?_; rw [HN.out]; rintro e w5 ⟨rfl, hx⟩; have HC5 := Lib.hid (HC4.out.ex hx); clear hx))
          | (go_at_call 116; go_loud (refine (qnext_any _ _ HC5.out.q).mono ?_; rw [HN.out]; rintro e w6 ⟨rfl, hx⟩; have HC6 := Lib.hid (HC5.out.ex hx); clear hx)))
        go_ret
        exact ⟨_, _, _, rfl, HC6.out.own.sl, HC6.out.q.blk, HC6.out.only, HQ.out⟩
      · have b1 : (cn != 124) = true := by simpa using h2
        have b2 : (cn != 41) = false := by have : cn = 41 := by omega
                                           simpa using this
        clear h1 h2 h3 hc0
        go_wp2_with (first
          | (go_at_call 88; go_loud (refine (qok_any _ _ HC3.out.q).mono ?_; rw [HK.out]; rintro e w4 ⟨rfl, hx⟩; have HC4 := Lib.hid (HC3.out.ex hx); clear hx))
          | (go_at_call 116; go_loud (refine (qnext_any _ _ HC4.out.q).mono ?_; rw [HN.out]; rintro e w5 ⟨rfl, hx⟩; have HC5 := Lib.hid (HC4.out.ex hx); clear hx))
          | (go_at_call 116; go_loud (refine (qnext_any _ _ HC5.out.q).mono ?_; rw [HN.out]; rintro e w6 ⟨rfl, hx⟩; have HC6 := Lib.hid (HC5.out.ex hx); clear hx))
          | (go_at_call 116; go_loud (refine (qnext_any _ _ HC6.out.q).mono ?_; rw [HN.out]; rintro e w7 ⟨rfl, hx⟩; have HC7 := Lib.hid (HC6.out.ex hx); clear hx)))
        go_ret
        exact ⟨_, _, _, rfl, HC7.out.own.sl, HC7.out.q.blk, HC7.out.only, HQ.out⟩
    have h3 : cn ≠ -1 ∧ cn ≠ 124 ∧ cn ≠ 41 := by unfold RX.rowEnds at hend; simp at hend; omega
    have d0 : decide ((0 : Int) ≤ cn) = true := by simp; omega
    have b1 : (cn != 124) = true := by simpa using h3.2.1
    have b2 : (cn != 41) = true := by simpa using h3.2.2
    have hlt : st'.at_ < s.length := RX.nxt_in (s := s) (k := 0) (st := st') (by rw [hcn]; exact h3.1)
    have HEND := Lib.hid (show RX.rowEnds (RX.nxt s st' 0) = false by rw [hcn]; exact hend)
    clear hk' hrow hlv hcn hend h3 hc0
    go_wp2_with (first
      | (go_at_call 88; go_loud (refine (qok_any _ _ HC3.out.q).mono ?_; rw [HK.out]; rintro e w4 ⟨rfl, hx⟩; have HC4 := Lib.hid (HC3.out.ex hx); clear hx))
      | (go_at_call 116; go_loud (refine (qnext_any _ _ HC4.out.q).mono ?_; rw [HN.out]; rintro e w5 ⟨rfl, hx⟩; have HC5 := Lib.hid (HC4.out.ex hx); clear hx))
      | (go_at_call 116; go_loud (refine (qnext_any _ _ HC5.out.q).mono ?_; rw [HN.out]; rintro e w6 ⟨rfl, hx⟩; have HC6 := Lib.hid (HC5.out.ex hx); clear hx))
      | (go_at_call 116; go_loud (refine (qnext_any _ _ HC6.out.q).mono ?_; rw [HN.out]; rintro e w7 ⟨rfl, hx⟩; have HC7 := Lib.hid (HC6.out.ex hx); clear hx))
      | (go_at_call 135; go_loud (refine (HIT.out _ _ HC7.out.q HK.out hlt HLV.out.2.1 (by rw [HSH.out.2.2]; exact HOPN.out)).mono ?_; rintro e w8 ⟨li, vi, sti, rfl, hv, hq, ho, hout⟩; have HC8 := Lib.hid (HC7.out.call ho hq); have HAP := Lib.hid (re_apart HC7.out.own hv); have HVI := Lib.hid (SlRe.weak hv HC7.out.only.size); have HOI := Lib.hid hout; obtain ⟨Ai, ci, rfl, -⟩ := hv.form; clear hv hq ho hout))
      | (go_at_call 117; go_loud (refine (qlower_any w1.heap.size w1.heap.size w1.heap.size l li _ _ _ HC8.out.own HVI.out hlp HAP.out HC8.out.only.size (by have := HOI.out.len; omega) (fun y hy => by have := HOI.out.deep y hy; omega)).mono ?_; rintro e w9 ⟨v9, rfl, hw9, hg9⟩; generalize hl2 : l ++ li.map RX.ReN.down = l2 at hw9; have HC9 := Lib.hid (HC8.out.app hw9 hg9); have HL2 := Lib.hid hl2; obtain ⟨A9, c9, rfl, -⟩ := hw9.form; clear hw9 hg9 hl2)))
    go_roundg k
    case measure => omega
    case rel => exact ⟨sti, l2, HC9.out, by rw [← HL2.out]; exact HRW.out.next HALT.out HK.out HEND.out hlt hl60 hD.1 HOI.out⟩
end
end Go.Proofs.Ytfblkahjefdmaaa
