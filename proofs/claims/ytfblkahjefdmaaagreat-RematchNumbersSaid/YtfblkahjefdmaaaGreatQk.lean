/- Walk: row of the document's own reader. -/
import Derived.Test.YtfblkahjefdmaaaGreatQg
namespace Go.Proofs.YtfblkahjefdmaaaGreat
open Go.RowKit

namespace RX
theorem under_snoc (x : ReN) (items : List (List ReN)) (l : List ReN) : under x (items ++ [l]) = under x items ++ l.map ReN.down := by simp [under]
/-- The rounds of a row: in step with the elder reader; or something is wrong, and known. -/
inductive RowI (s : List Int) (alt : St → List ReN × St) (c : Nat) (R : List ReN × St) (st : St) (K : Nat) (D : Int) (N : Nat) (k : Nat) : St → List ReN → Prop
  | sync (st' : St) (items : List (List ReN)) : st'.ok = true → rowLoop s alt k st' items = R → s.length + 1 ≤ k + st'.at_ → Fwd s (c + 1) st st' → (∀ l ∈ items, ∀ x ∈ l, 0 ≤ x.deep ∧ x.deep ≤ D + 2) → items.flatten.length ≤ 2 * (st'.at_ - st.at_) → RowI s alt c R st K D N k st' (under (node 0 0 0 false false []) items)
  | fail (st' : St) (l : List ReN) : st'.ok = false → st'.code = R.2.code → st'.bat = R.2.bat → R.2.ok = false → st'.op = st.op → st'.at_ ≤ N + 8 → l.length ≤ K + 125 → (∀ x ∈ l, 0 ≤ x.deep ∧ x.deep ≤ D + 3) → RowI s alt c R st K D N k st' l
section
variable {s : List Int} {alt : St → List ReN × St} {c : Nat} {R : List ReN × St} {st st' : St} {K : Nat} {D : Int} {N k : Nat} {l : List ReN}
theorem RowI.start (hok : st.ok = true) (ha : st.at_ ≤ s.length) (h9 : st.caps ≤ 9) (hR : rowLoop s alt k st [] = R) (hk : s.length + 1 ≤ k + st.at_) : RowI s alt c R st K D N k st [node 0 0 0 false false []] :=
  .sync st [] hok hR hk (Fwd.refl _ ha h9) (by simp) (by simp)
theorem RowI.shape (h : RowI s alt c R st K D N k st' l) (hl : s.length ≤ 60) (hD : 0 ≤ D) : l.length ≤ K + 125 ∧ (∀ x ∈ l, 0 ≤ x.deep ∧ x.deep ≤ D + 3) ∧ st'.op = st.op := by
  cases h with
  | sync items h1 h2 h3 h4 h5 h6 =>
    have := under_tr (top := node 0 0 0 false false []) rfl (show 0 ≤ D + 2 by omega) h5
    have h7 := h4.okl h1
    refine ⟨Nat.le_trans this.1 (by omega), fun x hx => ⟨(this.2 x hx).1, by have := (this.2 x hx).2; omega⟩, h4.op⟩
  | fail _ _ _ _ _ h5 _ h7 h8 => exact ⟨h7, h8, h5⟩
theorem RowI.out (h : RowI s alt c R st K D N k st' l) (hok : st'.ok = false) : QOut R st (K + 125) (D + 3) (N + 8) l st' := by
  cases h with
  | sync _ h1 => rw [hok] at h1; cases h1
  | fail _ _ h2 h3 h4 h5 h6 h7 h8 => exact ⟨h7, h8, h6, h5, (fun h => by rw [h4] at h; cases h), fun _ => ⟨h2, h3⟩⟩
theorem RowI.live (h : RowI s alt c R st K D N k st' l) (hok : st'.ok = true) : st'.at_ ≤ s.length ∧ st'.caps ≤ 9 ∧ s.length + 1 ≤ k + st'.at_ ∧ 0 < l.length := by
  cases h with
  | sync _ h1 h2 h3 h4 => exact ⟨h4.okl h1, h4.caps9, h3, Nat.succ_pos _⟩
  | fail _ h1 => rw [hok] at h1; cases h1
theorem RowI.stop (h : RowI s alt c R st K D N (k + 1) st' l) (hok : st'.ok = true) (he : rowEnds (nxt s st' 0) = true) (hl : s.length ≤ 60) (hD : 0 ≤ D) (hN : s.length ≤ N) : QOut R st (K + 125) (D + 3) (N + 8) l st' := by
  have hsh := h.shape hl hD
  have hlv := h.live hok
  cases h with
  | sync items h1 h2 h3 h4 h5 h6 =>
    unfold rowLoop at h2
    rw [if_pos h1, if_pos he] at h2
    subst h2
    exact ⟨hsh.1, hsh.2.1, by omega, h4.op, fun _ => ⟨rfl, rfl⟩, fun _ => ⟨rfl, rfl⟩⟩
  | fail _ h1 => rw [hok] at h1; cases h1
theorem RowI.next (halt : AltOk s c D alt) (h : RowI s alt c R st K D N (k + 1) st' l) (hok : st'.ok = true) (he : rowEnds (nxt s st' 0) = false) (hlt : st'.at_ < s.length) (hl : s.length ≤ 60) (hD : 0 ≤ D) {li : List ReN} {sti : St}
    (hi : QOut (itemP s alt st') st' (K + 2) (D + 2) (N + 8) li sti) : RowI s alt c R st K D N k sti (l ++ li.map ReN.down) := by
  have hlv := h.live hok
  cases h with
  | sync items h1 h2 h3 h4 h5 h6 =>
    unfold rowLoop at h2
    rw [if_pos h1, if_neg (by rw [he]; simp)] at h2
    have hf := itemP_fwd halt hD hok hlt h4.caps9
    rw [← under_snoc]
    rcases hk : (itemP s alt st').2.ok with _ | _
    · obtain ⟨e1, e2⟩ := hi.bad hk
      have hR : R = ([], (itemP s alt st').2) := by
        rw [← h2]
        cases k with
        | zero => rfl
        | succ k => unfold rowLoop; rw [if_neg (by rw [hk]; simp)]
      have hu := under_tr (top := node 0 0 0 false false []) (parts := items ++ [li]) rfl (show 0 ≤ D + 2 by omega) (by
        intro l hl x hx
        rcases List.mem_append.1 hl with hl | hl
        · exact h5 l hl x hx
        · simp at hl; subst hl; exact hi.deep x hx)
      have hlen : (items ++ [li]).flatten.length ≤ 2 * (st'.at_ - st.at_) + (K + 2) := by
        rw [List.flatten_append, List.length_append, List.flatten_singleton]
        have := hi.len
        omega
      refine .fail sti _ (by rw [hi.ok]; exact hk) (by rw [hR]; exact e1) (by rw [hR]; exact e2) (by rw [hR]; exact hk) (hi.op.trans h4.op) hi.hi (Nat.le_trans hu.1 (by omega)) (fun x hx => ⟨(hu.2 x hx).1, by have := (hu.2 x hx).2; omega⟩)
    · obtain ⟨rfl, rfl⟩ := hi.good hk
      have h7 := hf.2.2 hk
      have h8 := hf.2.1.1
      have h9 := h4.mono
      refine .sync _ _ hk h2 (by omega) (h4.trans hf.1) ?_ ?_
      · intro l hl x hx
        rcases List.mem_append.1 hl with hl | hl
        · exact h5 l hl x hx
        · simp at hl; subst hl; exact hi.deep x hx
      · rw [List.flatten_append, List.length_append, List.flatten_singleton]
        omega
  | fail _ h1 => rw [hok] at h1; cases h1
end
end RX
/-- Inside of a method that grows a row of nodes: the reader, the row. -/
structure Qr (w0 : World) (rb : Nat) (sv : Value) (s : List Int) (w1 : World) (st : RX.St) (v : Value) (l : List RX.ReN) (wr : World) : Prop where
  q : Qn w0 rb sv s wr st
  only : Only w1 wr rb
  own : OwnRe w1.heap.size w1.heap.size wr v l
  lt : rb < w1.heap.size
section
variable {w0 w1 wr w' : World} {rb : Nat} {sv v v' : Value} {s : List Int} {st st' : RX.St} {l l' : List RX.ReN}
theorem Qr.call (h : Qr w0 rb sv s w1 st v l wr) (ho : Only wr w' rb) (hq : QS rb sv w' st') : Qr w0 rb sv s w1 st' v l w' := ⟨h.q.step ho hq, h.only.trans ho, h.own.keepB (keepsB_re _) (KeepB.low ho h.lt), h.lt⟩
theorem Qr.ex (h : Qr w0 rb sv s w1 st v l wr) (hx : Ext wr w') : Qr w0 rb sv s w1 st v l w' := h.call (Only.of_ext hx rb) (hx.heap h.q.blk)
theorem Qr.bump1 (h : Qr w0 rb sv s w1 st v l wr) : Qr w0 rb sv s w1 (st.bump 1) v l (wr.setCell ⟨rb, 1, none⟩ (.int .i64 ((st.at_ : Int) + 1))) := h.call ((Only.refl _ rb).set _) h.q.bump1.blk
theorem Qr.app (h : Qr w0 rb sv s w1 st v l wr) (h1 : OwnRe w1.heap.size w1.heap.size w' v' l') (h2 : wr.grownBy w' v.ownBlock) : Qr w0 rb sv s w1 st v' l' w' := by
  have hg : ∀ k, v.ownBlock = some k → w1.heap.size ≤ k := fun k hk => (h.own.lt k hk).1
  refine ⟨⟨h.q.sl, h.q.lo, h.q.len, h.q.pos, h.q.ext.grown h2 (fun k hk => by have := hg k hk; have := h.lt; have := h.q.lo; omega), ?_⟩, Only.own (nb := w1.heap.size) h.only h2 hg (Nat.le_refl _), h1, h.lt⟩
  exact (h2.block rb h.q.rbl (by intro e; have := hg rb e.symm; have := h.lt; omega)).trans h.q.blk
/-- Two rows of nodes, of which one was held ahead of the other. -/
theorem re_apart {B b : Nat} {w w2 : World} {v vm : Value} {l more : List RX.ReN} (h : OwnRe B b w v l) (hm : SlRe w.heap.size w.heap.size w2 vm more) : ∀ g o n c, vm = .slice (some ⟨g, o, none⟩) n c → v.ownBlock ≠ some g := by
  intro g o n c hv hg
  obtain ⟨A, c', e, -, -, -, hA⟩ := hm
  rw [hv] at e
  injection e with e1 _ _
  obtain ⟨_, _, _, e2, e3, -⟩ := hA _ e1.symm
  injection e2 with e2 _ _
  have := (h.lt _ hg).2
  omega
end
section
variable {w0 : World} {rb : Nat} {sv : Value} {s : List Int}
set_option maxRecDepth 100000 in
set_option maxHeartbeats 3000000 in
theorem qrow_any (n : Nat) (alt : RX.St → List RX.ReN × RX.St) {c K : Nat} {D : Int} {N : Nat} (halt : RX.AltOk s c D alt) (HA : ∀ m, n = m + 1 → AltQ w0 rb sv s m alt K D N) (hK : K ≤ 10000) (hD : 0 ≤ D ∧ D ≤ 100) (hN : s.length + 4 ≤ N ∧ N ≤ 400)
    (w1 : World) (st : RX.St) (he : Qn w0 rb sv s w1 st) (hok : st.ok = true) (ha : st.at_ ≤ s.length) (h9 : st.caps ≤ 9) (hop : st.op + n = 12) :
    Calls Tryz.prog 62 #[.pointer (some ⟨rb, 0, none⟩)] w1 (QP rb sv w1 (RX.rowP s alt st) st (K + 125) (D + 3) (N + 8)) := by
  have hl60 := he.len
  have hrb := he.rbl
  have HPOS := Lib.hid he.pos
  have HC1 := Lib.hid (show Qb w0 rb sv s w1 st w1 from ⟨he, Only.refl _ _⟩)
  obtain ⟨R, hR⟩ : ∃ x, RX.rowP s alt st = x := ⟨_, rfl⟩
  rw [hR]
  have HS := Lib.hid (RX.RowI.start (c := c) (K := K) (D := D) (N := N) hok ha h9 (show RX.rowLoop s alt (s.length + 2 - st.at_) st [] = R from hR) (by omega))
  have HOPN := Lib.hid hop
  have HIT := Lib.hid (fun w st' h h1 h2 h3 h4 => qitem_any n alt HA hK hD hN w st' h h1 h2 h3 h4)
  have HALT := Lib.hid halt
  clear he hok hR HA hop halt
  go_enter Tryz.func62, Tryz.ntmps62
  go_upto_region 2 with fail
  have HC2 := Lib.hid (show Qr w0 rb sv s w1 st (.slice (some ⟨w1.heap.size, 0, none⟩) 1 1) [RX.node 0 0 0 false false []] _ from ⟨(HC1.out.ex ((Ext.refl w1).alloc (.cells #[.int .i64 0, .int .i64 0, .int .i64 0, .int .i64 0, .bool false, .bool false, .slice none 0 0] 82))).q, Only.of_ext ((Ext.refl w1).alloc _) rb, reQ_lit rfl (Nat.le_refl _) CR.mk0, hrb⟩)
  generalize w1.alloc _ = w2 at HC2 ⊢
  go_wp2_with fail
  go_loopg [3] (s.length + 2 - st.at_) (fun k v wr => ∃ (st' : RX.St) (l : List RX.ReN), Qr w0 rb sv s w1 st' v l wr ∧ RX.RowI s alt c R st K D N k st' l)
  case atStart => exact ⟨st, _, HC2.out, HS.out⟩
  case round =>
    obtain ⟨st', l, hcc, hrow⟩ := hrel
    have HC3 := Lib.hid hcc
    have HRW := Lib.hid hrow
    obtain ⟨Al, cl, rfl, -⟩ := hcc.own.form
    have hsh := hrow.shape hl60 hD.1
    have HSH := Lib.hid hsh
    have hln := hsh.1
    have HK0 := Lib.hid hcc.own.lt
    clear hcc hsh
    rcases hk' : st'.ok with _ | _
    · have HK := Lib.hid hk'
      have HQ := Lib.hid (hrow.out hk')
      clear hk' hrow
      go_wp2_with (go_at_call 43; go_loud (refine (qok_any _ _ HC3.out.q).mono ?_; rw [HK.out]; rintro e w4 ⟨rfl, hx⟩; have HC4 := Lib.hid (HC3.out.ex hx); clear hx))
      go_ret
      exact ⟨_, _, _, rfl, HC4.out.own.sl, HC4.out.q.blk, HC4.out.only, HQ.out⟩
    have HK := Lib.hid hk'
    have hlv := hrow.live hk'
    have HLV := Lib.hid hlv
    have hlp := hlv.2.2.2
    obtain ⟨k, rfl⟩ : ∃ k, gk = k + 1 := ⟨gk - 1, by have := hlv.2.2.1; have := hlv.1; omega⟩
    obtain ⟨cn, hcn⟩ : ∃ x, RX.nxt s st' 0 = x := ⟨_, rfl⟩
    have HN := Lib.hid hcn
    have hc0 : cn = -1 ∨ 0 ≤ cn := by
      rw [← hcn]
      unfold RX.nxt
      rcases hx : s[st'.at_ + 0]? with _ | x
      · exact .inl rfl
      · exact .inr (HPOS.out x (List.mem_of_getElem? hx))
    rcases hend : RX.rowEnds cn with _ | _
    rotate_left
    · have HQ := Lib.hid (hrow.stop hk' (by rw [hcn]; exact hend) hl60 hD.1 (by omega))
      have h3 : cn = -1 ∨ cn = 124 ∨ cn = 41 := by unfold RX.rowEnds at hend; simp at hend; omega
      clear hk' hrow hlv hcn hend
      by_cases h1 : cn = -1
      · have d0 : decide ((0 : Int) ≤ cn) = false := by simp; omega
        clear h1 h3 hc0
        go_wp2_with (first
          | (go_at_call 43; go_loud (refine (qok_any _ _ HC3.out.q).mono ?_; rw [HK.out]; rintro e w4 ⟨rfl, hx⟩; have HC4 := Lib.hid (HC3.out.ex hx); clear hx))
          | (go_at_call 63; go_loud (refine (qnext_any _ _ HC4.out.q).mono ?_; rw [HN.out]; rintro e w5 ⟨rfl, hx⟩; have HC5 := Lib.hid (HC4.out.ex hx); clear hx)))
        go_ret
        exact ⟨_, _, _, rfl, HC5.out.own.sl, HC5.out.q.blk, HC5.out.only, HQ.out⟩
      have d0 : decide ((0 : Int) ≤ cn) = true := by simp; omega
      by_cases h2 : cn = 124
      · have b1 : (cn != 124) = false := by simpa using h2
        clear h1 h2 h3 hc0
        go_wp2_with (first
          | (go_at_call 43; go_loud (refine (qok_any _ _ HC3.out.q).mono ?_; rw [HK.out]; rintro e w4 ⟨rfl, hx⟩; have HC4 := Lib.hid (HC3.out.ex hx); clear hx))
          | (go_at_call 63; go_loud (refine (qnext_any _ _ HC4.out.q).mono ?_; rw [HN.out]; rintro e w5 ⟨rfl, hx⟩; have HC5 := Lib.hid (HC4.out.ex hx); clear hx))
          | (go_at_call 63; go_loud (refine (qnext_any _ _ HC5.out.q).mono ?_; rw [HN.out]; rintro e w6 ⟨rfl, hx⟩; have HC6 := Lib.hid (HC5.out.ex hx); clear hx)))
        go_ret
        exact ⟨_, _, _, rfl, HC6.out.own.sl, HC6.out.q.blk, HC6.out.only, HQ.out⟩
      · have b1 : (cn != 124) = true := by simpa using h2
        have b2 : (cn != 41) = false := by have : cn = 41 := by omega
                                           simpa using this
        clear h1 h2 h3 hc0
        go_wp2_with (first
          | (go_at_call 43; go_loud (refine (qok_any _ _ HC3.out.q).mono ?_; rw [HK.out]; rintro e w4 ⟨rfl, hx⟩; have HC4 := Lib.hid (HC3.out.ex hx); clear hx))
          | (go_at_call 63; go_loud (refine (qnext_any _ _ HC4.out.q).mono ?_; rw [HN.out]; rintro e w5 ⟨rfl, hx⟩; have HC5 := Lib.hid (HC4.out.ex hx); clear hx))
          | (go_at_call 63; go_loud (refine (qnext_any _ _ HC5.out.q).mono ?_; rw [HN.out]; rintro e w6 ⟨rfl, hx⟩; have HC6 := Lib.hid (HC5.out.ex hx); clear hx))
          | (go_at_call 63; go_loud (refine (qnext_any _ _ HC6.out.q).mono ?_; rw [HN.out]; rintro e w7 ⟨rfl, hx⟩; have HC7 := Lib.hid (HC6.out.ex hx); clear hx)))
        go_ret
        exact ⟨_, _, _, rfl, HC7.out.own.sl, HC7.out.q.blk, HC7.out.only, HQ.out⟩
    have h3 : cn ≠ -1 ∧ cn ≠ 124 ∧ cn ≠ 41 := by unfold RX.rowEnds at hend; simp at hend; omega
    have d0 : decide ((0 : Int) ≤ cn) = true := by simp; omega
    have b1 : (cn != 124) = true := by simpa using h3.2.1
    have b2 : (cn != 41) = true := by simpa using h3.2.2
    have hlt : st'.at_ < s.length := RX.nxt_in (s := s) (k := 0) (st := st') (by rw [hcn]; exact h3.1)
    have HEND := Lib.hid (show RX.rowEnds (RX.nxt s st' 0) = false by rw [hcn]; exact hend)
    clear hk' hrow hlv hcn hend h3 hc0
    go_wp2_with (first
      | (go_at_call 43; go_loud (refine (qok_any _ _ HC3.out.q).mono ?_; rw [HK.out]; rintro e w4 ⟨rfl, hx⟩; have HC4 := Lib.hid (HC3.out.ex hx); clear hx))
      | (go_at_call 63; go_loud (refine (qnext_any _ _ HC4.out.q).mono ?_; rw [HN.out]; rintro e w5 ⟨rfl, hx⟩; have HC5 := Lib.hid (HC4.out.ex hx); clear hx))
      | (go_at_call 63; go_loud (refine (qnext_any _ _ HC5.out.q).mono ?_; rw [HN.out]; rintro e w6 ⟨rfl, hx⟩; have HC6 := Lib.hid (HC5.out.ex hx); clear hx))
      | (go_at_call 63; go_loud (refine (qnext_any _ _ HC6.out.q).mono ?_; rw [HN.out]; rintro e w7 ⟨rfl, hx⟩; have HC7 := Lib.hid (HC6.out.ex hx); clear hx))
      | (go_at_call 76; go_loud (refine (HIT.out _ _ HC7.out.q HK.out hlt HLV.out.2.1 (by rw [HSH.out.2.2]; exact HOPN.out)).mono ?_; rintro e w8 ⟨li, vi, sti, rfl, hv, hq, ho, hout⟩; have HC8 := Lib.hid (HC7.out.call ho hq); have HAP := Lib.hid (re_apart HC7.out.own hv); have HVI := Lib.hid (SlRe.weak hv HC7.out.only.size); have HOI := Lib.hid hout; obtain ⟨Ai, ci, rfl, -⟩ := hv.form; clear hv hq ho hout))
      | (go_at_call 64; go_loud (refine (qlower_any w1.heap.size w1.heap.size w1.heap.size l li _ _ _ HC8.out.own HVI.out hlp HAP.out HC8.out.only.size (by have := HOI.out.len; omega) (fun y hy => by have := HOI.out.deep y hy; omega)).mono ?_; rintro e w9 ⟨v9, rfl, hw9, hg9⟩; generalize hl2 : l ++ li.map RX.ReN.down = l2 at hw9; have HC9 := Lib.hid (HC8.out.app hw9 hg9); have HL2 := Lib.hid hl2; obtain ⟨A9, c9, rfl, -⟩ := hw9.form; clear hw9 hg9 hl2)))
    go_roundg k
    case measure => omega
    case rel => exact ⟨sti, l2, HC9.out, by rw [← HL2.out]; exact HRW.out.next HALT.out HK.out HEND.out hlt hl60 hD.1 HOI.out⟩
end
end Go.Proofs.YtfblkahjefdmaaaGreat

/- Walk: alternatives of the document's own reader. -/
namespace Go.Proofs.YtfblkahjefdmaaaGreat
open Go.RowKit

namespace RX
/-- The rounds of the alternatives: in step with the elder reader; or something is wrong, and known. -/
inductive AltI (s : List Int) (alt : St → List ReN × St) (c : Nat) (Q : List (List ReN) × St) (st : St) (K : Nat) (D : Int) (N : Nat) (k : Nat) : St → List ReN → Prop
  | sync (st' : St) (rows : List (List ReN)) : st'.ok = true → altLoop s alt k st' rows = Q → s.length + 1 ≤ k + st'.at_ → Fwd s (c + 1) st st' → (∀ l ∈ rows, ∀ x ∈ l, 0 ≤ x.deep ∧ x.deep ≤ D + 3) → rows.flatten.length ≤ 2 * (st'.at_ - st.at_) + 1 → (1 ≤ rows.length ∧ (rows.length = 1 → nxt s st' 0 = 124)) → AltI s alt c Q st K D N k st' (under (node 1 0 0 false false []) rows)
  | fail (st' : St) (l : List ReN) : st'.ok = false → st'.code = Q.2.code → st'.bat = Q.2.bat → Q.2.ok = false → st'.op = st.op → st'.at_ ≤ N + 8 → l.length ≤ K + 250 → (∀ x ∈ l, 0 ≤ x.deep ∧ x.deep ≤ D + 4) → AltI s alt c Q st K D N k st' l
section
variable {s : List Int} {alt : St → List ReN × St} {c : Nat} {st st' : St} {K : Nat} {D : Int} {N k : Nat} {l : List ReN}
theorem altP_eqQ (s : List Int) (alt : St → List ReN × St) (st : St) : altP s alt st = (if (altLoop s alt (s.length + 2 - (rowP s alt st).2.at_) (rowP s alt st).2 [(rowP s alt st).1]).1.length = 1 then (altLoop s alt (s.length + 2 - (rowP s alt st).2.at_) (rowP s alt st).2 [(rowP s alt st).1]).1.headD [] else under (node 1 0 0 false false []) (altLoop s alt (s.length + 2 - (rowP s alt st).2.at_) (rowP s alt st).2 [(rowP s alt st).1]).1, (altLoop s alt (s.length + 2 - (rowP s alt st).2.at_) (rowP s alt st).2 [(rowP s alt st).1]).2) := rfl
theorem altLoop_end {k : Nat} {st : St} {rows : List (List ReN)} (h : st.ok = false ∨ nxt s st 0 ≠ 124) : altLoop s alt k st rows = (rows, st) := by
  cases k with
  | zero => rfl
  | succ k =>
    unfold altLoop
    rw [if_neg (by
      intro h1
      simp only [Bool.and_eq_true, decide_eq_true_eq] at h1
      rcases h with h | h
      · rw [h1.1] at h; cases h
      · exact h h1.2)]
theorem alt_stop {lr : List ReN} {str : St} (h : QOut (rowP s alt st) st (K + 125) (D + 3) (N + 8) lr str) (hn : nxt s str 0 ≠ 124) : QOut (altP s alt st) st (K + 250) (D + 4) (N + 9) lr str := by
  have e : altP s alt st = ((rowP s alt st).1, (rowP s alt st).2) := by
    rw [altP_eqQ]
    have hx : (rowP s alt st).2.ok = false ∨ nxt s (rowP s alt st).2 0 ≠ 124 := by
      rcases hk : (rowP s alt st).2.ok with _ | _
      · exact .inl rfl
      · right; rw [← (h.good hk).2]; exact hn
    rw [altLoop_end hx]
    rfl
  rw [e]
  exact h.mono (by omega) (by omega) (by omega)
theorem AltI.start (halt : AltOk s c D alt) (hD : 0 ≤ D) (ha : st.at_ ≤ s.length) (h9 : st.caps ≤ 9) {lr : List ReN} {str : St} (h : QOut (rowP s alt st) st (K + 125) (D + 3) (N + 8) lr str) (hn : nxt s str 0 = 124) :
    AltI s alt c (altLoop s alt (s.length + 2 - (rowP s alt st).2.at_) (rowP s alt st).2 [(rowP s alt st).1]) st K D N (s.length + 2 - str.at_) str (node 1 0 0 false false [] :: lr.map ReN.down) := by
  have hf := rowP_fwd halt hD ha h9
  rcases hk : (rowP s alt st).2.ok with _ | _
  · rw [altLoop_end (.inl hk)]
    obtain ⟨e1, e2⟩ := h.bad hk
    refine .fail _ _ (by rw [h.ok]; exact hk) e1 e2 hk h.op h.hi ?_ ?_
    · have := h.len; simp; omega
    · intro x hx
      rcases List.mem_cons.1 hx with rfl | hx
      · exact ⟨Int.le_refl _, by show (0 : Int) ≤ D + 4; omega⟩
      · obtain ⟨y, hy, rfl⟩ := List.mem_map.1 hx
        have := h.deep y hy
        exact ⟨by show 0 ≤ y.deep + 1; omega, by show y.deep + 1 ≤ D + 4; omega⟩
  · obtain ⟨rfl, rfl⟩ := h.good hk
    have hat := hf.1.okl hk
    rw [← under_one]
    exact .sync _ _ hk rfl (by omega) hf.1 (by intro l hl x hx; simp at hl; subst hl; exact hf.2.2 x hx) (by simpa using hf.2.1) ⟨Nat.le_refl _, fun _ => hn⟩
variable {Q : List (List ReN) × St}
theorem AltI.shape (h : AltI s alt c Q st K D N k st' l) (hl : s.length ≤ 60) (hD : 0 ≤ D) : l.length ≤ K + 250 ∧ (∀ x ∈ l, 0 ≤ x.deep ∧ x.deep ≤ D + 4) ∧ st'.op = st.op := by
  cases h with
  | sync rows h1 h2 h3 h4 h5 h6 h7 =>
    have := under_tr (top := node 1 0 0 false false []) rfl (show 0 ≤ D + 3 by omega) h5
    have h7 := h4.okl h1
    refine ⟨Nat.le_trans this.1 (by omega), fun x hx => ⟨(this.2 x hx).1, by have := (this.2 x hx).2; omega⟩, h4.op⟩
  | fail _ _ _ _ _ h5 _ h7 h8 => exact ⟨h7, h8, h5⟩
theorem AltI.live (h : AltI s alt c Q st K D N k st' l) (hok : st'.ok = true) : st'.at_ ≤ s.length ∧ st'.caps ≤ 9 ∧ s.length + 1 ≤ k + st'.at_ ∧ 0 < l.length := by
  cases h with
  | sync _ h1 h2 h3 h4 => exact ⟨h4.okl h1, h4.caps9, h3, Nat.succ_pos _⟩
  | fail _ h1 => rw [hok] at h1; cases h1
theorem AltI.stop (h : AltI s alt c Q st K D N k st' l) (he : st'.ok = false ∨ nxt s st' 0 ≠ 124) (hl : s.length ≤ 60) (hD : 0 ≤ D) (hN : s.length ≤ N) : QOut (if Q.1.length = 1 then Q.1.headD [] else under (node 1 0 0 false false []) Q.1, Q.2) st (K + 250) (D + 4) (N + 9) l st' := by
  have hsh := h.shape hl hD
  cases h with
  | sync rows h1 h2 h3 h4 h5 h6 h7 =>
    have hn : nxt s st' 0 ≠ 124 := he.resolve_left (by rw [h1]; simp)
    rw [altLoop_end (.inr hn)] at h2
    subst h2
    have h8 := h4.okl h1
    rw [if_neg (fun h => hn (h7.2 h))]
    exact ⟨hsh.1, hsh.2.1, by omega, h4.op, fun _ => ⟨rfl, rfl⟩, fun _ => ⟨rfl, rfl⟩⟩
  | fail _ _ h2 h3 h4 h5 h6 h7 h8 => exact ⟨h7, h8, by omega, h5, (fun h => by rw [h4] at h; cases h), fun _ => ⟨h2, h3⟩⟩
theorem AltI.next (halt : AltOk s c D alt) (h : AltI s alt c Q st K D N (k + 1) st' l) (hok : st'.ok = true) (he : nxt s st' 0 = 124) (hlt : st'.at_ < s.length) (hl : s.length ≤ 60) (hD : 0 ≤ D) {lr : List ReN} {str : St}
    (hi : QOut (rowP s alt (st'.bump 1)) (st'.bump 1) (K + 125) (D + 3) (N + 8) lr str) : AltI s alt c Q st K D N k str (l ++ lr.map ReN.down) := by
  cases h with
  | sync rows h1 h2 h3 h4 h5 h6 h7 =>
    unfold altLoop at h2
    rw [if_pos (by rw [h1, he]; rfl)] at h2
    have hb := h4.bump 1 hlt
    have hst : (st'.bump 1).at_ = st'.at_ + 1 := rfl
    have hf := rowP_fwd halt hD (st := st'.bump 1) hlt hb.caps9
    have hlen0 := h7.1
    rw [← under_snoc]
    rcases hk : (rowP s alt (st'.bump 1)).2.ok with _ | _
    · obtain ⟨e1, e2⟩ := hi.bad hk
      rw [altLoop_end (.inl hk)] at h2
      have hu := under_tr (top := node 1 0 0 false false []) (parts := rows ++ [lr]) rfl (show 0 ≤ D + 3 by omega) (by
        intro l hl x hx
        rcases List.mem_append.1 hl with hl | hl
        · exact h5 l hl x hx
        · simp at hl; subst hl; exact hi.deep x hx)
      have hlen : (rows ++ [lr]).flatten.length ≤ 2 * (st'.at_ - st.at_) + 1 + (K + 125) := by
        rw [List.flatten_append, List.length_append, List.flatten_singleton]
        have := hi.len
        omega
      refine .fail str _ (by rw [hi.ok]; exact hk) (by rw [← h2]; exact e1) (by rw [← h2]; exact e2) (by rw [← h2]; exact hk) (hi.op.trans h4.op) hi.hi (Nat.le_trans hu.1 (by omega)) (fun x hx => ⟨(hu.2 x hx).1, by have := (hu.2 x hx).2; omega⟩)
    · obtain ⟨rfl, rfl⟩ := hi.good hk
      have h8 := hf.2.1
      have h9 := h4.mono
      have h10 := hf.1.mono
      refine .sync _ _ hk h2 (by omega) (hb.trans hf.1) ?_ ?_ ?_
      · intro l hl x hx
        rcases List.mem_append.1 hl with hl | hl
        · exact h5 l hl x hx
        · simp at hl; subst hl; exact hf.2.2 x hx
      · rw [List.flatten_append, List.length_append, List.flatten_singleton]
        omega
      · rw [List.length_append]; simp only [List.length_cons, List.length_nil]; exact ⟨by omega, fun h => by omega⟩
  | fail _ h1 => rw [hok] at h1; cases h1
end
end RX
section
variable {w0 : World} {rb : Nat} {sv : Value} {s : List Int}
set_option maxRecDepth 100000 in
set_option maxHeartbeats 3000000 in
theorem qalt_any (n : Nat) (alt : RX.St → List RX.ReN × RX.St) {c K : Nat} {D : Int} {N : Nat} (halt : RX.AltOk s c D alt) (HA : ∀ m, n = m + 1 → AltQ w0 rb sv s m alt K D N) (hK : K ≤ 10000) (hD : 0 ≤ D ∧ D ≤ 100) (hN : s.length + 4 ≤ N ∧ N ≤ 400) :
    AltQ w0 rb sv s n (RX.altP s alt) (K + 250) (D + 4) (N + 9) := by
  intro w1 st he hok ha h9 hop
  have hl60 := he.len
  have hrb := he.rbl
  have HC1 := Lib.hid (show Qb w0 rb sv s w1 st w1 from ⟨he, Only.refl _ _⟩)
  obtain ⟨R, hR⟩ : ∃ x, RX.altP s alt st = x := ⟨_, rfl⟩
  have HR := Lib.hid hR
  rw [hR]
  have HOPN := Lib.hid hop
  have HOK := Lib.hid hok
  have HRO := Lib.hid (fun w st' h h1 h2 h3 h4 => qrow_any n alt halt HA hK hD hN w st' h h1 h2 h3 h4)
  have HALT := Lib.hid halt
  have HH := Lib.hid (And.intro ha h9)
  clear he hok hR HA hop halt
  go_enter Tryz.func42, Tryz.ntmps42
  go_upto_region 2 with (go_at_call 62; go_loud (refine (HRO.out _ _ HC1.out.q HOK.out ha h9 HOPN.out).mono ?_; rintro e w2 ⟨lr, vr, str, rfl, hv, hq, ho, hout⟩; have HC2 := Lib.hid (HC1.out.call ho hq); have HV2 := Lib.hid hv; have HO2 := Lib.hid hout; obtain ⟨Ar, cr, rfl, -⟩ := hv.form; clear hv hq ho hout))
  obtain ⟨c2, hc2⟩ : ∃ x, RX.nxt s str 0 = x := ⟨_, rfl⟩
  have HN2 := Lib.hid hc2
  by_cases h124 : c2 = 124
  rotate_left
  · have b124 : (c2 != 124) = true := by simpa using h124
    have HQ := Lib.hid (RX.alt_stop HO2.out (by rw [hc2]; exact h124))
    clear hc2 h124
    go_wp2_with (go_at_call 63; go_loud (refine (qnext_any _ _ HC2.out.q).mono ?_; rw [HN2.out]; rintro e w3 ⟨rfl, hx⟩; have HC3 := Lib.hid (HC2.out.ex hx); have HV3 := Lib.hid (HV2.out.keep (keeps_re _) (KeepT.of_ext hx) (KeepT.of_ext hx)); clear hx))
    go_ret
    exact ⟨_, _, _, rfl, HV3.out, HC3.out.q.blk, HC3.out.only, by rw [← HR.out]; exact HQ.out⟩
  have b124 : (c2 != 124) = false := by simpa using h124
  have HS := Lib.hid (RX.AltI.start HALT.out hD.1 ha h9 HO2.out (hc2.trans h124))
  have hR2 := HR.out
  rw [RX.altP_eqQ] at hR2
  generalize RX.altLoop s alt (s.length + 2 - (RX.rowP s alt st).2.at_) (RX.rowP s alt st).2 [(RX.rowP s alt st).1] = Q at HS hR2
  have HR2 := Lib.hid hR2
  have hbz := HC2.out.only.size
  obtain ⟨l4, hl4⟩ : ∃ x, RX.node 1 0 0 false false [] :: lr.map RX.ReN.down = x := ⟨_, rfl⟩
  rw [hl4] at HS
  have HL4 := Lib.hid hl4
  clear hc2 h124 hR2 hl4
  go_wp2_with (first
    | (go_at_call 63; go_loud (refine (qnext_any _ _ HC2.out.q).mono ?_; rw [HN2.out]; rintro e w3 ⟨rfl, hx⟩; have HC3 := Lib.hid (HC2.out.ex hx); have HV3 := Lib.hid (HV2.out.keep (keeps_re _) (KeepT.of_ext hx) (KeepT.of_ext hx)); clear hx))
    | (go_at_call 64; go_loud (refine (qunder_any (B := w1.heap.size) _ (RX.node 1 0 0 false false []) _ lr _ CR.mk0 HV3.out HC3.out.only.size (by have := HO2.out.len; omega) (fun y hy => by have := HO2.out.deep y hy; omega)).mono ?_; rintro e w4 ⟨v4, rfl, hv4, hx4⟩; rw [HL4.out] at hv4; have HC4 := Lib.hid (show Qr w0 rb sv s w1 str v4 l4 w4 from ⟨(HC3.out.ex hx4).q, (HC3.out.ex hx4).only, hv4, hrb⟩); obtain ⟨A4, c4, rfl, -⟩ := hv4.form; clear hv4 hx4)))
  go_loopg [4] (s.length + 2 - str.at_) (fun k v wr => ∃ (st' : RX.St) (l : List RX.ReN), Qr w0 rb sv s w1 st' v l wr ∧ RX.AltI s alt c Q st K D N k st' l)
  case atStart => exact ⟨str, l4, HC4.out, HS.out⟩
  case round =>
    obtain ⟨st', l, hcc, hrow⟩ := hrel
    have HC5 := Lib.hid hcc
    have HRW := Lib.hid hrow
    obtain ⟨Al, cl, rfl, -⟩ := hcc.own.form
    have hsh := hrow.shape hl60 hD.1
    have HSH := Lib.hid hsh
    have hln := hsh.1
    clear hcc hsh
    rcases hk' : st'.ok with _ | _
    · have HK := Lib.hid hk'
      have HQ := Lib.hid (hrow.stop (.inl hk') hl60 hD.1 (by omega))
      clear hk' hrow
      go_wp2_with (go_at_call 43; go_loud (refine (qok_any _ _ HC5.out.q).mono ?_; rw [HK.out]; rintro e w6 ⟨rfl, hx⟩; have HC6 := Lib.hid (HC5.out.ex hx); clear hx))
      go_ret
      exact ⟨_, _, _, rfl, HC6.out.own.sl, HC6.out.q.blk, HC6.out.only, by rw [← HR2.out]; exact HQ.out⟩
    have HK := Lib.hid hk'
    have hlv := hrow.live hk'
    have HLV := Lib.hid hlv
    have hlp := hlv.2.2.2
    obtain ⟨cn, hcn⟩ : ∃ x, RX.nxt s st' 0 = x := ⟨_, rfl⟩
    have HN := Lib.hid hcn
    by_cases hend : cn = 124
    rotate_left
    · have HQ := Lib.hid (hrow.stop (.inr (by rw [hcn]; exact hend)) hl60 hD.1 (by omega))
      have b1 : (cn == 124) = false := by simpa using hend
      clear hk' hrow hlv hcn hend
      go_wp2_with (first
        | (go_at_call 43; go_loud (refine (qok_any _ _ HC5.out.q).mono ?_; rw [HK.out]; rintro e w6 ⟨rfl, hx⟩; have HC6 := Lib.hid (HC5.out.ex hx); clear hx))
        | (go_at_call 63; go_loud (refine (qnext_any _ _ HC6.out.q).mono ?_; rw [HN.out]; rintro e w7 ⟨rfl, hx⟩; have HC7 := Lib.hid (HC6.out.ex hx); clear hx)))
      go_ret
      exact ⟨_, _, _, rfl, HC7.out.own.sl, HC7.out.q.blk, HC7.out.only, by rw [← HR2.out]; exact HQ.out⟩
    have b1 : (cn == 124) = true := by simpa using hend
    have hlt : st'.at_ < s.length := RX.nxt_in (s := s) (k := 0) (st := st') (by rw [hcn, hend]; decide)
    obtain ⟨k, rfl⟩ : ∃ k, gk = k + 1 := ⟨gk - 1, by have := hlv.2.2.1; omega⟩
    have HEND := Lib.hid (hcn.trans hend)
    clear hk' hrow hlv hcn hend
    go_upto_region 6 with (first
      | (go_at_call 43; go_loud (refine (qok_any _ _ HC5.out.q).mono ?_; rw [HK.out]; rintro e w6 ⟨rfl, hx⟩; have HC6 := Lib.hid (HC5.out.ex hx); clear hx))
      | (go_at_call 63; go_loud (refine (qnext_any _ _ HC6.out.q).mono ?_; rw [HN.out]; rintro e w7 ⟨rfl, hx⟩; have HC7 := Lib.hid (HC6.out.ex hx); clear hx)))
    have c1 := HC7.out.q.blk.c1
    have f1 := HC7.out.q.blk.fr 1
    go_upto_region 7 with fail
    have HC8 := Lib.hid HC7.out.bump1
    generalize w7.setCell _ _ = w8 at HC8 ⊢
    clear c1 f1
    go_wp2_with (first
      | (go_at_call 62; go_loud (refine (HRO.out _ _ HC8.out.q HK.out hlt HLV.out.2.1 (by show st'.op + n = 12; rw [HSH.out.2.2]; exact HOPN.out)).mono ?_; rintro e w9 ⟨li, vi, sti, rfl, hv, hq, ho, hout⟩; have HC9 := Lib.hid (HC8.out.call ho hq); have HAP := Lib.hid (re_apart HC8.out.own hv); have HVI := Lib.hid (SlRe.weak hv HC8.out.only.size); have HOI := Lib.hid hout; obtain ⟨Ai, ci, rfl, -⟩ := hv.form; clear hv hq ho hout))
      | (go_at_call 64; go_loud (refine (qlower_any w1.heap.size w1.heap.size w1.heap.size l li _ _ _ HC9.out.own HVI.out hlp HAP.out HC9.out.only.size (by have := HOI.out.len; omega) (fun y hy => by have := HOI.out.deep y hy; omega)).mono ?_; rintro e wA ⟨v9, rfl, hw9, hg9⟩; generalize hl2 : l ++ li.map RX.ReN.down = l2 at hw9; have HCA := Lib.hid (HC9.out.app hw9 hg9); have HL2 := Lib.hid hl2; obtain ⟨A9, c9, rfl, -⟩ := hw9.form; clear hw9 hg9 hl2)))
    go_roundg k
    case measure => omega
    case rel => exact ⟨sti, l2, HCA.out, by rw [← HL2.out]; exact HRW.out.next HALT.out HK.out HEND.out hlt hl60 hD.1 HOI.out⟩
end
end Go.Proofs.YtfblkahjefdmaaaGreat

/- Walk: Parse of the document's own reader. -/
namespace Go.Proofs.YtfblkahjefdmaaaGreat
open Go.RowKit

theorem qaltN {w0 : World} {rb : Nat} {sv : Value} {s : List Int} (hl : s.length ≤ 60) : ∀ n, n ≤ 12 → AltQ w0 rb sv s n (RX.altN s n) (250 * (n + 1)) (4 * n + 4) (s.length + 4 + 9 * (n + 1))
  | 0, _ => by
    have h := qalt_any (w0 := w0) (rb := rb) (sv := sv) (s := s) 0 (fun st => ([], st)) (c := 1) (K := 0) (D := 0) (N := s.length + 4) RX.AltOk.stub (fun m hm => by cases hm) (by omega) (by omega) (by omega)
    exact h
  | n + 1, hn => by
    have h := qalt_any (w0 := w0) (rb := rb) (sv := sv) (s := s) (n + 1) (RX.altN s n) (RX.altN_ok s n) (fun m hm => by injection hm with hm; subst hm; exact qaltN hl n (by omega)) (by omega) (by omega) (by omega)
    rw [show 250 * (n + 1) + 250 = 250 * (n + 1 + 1) by omega, show (4 * (n : Int) + 4) + 4 = 4 * ((n + 1 : Nat) : Int) + 4 by omega, show s.length + 4 + 9 * (n + 1) + 9 = s.length + 4 + 9 * (n + 1 + 1) by omega] at h
    exact h
theorem class_sign (x : Int) : (RX.classOf x == 0) = !RX.isSign x := by
  unfold RX.classOf
  rcases h : RX.isSign x with _ | _
  · simp
  · simp only [if_neg (show ¬ (true = false) by decide)]
    split
    · rfl
    split
    · rfl
    split
    · rfl
    split
    · rfl
    · rfl
theorem sign_pos {x : Int} (h : RX.isSign x = true) : 0 ≤ x := by
  unfold RX.isSign at h
  simp only [Bool.and_eq_true, decide_eq_true_eq] at h
  exact h.1.1
theorem parse_some {s : List Int} {k : Nat} {x : Int} (hx : s[k]? = some x) (hn : RX.isSign x = false) (hp : ∀ j, j < k → ∀ x, s[j]? = some x → RX.isSign x = true) : s.findIdx? (fun c => RX.classOf c == 0) = some k := by
  obtain ⟨hk, hx⟩ := List.getElem?_eq_some_iff.1 hx
  rw [List.findIdx?_eq_some_iff_getElem]
  refine ⟨hk, by rw [class_sign, hx, hn]; rfl, fun j hj => ?_⟩
  rw [class_sign, hp j hj _ (List.getElem?_eq_getElem (by omega))]
  decide
theorem parse_none {s : List Int} (hp : ∀ x ∈ s, RX.isSign x = true) : s.findIdx? (fun c => RX.classOf c == 0) = none := by
  rw [List.findIdx?_eq_none_iff]
  intro x hx
  rw [class_sign, hp x hx]
  rfl
/-- Inside of Parse: the reader behind the fault's cells; the tree. -/
structure Pq (w : World) (nb : Nat) (s : List Int) (sv : Value) (st : RX.St) (vl : Value) (l : List RX.ReN) (wr : World) : Prop where
  q : Qn (w.alloc (.cells #[.int .i64 0, .int .i64 0] 31)) (nb + 1) sv s wr st
  ext : Ext w wr
  box : wr.heap[nb]? = some (.cells #[.int .i64 0, .int .i64 0] 31 (0, 0))
  val : SlRe (nb + 2) (nb + 2) wr vl l
  nbs : nb = w.heap.size
section
variable {w wr w' : World} {nb : Nat} {s : List Int} {sv vl vl' : Value} {st st' : RX.St} {l l' : List RX.ReN}
theorem Pq.call (h : Pq w nb s sv st vl l wr) (ho : Only wr w' (nb + 1)) (hq : QS (nb + 1) sv w' st') : Pq w nb s sv st' vl l w' :=
  ⟨h.q.step ho hq, h.ext.only ho (by have := h.nbs; omega), (ho.block nb (heap_lt h.box) (by intro e; injection e with e; omega)).trans h.box, SlB.only h.val (keepsB_re _) ho, h.nbs⟩
theorem Pq.ex (h : Pq w nb s sv st vl l wr) (hx : Ext wr w') : Pq w nb s sv st vl l w' := h.call (Only.of_ext hx _) (hx.heap h.q.blk)
theorem Pq.setv (h : Pq w nb s sv st vl l wr) (hv : SlRe (nb + 2) (nb + 2) wr vl' l') : Pq w nb s sv st vl' l' wr := ⟨h.q, h.ext, h.box, hv, h.nbs⟩
theorem Pq.done {n : Nat} {x y : Value} (h : Pq w nb s sv st vl l wr) : SlRe w.heap.size w.heap.size (((wr.drewN n).setCell ⟨nb, 0, none⟩ x).setCell ⟨nb, 1, none⟩ y) vl l ∧ Ext w (((wr.drewN n).setCell ⟨nb, 0, none⟩ x).setCell ⟨nb, 1, none⟩ y) := by
  have hb := h.nbs
  have ho : Only wr (((wr.drewN n).setCell ⟨nb, 0, none⟩ x).setCell ⟨nb, 1, none⟩ y) nb := (((Only.refl _ _).drewN n).set _).set _
  exact ⟨SlRe.weak (SlB.keepB h.val (keepsB_re _) (KeepB.low ho (by omega))) (by omega), h.ext.only ho (by omega)⟩
end
set_option maxRecDepth 100000 in
set_option maxHeartbeats 4000000 in
theorem qparse_any (s : List Int) (v : Value) (w : World) (hv : SlC w v s) : Calls Tryz.prog 22 #[v] w (ParseP s w) := by
  obtain ⟨A, c, rfl, hlc, hcm, _⟩ := id hv
  by_cases hlen : 60 < s.length
  · have hP := Lib.hid (show RX.parse s = ([], 3, 60) by unfold RX.parse; rw [if_pos hlen])
    have hd : decide ((60 : Int) < s.length) = true := by simp; omega
    clear hv
    go_enter Tryz.func22, Tryz.ntmps22
    go_wp2_with fail
    refine bodyPost_ret (v := .tuple #[.slice none 0 0, .agg #[.int .i64 3, .int .i64 60]]) (by simp [results, Tryz.results22, go_sem]) rfl ?_
    exact ⟨_, _, rfl, by rw [hP.out]; exact ⟨SlB.nil_, rfl⟩, (Ext.refl w).alloc _⟩
  have hd : decide ((60 : Int) < s.length) = false := by simp; omega
  have hl60 : s.length ≤ 60 := by omega
  have HS := Lib.hid (hv.ext ((Ext.refl w).alloc (.cells #[.int .i64 0, .int .i64 0] 31)))
  have HP := Lib.hid (show RX.parse s = match s.findIdx? (fun c => RX.classOf c == 0) with
    | some i => ([], 1, (i : Int))
    | none =>
      let r := RX.altN s 12 ⟨0, 0, 0, 0, 0⟩
      let st := if r.2.ok = true ∧ r.2.at_ < s.length then r.2.fail 5 r.2.at_ else r.2
      if st.ok then (r.1, 0, 0) else ([], st.code, st.bat) from by unfold RX.parse; rw [if_neg hlen]; rfl)
  clear hv hlen
  go_enter Tryz.func22, Tryz.ntmps22
  go_wp2_with fail
  go_loop [4] (fun i => ∃ k : Nat, k ≤ s.length ∧ i = .int .i64 k ∧ ∀ j, j < k → ∀ x, s[j]? = some x → RX.isSign x = true) (fun i => s.length - (intOf i).toNat)
  case atStart => exact ⟨0, Nat.zero_le _, rfl, by intro j hj; omega⟩
  case round =>
    obtain ⟨k, hk, rfl, hpre⟩ := hrel
    have HPR := Lib.hid hpre
    clear hpre
    by_cases hlt : k < s.length
    · obtain ⟨b, o, rfl, hc⟩ := HS.out.at_ (k := k) hlt
      have hki : (k : Int) < (s.length : Int) := by omega
      have hdk : decide ((k : Int) < (s.length : Int)) = true := decide_eq_true hki
      have hg : s[k]? = some s[k] := List.getElem?_eq_getElem hlt
      generalize s[k] = x at hc hg
      have HG := Lib.hid hg
      clear hg
      rcases hsg : RX.isSign x with _ | _
      · have HSG := Lib.hid hsg
        clear hsg
        go_wp2_with (go_at_call 41; go_loud (refine (rsignQ_any x _).mono ?_; rw [HSG.out]; rintro e w3 ⟨rfl, rfl⟩))
        have hp1 := HP.out
        rw [parse_some HG.out HSG.out HPR.out] at hp1
        refine bodyPost_ret (v := .tuple #[.slice none 0 0, .agg #[.int .i64 1, .int .i64 k]]) (by simp [results, Tryz.results22, go_sem]) rfl ?_
        exact ⟨_, _, rfl, by rw [hp1]; exact ⟨SlB.nil_, rfl⟩, (Ext.refl w).alloc _⟩
      · have HSG := Lib.hid hsg
        clear hsg
        go_wp2_with (go_at_call 41; go_loud (refine (rsignQ_any x _).mono ?_; rw [HSG.out]; rintro e w3 ⟨rfl, rfl⟩))
        go_round
        case rel => exact ⟨k + 1, by omega, by go_num, by
          intro j hj y hy
          rcases Nat.lt_succ_iff_lt_or_eq.1 hj with h | rfl
          · exact HPR.out j h y hy
          · rw [HG.out] at hy; injection hy with hy; rw [← hy]; exact HSG.out⟩
        case measure => simp [intOf]; omega
    · have hdk : decide ((k : Int) < (s.length : Int)) = false := by simp; omega
      go_upto_region 9 with fail
      have hall : ∀ x ∈ s, RX.isSign x = true := by
        intro x hx
        obtain ⟨j, hj, e⟩ := List.mem_iff_getElem.1 hx
        exact HPR.out j (by omega) x (by rw [List.getElem?_eq_getElem hj, e])
      have hp1 := HP.out
      rw [parse_none hall] at hp1
      dsimp only at hp1
      obtain ⟨nb, hnb⟩ : ∃ nb, nb = w.heap.size := ⟨_, rfl⟩
      have HC1 := Lib.hid (show Pq w nb s (.slice A s.length c) ⟨0, 0, 0, 0, 0⟩ (.slice none 0 0) [] ((w.alloc (.cells #[.int .i64 0, .int .i64 0] 31)).alloc (.cells #[.slice A s.length c, .int .i64 0, .int .i64 0, .int .i64 0, .int .i64 0, .int .i64 0] 88)) from
        ⟨⟨HS.out, by simp; omega, hl60, fun x hx => sign_pos (hall x hx), (Ext.refl _).alloc _, by
            have := heap_alloc_new (w.alloc (.cells #[.int .i64 0, .int .i64 0] 31)) (.cells #[.slice A s.length c, .int .i64 0, .int .i64 0, .int .i64 0, .int .i64 0, .int .i64 0] 88)
            rw [show nb + 1 = (w.alloc (.cells #[.int .i64 0, .int .i64 0] 31)).heap.size by simp; omega]
            exact this⟩, ((Ext.refl w).alloc _).alloc _, ((Ext.refl _).alloc _).heap (hnb ▸ heap_alloc_new w _), SlB.nil_, hnb⟩)
      have HAL := Lib.hid (qaltN (w0 := w.alloc (.cells #[.int .i64 0, .int .i64 0] 31)) (rb := nb + 1) (sv := .slice A s.length c) (s := s) hl60 12 (Nat.le_refl _))
      generalize hr : RX.altN s 12 ⟨0, 0, 0, 0, 0⟩ = r at hp1
      generalize hsq : (if r.2.ok = true ∧ r.2.at_ < s.length then r.2.fail 5 r.2.at_ else r.2) = stq at hp1
      have HSQ := Lib.hid hsq
      have HR := Lib.hid hr
      have HPP := Lib.hid hp1
      have HNB := Lib.hid hnb
      have hbz : nb + 2 ≤ ((w.alloc (.cells #[.int .i64 0, .int .i64 0] 31)).alloc (.cells #[.slice A s.length c, .int .i64 0, .int .i64 0, .int .i64 0, .int .i64 0, .int .i64 0] 88)).heap.size := HC1.out.q.rbl
      rw [← hnb]
      generalize (w.alloc _).alloc _ = w2 at HC1 hbz ⊢
      clear hp1 hr hall hdk hlt hnb hsq
      go_upto_region 10 with (go_at_call 42; go_loud (refine (HAL.out _ _ HC1.out.q rfl (Nat.zero_le _) (by decide) rfl).mono ?_; rintro e w3 ⟨l, v, st, rfl, hv, hq, ho, hout⟩; have HC3 := Lib.hid ((HC1.out.call ho hq).setv (SlRe.weak hv hbz)); rw [HR.out] at hout; have HO := Lib.hid hout; obtain ⟨Av, cv, rfl, -⟩ := hv.form; clear hv hq ho hout))
      rcases hk' : st.ok with _ | _
      · have HK := Lib.hid hk'
        have hrk : r.2.ok = false := by rw [← HO.out.ok]; exact hk'
        have hcb := HO.out.bad hrk
        have hp := HPP.out
        have hk2 : stq = r.2 := by rw [← HSQ.out, if_neg (by rw [hrk]; simp)]
        rw [hk2, if_neg (by rw [hrk]; simp), ← hcb.1, ← hcb.2] at hp
        have HPX := Lib.hid hp
        clear hk' hrk hcb hp hk2
        go_upto_region 13 with (first
          | (go_at_call 43; go_loud (refine (qok_any _ _ HC3.out.q).mono ?_; rw [HK.out]; rintro e w4 ⟨rfl, hx⟩; have HC4 := Lib.hid (HC3.out.ex hx); have c1 := HC4.out.q.blk.c1; clear hx))
          | (go_at_call 43; go_loud (refine (qok_any _ _ HC4.out.q).mono ?_; rw [HK.out]; rintro e w5 ⟨rfl, hx⟩; have HC5 := Lib.hid (HC4.out.ex hx); have c1 := HC5.out.q.blk.c1; clear hx)))
        have c4 := HC5.out.q.blk.c4
        have c5 := HC5.out.q.blk.c5
        have b0 := cell_of_row _ nb 0 _ _ _ HC5.out.box
        have b1 := cell_of_row _ nb 1 _ _ _ HC5.out.box
        have g0 := frozen_of_row _ nb 0 _ _ HC5.out.box
        have g1 := frozen_of_row _ nb 1 _ _ HC5.out.box
        go_region
        all_goals go_wp2_with fail
        all_goals refine bodyPost_ret (v := .tuple #[.slice none 0 0, .agg #[.int .i64 st.code, .int .i64 st.bat]]) (by simp [results, Tryz.results22, go_sem, *]) rfl ?_
        all_goals
          have hd := HC5.out.done (n := 1) (x := .int .i64 st.code) (y := .int .i64 st.bat)
          exact ⟨_, _, rfl, by rw [HPX.out]; exact ⟨SlB.nil_, rfl⟩, hd.2⟩
      have HK := Lib.hid hk'
      have hrk : r.2.ok = true := by rw [← HO.out.ok]; exact hk'
      obtain ⟨e1, e2⟩ := HO.out.good hrk
      have hp := HPP.out
      have hsq := HSQ.out
      rw [← e1] at hp
      rw [← e2] at hsq
      have hnl : st.at_ ≤ 1000 := by have := HO.out.hi; omega
      by_cases hat : st.at_ < s.length
      · have hda : decide ((st.at_ : Int) < (s.length : Int)) = true := by simp; omega
        have hno := RX.failno st st.at_
        rw [if_pos ⟨hk', hat⟩] at hsq
        rw [← hsq, if_neg (by rw [hno]; simp)] at hp
        have HPX := Lib.hid hp
        have HNO := Lib.hid hno
        clear hk' hrk e1 e2 hp hno hsq
        go_upto_region 11 with (go_at_call 43; go_loud (refine (qok_any _ _ HC3.out.q).mono ?_; rw [HK.out]; rintro e w4 ⟨rfl, hx⟩; have HC4 := Lib.hid (HC3.out.ex hx); have c1 := HC4.out.q.blk.c1; clear hx))
        go_upto_region 13 with (first
          | (go_at_call 44; go_loud (refine (qbad_any _ _ 5 (st.at_ : Int) HC4.out.q).mono ?_; rintro e w6 ⟨rfl, hq, ho⟩; have HC6 := Lib.hid (HC4.out.call ho hq); clear hq ho))
          | (go_at_call 43; go_loud (refine (qok_any _ _ HC6.out.q).mono ?_; rw [HNO.out]; rintro e w5 ⟨rfl, hx⟩; have HC5 := Lib.hid (HC6.out.ex hx); have c1 := HC5.out.q.blk.c1; clear hx)))
        generalize st.fail 5 (st.at_ : Int) = st2 at HC5 HPX
        have c4 := HC5.out.q.blk.c4
        have c5 := HC5.out.q.blk.c5
        have b0 := cell_of_row _ nb 0 _ _ _ HC5.out.box
        have b1 := cell_of_row _ nb 1 _ _ _ HC5.out.box
        have g0 := frozen_of_row _ nb 0 _ _ HC5.out.box
        have g1 := frozen_of_row _ nb 1 _ _ HC5.out.box
        go_region
        all_goals go_wp2_with fail
        all_goals refine bodyPost_ret (v := .tuple #[.slice none 0 0, .agg #[.int .i64 st2.code, .int .i64 st2.bat]]) (by simp [results, Tryz.results22, go_sem, *]) rfl ?_
        all_goals
          have hd := HC5.out.done (n := 1) (x := .int .i64 st2.code) (y := .int .i64 st2.bat)
          exact ⟨_, _, rfl, by rw [HPX.out]; exact ⟨SlB.nil_, rfl⟩, hd.2⟩
      · have hda : decide ((st.at_ : Int) < (s.length : Int)) = false := by simp; omega
        rw [if_neg (fun h => hat h.2)] at hsq
        rw [← hsq, if_pos hk'] at hp
        have HPX := Lib.hid hp
        clear hk' hrk e1 e2 hp hsq
        go_upto_region 14 with (first
          | (go_at_call 43; go_loud (refine (qok_any _ _ HC3.out.q).mono ?_; rw [HK.out]; rintro e w4 ⟨rfl, hx⟩; have HC4 := Lib.hid (HC3.out.ex hx); have c1 := HC4.out.q.blk.c1; clear hx))
          | (go_at_call 43; go_loud (refine (qok_any _ _ HC4.out.q).mono ?_; rw [HK.out]; rintro e w5 ⟨rfl, hx⟩; have HC5 := Lib.hid (HC4.out.ex hx); have c1 := HC5.out.q.blk.c1; clear hx)))
        have b0 := cell_of_row _ nb 0 _ _ _ HC5.out.box
        have b1 := cell_of_row _ nb 1 _ _ _ HC5.out.box
        have g0 := frozen_of_row _ nb 0 _ _ HC5.out.box
        have g1 := frozen_of_row _ nb 1 _ _ HC5.out.box
        go_wp2_with fail
        refine bodyPost_ret (v := .tuple #[.slice Av l.length cv, .agg #[.int .i64 0, .int .i64 0]]) (by simp [results, Tryz.results22, go_sem, b0, b1]) rfl ?_
        have hd := HC5.out.done (n := 0) (x := .int .i64 0) (y := .int .i64 0)
        exact ⟨_, _, rfl, by rw [HPX.out]; exact ⟨hd.1, rfl⟩, hd.2⟩
end Go.Proofs.YtfblkahjefdmaaaGreat

/- Walk: Groups of the document's own reader. -/
namespace Go.Proofs.YtfblkahjefdmaaaGreat
open Go.RowKit

set_option maxRecDepth 100000 in
set_option maxHeartbeats 1000000 in
theorem qgroups_any (l : List RX.ReN) (B : Nat) (v : Value) (w : World) (hv : SlRe B B w v l) (_hl : l.length ≤ 1000000) : Calls Tryz.prog 23 #[v] w (Ret (.int .i64 (RX.groups l : Nat)) w) := by
  obtain ⟨A, c, rfl, hlc, hcm⟩ := hv.form
  have HV := Lib.hid hv
  clear hv
  go_enter Tryz.func23, Tryz.ntmps23
  go_wp2_with fail
  go_loopw [3, 4] (fun n i wr => ∃ k : Nat, k ≤ l.length ∧ i = .int .i64 k ∧ n = .int .i64 (RX.groups (l.take k) : Nat) ∧ RX.groups (l.take k) ≤ k ∧ Ext w wr) (fun _ i _ => l.length - (intOf i).toNat)
  case atStart => exact ⟨0, Nat.zero_le _, rfl, rfl, Nat.le_refl _, Ext.refl w⟩
  case round =>
    obtain ⟨k, hk, rfl, rfl, hg, hE⟩ := hrel
    have HE := Lib.hid hE
    by_cases hlt : k < l.length
    · obtain ⟨g, o, cs, rfl, hcr, hcell⟩ := (HV.out.keep (keeps_re B) (KeepT.of_ext hE) (KeepT.of_ext hE)).at_ hlt
      have hdk : decide ((k : Int) < (l.length : Int)) = true := by simp; omega
      have hki : (k : Int) < (l.length : Int) := by omega
      have HT := Lib.hid (groups_take l hlt)
      generalize l[k] = x at hcr HT
      obtain ⟨n2, hn2⟩ : ∃ n2, RX.groups (l.take (k + 1)) = n2 := ⟨_, rfl⟩
      rw [hn2] at HT
      have HN := Lib.hid hn2
      clear hn2
      generalize RX.groups (l.take k) = n1 at HT hg ⊢
      obtain ⟨Ax, cx, rfl⟩ := hcr.cells
      have c0 := hcell 0 _ rfl
      have c2 := hcell 2 _ rfl
      rw [Nat.add_zero] at c0
      clear hcell hcr hE
      rcases h5 : (x.kind == 5) with _ | _
      · have HX := Lib.hid (show n2 = n1 by rw [HT.out, if_neg (fun h => beq_eq_false_iff_ne.1 h5 h.1)]; rfl)
        go_wp2_with fail
        go_roundw
        case rel => exact ⟨k + 1, by omega, by go_num, by rw [HN.out, HX.out], by rw [HN.out, HX.out]; omega, HE.out⟩
        case measure => simp [intOf]; omega
      · rcases h0 : decide (0 < x.lo) with _ | _
        · have HX := Lib.hid (show n2 = n1 by rw [HT.out, if_neg (fun h => of_decide_eq_false h0 h.2)]; rfl)
          go_wp2_with fail
          go_roundw
          case rel => exact ⟨k + 1, by omega, by go_num, by rw [HN.out, HX.out], by rw [HN.out, HX.out]; omega, HE.out⟩
          case measure => simp [intOf]; omega
        · have HX := Lib.hid (show n2 = n1 + 1 by rw [HT.out, if_pos ⟨beq_iff_eq.1 h5, of_decide_eq_true h0⟩])
          go_wp2_with fail
          go_roundw
          case rel => exact ⟨k + 1, by omega, by go_num, by rw [HN.out, HX.out]; go_num, by rw [HN.out, HX.out]; omega, HE.out⟩
          case measure => simp [intOf]; omega
    · have hkl : k = l.length := by omega
      have hdk : decide ((k : Int) < (l.length : Int)) = false := by simp; omega
      have HK := Lib.hid hkl
      clear hkl hE
      go_wp2_with fail
      go_ret
      exact ⟨ret_congr (by rw [HK.out, List.take_length]; rfl), HE.out⟩
end Go.Proofs.YtfblkahjefdmaaaGreat
