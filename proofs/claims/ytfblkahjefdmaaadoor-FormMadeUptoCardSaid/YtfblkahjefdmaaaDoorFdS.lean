/- Walks: are two texts one; a format is like itself. -/
import Derived.Test.YtfblkahjefdmaaaDoorFdH
import Derived.RegionTactic
import Derived.ChangeAlike
import Derived.Deep.QuietTactic
import Derived.BigQuiet
namespace Go.Proofs.YtfblkahjefdmaaaDoor
open Go.RowKit

set_option maxHeartbeats 1000000 in
theorem same_any (va vb : Value) (xs ys : List Int) (w : World) (hx : SlC w va xs) (hy : SlC w vb ys) :
    Calls Tryd.prog 18 #[va, vb] w (Ret (.bool (decide (xs = ys))) w) := by
  have HX := Lib.hid hx
  have HY := Lib.hid hy
  obtain ⟨A, ca, rfl, hlx, hcx, _⟩ := hx
  obtain ⟨B, cb, rfl, hly, hcy, _⟩ := hy
  by_cases hl : xs.length = ys.length
  · have hb1 : ((xs.length : Int) != ys.length) = false := by simp [hl]
    have HL := Lib.hid hl
    clear hl
    go_enter Tryd.func18, Tryd.ntmps18
    go_wp2_with fail
    go_loopw [5] (fun i wr => ∃ k : Nat, k ≤ xs.length ∧ i = .int .i64 k ∧ (∀ j, j < k → xs[j]? = ys[j]?) ∧ Ext w wr) (fun i _ => xs.length - (intOf i).toNat)
    case atStart => exact ⟨0, Nat.zero_le _, rfl, by intro j hj; omega, Ext.refl w⟩
    case round =>
      obtain ⟨k, hk, rfl, hpre, hE⟩ := hrel
      have HP := Lib.hid hpre
      clear hpre
      by_cases hlt : k < xs.length
      · have hlt2 : k < ys.length := by have := HL.out; omega
        obtain ⟨b, o, rfl, hc⟩ := (HX.out.ext hE).at_ hlt
        obtain ⟨b', o', rfl, hc'⟩ := (HY.out.ext hE).at_ hlt2
        by_cases he : xs[k] = ys[k]
        · have hb2 : (xs[k] != ys[k]) = false := by simp [he]
          have HE := Lib.hid he
          clear he
          go_wp2_with fail
          go_quiet (fail)
          go_wp2_with fail
          go_roundw
          case rel => exact ⟨k + 1, by omega, by go_num, by intro j hj; rcases Nat.lt_succ_iff_lt_or_eq.1 hj with h | rfl; exact HP.out j h; rw [List.getElem?_eq_getElem hlt, List.getElem?_eq_getElem hlt2, HE.out], hE.drewN _⟩
          case measure => simp [intOf]; omega
        · have hb2 : (xs[k] != ys[k]) = true := by simp [he]
          have hf : decide (xs = ys) = false := decide_eq_false (fun h => he (by subst h; rfl))
          have HF := Lib.hid hf
          clear hf
          go_wp2_with fail
          go_quiet (fail)
          go_wp2_with fail
          go_ret
          exact ⟨by rw [HF.out]; rfl, hE.drewN _⟩
      · have hf : decide (xs = ys) = true := decide_eq_true (List.ext_getElem? fun j => by
          rcases Nat.lt_or_ge j k with h | h
          · exact HP.out j h
          · rw [List.getElem?_eq_none (by omega), List.getElem?_eq_none (by have := HL.out; omega)])
        have HF := Lib.hid hf
        clear hf
        go_wp2_with fail
        go_ret
        exact ⟨by rw [HF.out]; rfl, hE⟩
  · have hb1 : ((xs.length : Int) != ys.length) = true := by simp; omega
    have hf : decide (xs = ys) = false := decide_eq_false (fun h => hl (by rw [h]))
    have HF := Lib.hid hf
    clear hf hl
    go_enter Tryd.func18, Tryd.ntmps18
    go_wp2_with fail
    go_ret
    exact ⟨by rw [HF.out]; rfl, Ext.refl _⟩

theorem keeps_cf (B : Nat) : Keeps [21] (CF B) := fun _ _ _ _ hk h => h.keepT hk
theorem samere_b {w : World} {g : Nat} {cs : Array Value} {t : TypeId} {o : Nat} {v : Value} (h : w.heap[g]? = some (.cells cs t (0, 0))) (hv : cs[o]? = some v) : w.cell? ⟨g, o, none⟩ = some v := by
  rw [cell_of_row w g o cs t (0, 0) h]; exact hv
theorem heap_new2 (w : World) (a b : Obj) : ((w.alloc a).alloc b).heap[w.heap.size + 1]? = some b := by
  have h := heap_alloc_new (w.alloc a) b
  have e : (w.alloc a).heap.size = w.heap.size + 1 := by simp
  rw [e] at h; exact h
set_option maxRecDepth 100000 in
set_option maxHeartbeats 2000000 in
theorem sameforms_any (l : List FM.Form) (B B' : Nat) (va vb : Value) (w : World) (ha : SlB 34 5 (CF B) B w va l) (hb : SlB 34 5 (CF B') B' w vb l) :
    Calls Tryd.prog 22 #[va, vb] w (Ret (.bool true) w) := by
  have HA := Lib.hid ha
  have HB := Lib.hid hb
  obtain ⟨A, ca, rfl, hla, hca⟩ := ha.form
  obtain ⟨A', cb, rfl, hlb, hcb⟩ := hb.form
  clear ha hb
  have hne : ((l.length : Int) != l.length) = false := by simp
  go_enter Tryd.func22, Tryd.ntmps22
  go_wp2_with fail
  go_loopw [5] (fun i wr => ∃ k : Nat, k ≤ l.length ∧ i = .int .i64 k ∧ Ext w wr) (fun i _ => l.length - (intOf i).toNat)
  case atStart => exact ⟨0, Nat.zero_le _, rfl, Ext.refl w⟩
  case round =>
    obtain ⟨k, hk, rfl, hE⟩ := hrel
    have HE := Lib.hid hE
    by_cases hlt : k < l.length
    · obtain ⟨g, o, cs, rfl, hcr, hcell⟩ := (HA.out.keep (keeps_cf B) (KeepT.of_ext hE) (KeepT.of_ext hE)).at_ hlt
      obtain ⟨g', o', cs', rfl, hcr', hcell'⟩ := (HB.out.keep (keeps_cf B') (KeepT.of_ext hE) (KeepT.of_ext hE)).at_ hlt
      generalize l[k] = x at hcr hcr'
      obtain ⟨sv, sw, rfl, hsv, hsw⟩ := hcr
      obtain ⟨sv', sw', rfl, hsv', hsw'⟩ := hcr'
      have HS := Lib.hid hsv
      have HS' := Lib.hid hsv'
      have HU := Lib.hid hsw
      have HU' := Lib.hid hsw'
      obtain ⟨As, cas, rfl, -⟩ := hsv.form
      obtain ⟨As', cas', rfl, -⟩ := hsv'.form
      obtain ⟨Au, cau, rfl, -⟩ := hsw.form
      obtain ⟨Au', cau', rfl, -⟩ := hsw'.form
      clear hsv hsw hsv' hsw'
      have c0 := hcell 0 _ rfl
      have c1 := hcell 1 _ rfl
      have c2 := hcell 2 _ rfl
      have c3 := hcell 3 _ rfl
      have c4 := hcell 4 _ rfl
      have d0 := hcell' 0 _ rfl
      have d1 := hcell' 1 _ rfl
      have d2 := hcell' 2 _ rfl
      have d3 := hcell' 3 _ rfl
      have d4 := hcell' 4 _ rfl
      rw [Nat.add_zero] at c0 d0
      have hgl := World.block_lt_of_cell? _ _ c0
      have hgl' := World.block_lt_of_cell? _ _ d0
      clear hcell hcell' hE
      go_upto_region 6 with fail
      go_cut [6, 7] (fun s6 s7 wx => ∃ p q, s6 = .pointer (some ⟨p, 0, none⟩) ∧ s7 = .pointer (some ⟨q, 0, none⟩) ∧ Ext wr wx ∧
        wx.heap[p]? = some (.cells #[.int .i64 x.kind, .int .i64 x.group, .int .i64 x.cas, .slice As x.text.length cas, .slice Au x.els.length cau] 34 (0, 0)) ∧
        wx.heap[q]? = some (.cells #[.int .i64 x.kind, .int .i64 x.group, .int .i64 x.cas, .slice As' x.text.length cas', .slice Au' x.els.length cau'] 34 (0, 0)))
      case first =>
        go_region
        all_goals go_wp2_with fail
        all_goals go_meet
        · exact ⟨_, _, rfl, rfl, (((Ext.refl wr).alloc _).alloc _).drew, ((Ext.refl _).alloc _).heap (heap_alloc_new wr _), heap_new2 wr _ _⟩
        · exact ⟨_, _, rfl, rfl, (((Ext.refl wr).alloc _).alloc _).drew, heap_new2 wr _ _, ((Ext.refl _).alloc _).heap (heap_alloc_new wr _)⟩
      case rest =>
        obtain ⟨p, q, rfl, rfl, hEx, hp, hq⟩ := hcut
        have p0 := samere_b (o := 0) hp rfl
        have p1 := samere_b (o := 1) hp rfl
        have p2 := samere_b (o := 2) hp rfl
        have p3 := samere_b (o := 3) hp rfl
        have p4 := samere_b (o := 4) hp rfl
        have q0 := samere_b (o := 0) hq rfl
        have q1 := samere_b (o := 1) hq rfl
        have q2 := samere_b (o := 2) hq rfl
        have q3 := samere_b (o := 3) hq rfl
        have q4 := samere_b (o := 4) hq rfl
        have HX := Lib.hid hEx
        have b0 : (x.kind != x.kind) = false := by simp
        have b1 : (x.group != x.group) = false := by simp
        have b2 : (x.cas != x.cas) = false := by simp
        have HC := Lib.hid (fun W (hW : Ext wc W) => same_any _ _ x.text x.text W (SlB.slc (HS.out.keep (keeps_c []) (KeepT.of_ext (hEx.trans hW)) (KeepT.of_ext (hEx.trans hW)))) (SlB.slc (HS'.out.keep (keeps_c []) (KeepT.of_ext (hEx.trans hW)) (KeepT.of_ext (hEx.trans hW)))))
        have HC2 := Lib.hid (fun W (hW : Ext wc W) => same_any _ _ x.els x.els W (SlB.slc (HU.out.keep (keeps_c []) (KeepT.of_ext (hEx.trans hW)) (KeepT.of_ext (hEx.trans hW)))) (SlB.slc (HU'.out.keep (keeps_c []) (KeepT.of_ext (hEx.trans hW)) (KeepT.of_ext (hEx.trans hW)))))
        have HD := Lib.hid (show decide (x.text = x.text) = true by simp)
        have HD2 := Lib.hid (show decide (x.els = x.els) = true by simp)
        have tok1 : True := trivial
        clear hEx hp hq c0 c1 c2 c3 c4 d0 d1 d2 d3 d4
        go_wp2_with (first
          | (go_at_call 18; have _t := tok1; refine (HC.out _ (Ext.refl _)).mono ?_; rw [HD.out]; rintro e w' ⟨rfl, hE2⟩; have HE2 := Lib.hid hE2; have p3' := hE2.cell p3; have p4 := hE2.cell p4; have q4 := hE2.cell q4; clear hE2 tok1 _t)
          | (go_at_call 18; refine (HC2.out _ HE2.out).mono ?_; rw [HD2.out]; rintro e w2 ⟨rfl, hE3⟩))
        go_roundw
        case rel => exact ⟨k + 1, by omega, by go_num, ((HE.out.trans HX.out).trans HE2.out).trans hE3⟩
        case measure => simp [intOf]; omega
    · go_wp2_with fail
      go_ret
      exact ⟨rfl, hE⟩
end Go.Proofs.YtfblkahjefdmaaaDoor
