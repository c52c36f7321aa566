/- For ResynMadeS: what the texts XSrR of wip/tpl say. -/
import Derived.Test.YtpcdknfmgacggaaM
import Derived.ChangeAlike
set_option maxRecDepth 100000
set_option maxHeartbeats 2000000
namespace Go.Proofs.Ytpcdknfmgacggaa
open Go.RowKit
theorem samere_b {w : World} {g : Nat} {cs : Array Value} {t : TypeId} {o : Nat} {v : Value} (h : w.heap[g]? = some (.cells cs t (0, 0))) (hv : cs[o]? = some v) : w.cell? ⟨g, o, none⟩ = some v := by
  rw [cell_of_row w g o cs t (0, 0) h]; exact hv
theorem heap_new2 (w : World) (a b : Obj) : ((w.alloc a).alloc b).heap[w.heap.size + 1]? = some b := by
  have h := heap_alloc_new (w.alloc a) b
  have e : (w.alloc a).heap.size = w.heap.size + 1 := by simp
  rw [e] at h; exact h
theorem samere_any (l : List RX.ReN) (B B' : Nat) (va vb : Value) (w : World) (ha : SlRe B B w va l) (hb : SlRe B' B' w vb l) (_hl : l.length ≤ 1000000) :
    Calls Try.prog 14 #[va, vb] w (Ret (.bool true) w) := by
  have HA := Lib.hid ha
  have HB := Lib.hid hb
  obtain ⟨A, ca, rfl, hla, hca⟩ := ha.form
  obtain ⟨A', cb, rfl, hlb, hcb⟩ := hb.form
  clear ha hb
  have hne : ((l.length : Int) != l.length) = false := by simp
  go_enter Try.func14, Try.ntmps14
  go_wp2_with fail
  go_loopw [5] (fun i wr => ∃ k : Nat, k ≤ l.length ∧ i = .int .i64 k ∧ Ext w wr) (fun i _ => l.length - (intOf i).toNat)
  case atStart => exact ⟨0, Nat.zero_le _, rfl, Ext.refl w⟩
  case round =>
    obtain ⟨k, hk, rfl, hE⟩ := hrel
    have HE := Lib.hid hE
    by_cases hlt : k < l.length
    · obtain ⟨g, o, cs, rfl, hcr, hcell⟩ := (HA.out.keep (keeps_re B) (KeepT.of_ext hE) (KeepT.of_ext hE)).at_ hlt
      obtain ⟨g', o', cs', rfl, hcr', hcell'⟩ := (HB.out.keep (keeps_re B') (KeepT.of_ext hE) (KeepT.of_ext hE)).at_ hlt
      generalize l[k] = x at hcr hcr'
      obtain ⟨sv, rfl, hsv⟩ := hcr
      obtain ⟨sv', rfl, hsv'⟩ := hcr'
      have HS := Lib.hid hsv
      have HS' := Lib.hid hsv'
      obtain ⟨As, cas, rfl, _⟩ := hsv
      obtain ⟨As', cas', rfl, _⟩ := hsv'
      have c0 := hcell 0 _ rfl
      have c1 := hcell 1 _ rfl
      have c2 := hcell 2 _ rfl
      have c3 := hcell 3 _ rfl
      have c4 := hcell 4 _ rfl
      have c5 := hcell 5 _ rfl
      have c6 := hcell 6 _ rfl
      have d0 := hcell' 0 _ rfl
      have d1 := hcell' 1 _ rfl
      have d2 := hcell' 2 _ rfl
      have d3 := hcell' 3 _ rfl
      have d4 := hcell' 4 _ rfl
      have d5 := hcell' 5 _ rfl
      have d6 := hcell' 6 _ rfl
      rw [Nat.add_zero] at c0 d0
      have hgl := World.block_lt_of_cell? _ _ c0
      have hgl' := World.block_lt_of_cell? _ _ d0
      clear hcell hcell' hE
      go_upto_region 6 with fail
      go_cut [6, 7] (fun s6 s7 wx => ∃ p q, s6 = .pointer (some ⟨p, 0, none⟩) ∧ s7 = .pointer (some ⟨q, 0, none⟩) ∧ Ext wr wx ∧
        wx.heap[p]? = some (.cells #[.int .i64 x.kind, .int .i64 x.deep, .int .i64 x.lo, .int .i64 x.hi, .bool x.lazy, .bool x.neg, .slice As x.set.length cas] 47 (0, 0)) ∧
        wx.heap[q]? = some (.cells #[.int .i64 x.kind, .int .i64 x.deep, .int .i64 x.lo, .int .i64 x.hi, .bool x.lazy, .bool x.neg, .slice As' x.set.length cas'] 47 (0, 0)))
      case first =>
        go_region
        all_goals go_wp2_with fail
        all_goals go_meet
        · exact ⟨_, _, rfl, rfl, (((Ext.refl wr).alloc _).alloc _).drew, ((Ext.refl _).alloc _).heap (heap_alloc_new wr _), heap_new2 wr _ _⟩
        · exact ⟨_, _, rfl, rfl, (((Ext.refl wr).alloc _).alloc _).drew, heap_new2 wr _ _, ((Ext.refl _).alloc _).heap (heap_alloc_new wr _)⟩
      case rest =>
        obtain ⟨p, q, rfl, rfl, hEx, hp, hq⟩ := hcut
        have p0 := samere_b (o := 0) hp rfl
        have p1 := samere_b (o := 1) hp rfl
        have p2 := samere_b (o := 2) hp rfl
        have p3 := samere_b (o := 3) hp rfl
        have p4 := samere_b (o := 4) hp rfl
        have p5 := samere_b (o := 5) hp rfl
        have p6 := samere_b (o := 6) hp rfl
        have q0 := samere_b (o := 0) hq rfl
        have q1 := samere_b (o := 1) hq rfl
        have q2 := samere_b (o := 2) hq rfl
        have q3 := samere_b (o := 3) hq rfl
        have q4 := samere_b (o := 4) hq rfl
        have q5 := samere_b (o := 5) hq rfl
        have q6 := samere_b (o := 6) hq rfl
        have HX := Lib.hid hEx
        have b0 : (x.kind != x.kind) = false := by simp
        have b1 : (x.deep != x.deep) = false := by simp
        have b2 : (x.lo != x.lo) = false := by simp
        have b3 : (x.hi != x.hi) = false := by simp
        have b4 : (x.lazy != x.lazy) = false := by simp
        have b5 : (x.neg != x.neg) = false := by simp
        have HC := Lib.hid (same_any _ _ x.set x.set wc (SlB.slc (HS.out.keep (keeps_c []) (KeepT.of_ext hEx) (KeepT.of_ext hEx))) (SlB.slc (HS'.out.keep (keeps_c []) (KeepT.of_ext hEx) (KeepT.of_ext hEx))))
        have HD := Lib.hid (show decide (x.set = x.set) = true by simp)
        clear hEx hp hq c0 c1 c2 c3 c4 c5 c6 d0 d1 d2 d3 d4 d5 d6
        go_wp2_with (go_at_call 30; refine HC.out.mono ?_; rw [HD.out]; rintro e w' ⟨rfl, hE2⟩)
        go_roundw
        case rel => exact ⟨k + 1, by omega, by go_num, (HE.out.trans HX.out).trans hE2⟩
        case measure => simp [intOf]; omega
    · go_wp2_with fail
      go_ret
      exact ⟨rfl, hE⟩
end Go.Proofs.Ytpcdknfmgacggaa
