/- Walks: Groups; what every program answers that parses regular texts. -/
import Derived.Test.YtfblkahjefdmaaaWc
namespace Go.Proofs.Ytfblkahjefdmaaa
open Go.RowKit

theorem parse_k1 : RX.parse [97, 124, 40, 98, 41] = ([⟨1, 0, 0, 0, false, false, []⟩, ⟨0, 1, 0, 0, false, false, []⟩, ⟨2, 2, 0, 0, false, false, [97, 97]⟩, ⟨0, 1, 0, 0, false, false, []⟩, ⟨5, 2, 1, 0, false, false, []⟩, ⟨0, 3, 0, 0, false, false, []⟩, ⟨2, 4, 0, 0, false, false, [98, 98]⟩], 0, 0) := by kernel_rfl
theorem parse_k2 : RX.parse [97, 42, 42] = ([], 5, 2) := by kernel_rfl
theorem groups_take (l : List RX.ReN) {k : Nat} (h : k < l.length) : RX.groups (l.take (k + 1)) = RX.groups (l.take k) + (if l[k].kind = 5 ∧ 0 < l[k].lo then 1 else 0) := by
  unfold RX.groups
  rw [List.take_succ_eq_append_getElem h, List.filter_append, List.length_append]
  congr 1
  by_cases h1 : l[k].kind = 5 ∧ 0 < l[k].lo
  · rw [if_pos h1]; simp [h1.1, h1.2]
  · rw [if_neg h1]
    have : (decide (l[k].kind = 5) && decide (0 < l[k].lo)) = false := by
      rcases hb : (decide (l[k].kind = 5) && decide (0 < l[k].lo)) with _ | _
      · rfl
      · exact absurd (by simpa using hb) h1
    simp [this]

set_option maxRecDepth 100000 in
set_option maxHeartbeats 1000000 in
theorem groups_any (l : List RX.ReN) (B : Nat) (v : Value) (w : World) (hv : SlRe B B w v l) (_hl : l.length ≤ 1000000) : Calls Try.prog 23 #[v] w (Ret (.int .i64 (RX.groups l : Nat)) w) := by
  obtain ⟨A, c, rfl, hlc, hcm⟩ := hv.form
  have HV := Lib.hid hv
  clear hv
  go_enter Try.func23, Try.ntmps23
  go_wp2_with fail
  go_loopw [3, 8] (fun n i wr => ∃ k : Nat, k ≤ l.length ∧ i = .int .i64 k ∧ n = .int .i64 (RX.groups (l.take k) : Nat) ∧ RX.groups (l.take k) ≤ k ∧ Ext w wr) (fun _ i _ => l.length - (intOf i).toNat)
  case atStart => exact ⟨0, Nat.zero_le _, rfl, rfl, Nat.le_refl _, Ext.refl w⟩
  case round =>
    obtain ⟨k, hk, rfl, rfl, hg, hE⟩ := hrel
    have HE := Lib.hid hE
    by_cases hlt : k < l.length
    · obtain ⟨g, o, cs, rfl, hcr, hcell⟩ := (HV.out.keep (keeps_re B) (KeepT.of_ext hE) (KeepT.of_ext hE)).at_ hlt
      have HT := Lib.hid (groups_take l hlt)
      generalize l[k] = x at hcr HT
      obtain ⟨n2, hn2⟩ : ∃ n2, RX.groups (l.take (k + 1)) = n2 := ⟨_, rfl⟩
      rw [hn2] at HT
      have HN := Lib.hid hn2
      clear hn2
      generalize RX.groups (l.take k) = n1 at HT hg ⊢
      obtain ⟨Ax, cx, rfl⟩ := hcr.cells
      have c0 := hcell 0 _ rfl
      have c1 := hcell 1 _ rfl
      have c2 := hcell 2 _ rfl
      have c3 := hcell 3 _ rfl
      have c4 := hcell 4 _ rfl
      have c5 := hcell 5 _ rfl
      have c6 := hcell 6 _ rfl
      rw [Nat.add_zero] at c0
      clear hcell hcr hE
      rcases h5 : (x.kind == 5) with _ | _
      · have HX := Lib.hid (show n2 = n1 by rw [HT.out, if_neg (fun h => beq_eq_false_iff_ne.1 h5 h.1)]; rfl)
        go_wp2_with fail
        go_roundw
        case rel => exact ⟨k + 1, by omega, by go_num, by rw [HN.out, HX.out], by rw [HN.out, HX.out]; omega, HE.out.alloc _⟩
        case measure => simp [intOf]; omega
      · rcases h0 : decide (0 < x.lo) with _ | _
        · have HX := Lib.hid (show n2 = n1 by rw [HT.out, if_neg (fun h => of_decide_eq_false h0 h.2)]; rfl)
          go_wp2_with fail
          go_roundw
          case rel => exact ⟨k + 1, by omega, by go_num, by rw [HN.out, HX.out], by rw [HN.out, HX.out]; omega, HE.out.alloc _⟩
          case measure => simp [intOf]; omega
        · have HX := Lib.hid (show n2 = n1 + 1 by rw [HT.out, if_pos ⟨beq_iff_eq.1 h5, of_decide_eq_true h0⟩])
          go_wp2_with fail
          go_roundw
          case rel => exact ⟨k + 1, by omega, by go_num, by rw [HN.out, HX.out]; go_num, by rw [HN.out, HX.out]; omega, HE.out.alloc _⟩
          case measure => simp [intOf]; omega
    · have hkl : k = l.length := by omega
      have HK := Lib.hid hkl
      clear hkl hE
      go_wp2_with fail
      go_ret
      exact ⟨ret_congr (by rw [HK.out, List.take_length]; rfl), HE.out⟩

theorem SlB.slc {t B : Nat} {w : World} {v : Value} {xs : List Int} (h : SlB t 1 Cc B w v xs) : SlC w v xs := by
  obtain ⟨A, c, rfl, hl, hc, hn, ha⟩ := h
  refine ⟨A, c, rfl, hl, hc, fun k x hx => ?_, hn⟩
  cases A with
  | none =>
    have := hn rfl
    rw [List.getElem?_eq_none (by omega)] at hx; cases hx
  | some ad =>
    obtain ⟨g, o, cur, rfl, _, h3, _, h5⟩ := ha ad rfl
    obtain ⟨cs, h6, h7⟩ := h5 k x hx
    have h6 : cs = _ := h6
    subst h6
    exact ⟨g, o, rfl, (cell_of_row w g _ cur t (0, 0) h3).trans (h7 0 _ rfl)⟩
theorem parse_lit {s : List Int} {L : List RX.ReN} {c a : Int} {v : Value} {w : World} (h : RX.parse s = (L, c, a)) (hv : SlC w v s) :
    Calls Try.prog 22 #[v] w (RetP2 (fun w' x y => SlRe w.heap.size w.heap.size w' x L ∧ y = .agg #[.int .i64 c, .int .i64 a]) w) := by
  refine (parse_any s v w hv).mono ?_
  rintro e w' ⟨x, y, rfl, ⟨h1, rfl⟩, hE⟩
  rw [h] at h1 ⊢
  exact ⟨x, _, rfl, ⟨h1, rfl⟩, hE⟩
def known8L : List RX.ReN := [⟨1, 0, 0, 0, false, false, []⟩, ⟨0, 1, 0, 0, false, false, []⟩, ⟨2, 2, 0, 0, false, false, [97, 97]⟩, ⟨0, 1, 0, 0, false, false, []⟩, ⟨5, 2, 1, 0, false, false, []⟩, ⟨0, 3, 0, 0, false, false, []⟩, ⟨2, 4, 0, 0, false, false, [98, 98]⟩]
theorem known8_len : known8L.length = 7 := rfl
theorem known8_groups : RX.groups known8L = 1 := rfl

set_option maxRecDepth 100000 in
set_option maxHeartbeats 4000000 in
theorem known8_any (w : World) : Calls Try.prog 21 #[] w (Ret (.bool true) w) := by
  go_enter Try.func21, Try.ntmps21
  go_wp2_with fail
  refine (parse_lit (L := known8L) parse_k1 ?h1).mono ?_
  case h1 => exact SlB.slc (lit_c w [97, 124, 40, 98, 41] (Nat.le_refl _) (by decide)).sl
  rintro e w1 ⟨v, u, rfl, ⟨hv, rfl⟩, hE1⟩
  obtain ⟨A, c, rfl, hlc, hcm⟩ := hv.form
  have HV := Lib.hid hv
  have HE1 := Lib.hid hE1
  obtain ⟨g, o, cs, rfl, hc0, h0⟩ := hv.at_ (k := 0) (by decide)
  obtain ⟨g1, o1, cs1, he1, hc1, h1⟩ := hv.at_ (k := 1) (by decide)
  injection he1 with he1
  injection he1 with he1 ho1
  subst he1 ho1
  obtain ⟨g2, o2, cs2, he2, hc2, h2⟩ := hv.at_ (k := 2) (by decide)
  injection he2 with he2
  injection he2 with he2 ho2
  subst he2 ho2
  obtain ⟨g4, o4, cs4, he4, hc4, h4⟩ := hv.at_ (k := 4) (by decide)
  injection he4 with he4
  injection he4 with he4 ho4
  subst he4 ho4
  obtain ⟨g6, o6, cs6, he6, hc6, h6⟩ := hv.at_ (k := 6) (by decide)
  injection he6 with he6
  injection he6 with he6 ho6
  subst he6 ho6
  have k00 := h0 0 (.int .i64 1) (by obtain ⟨sv, rfl, _⟩ := hc0; rfl)
  have k10 := h1 0 (.int .i64 0) (by obtain ⟨sv, rfl, _⟩ := hc1; rfl)
  have k11 := h1 1 (.int .i64 1) (by obtain ⟨sv, rfl, _⟩ := hc1; rfl)
  have k20 := h2 0 (.int .i64 2) (by obtain ⟨sv, rfl, _⟩ := hc2; rfl)
  have k21 := h2 1 (.int .i64 2) (by obtain ⟨sv, rfl, _⟩ := hc2; rfl)
  have k40 := h4 0 (.int .i64 5) (by obtain ⟨sv, rfl, _⟩ := hc4; rfl)
  have k42 := h4 2 (.int .i64 1) (by obtain ⟨sv, rfl, _⟩ := hc4; rfl)
  have k61 := h6 1 (.int .i64 4) (by obtain ⟨sv, rfl, _⟩ := hc6; rfl)
  clear hc0 hc1 hc2 hc4 hc6 h0 h1 h2 h4 h6
  rw [known8_len] at *
  have hs1 : w.heap.size + 1 ≤ w1.heap.size := by have := hE1.size; simp at this; omega
  clear hv hE1
  go_wp2_with fail
  refine (parse_lit parse_k2 ?h2).mono ?_
  case h2 => exact SlB.slc (c_lit (B := 0) _ [97, 42, 42] _ _ (by simp) rfl (Nat.zero_le _) (by decide))
  rintro e w2 ⟨v2, u2, rfl, ⟨hv2, rfl⟩, hE2⟩
  have hX : Ext w1 w2 := (((Ext.refl w1).alloc _).alloc _).trans hE2
  have q0 : w2.cell? ⟨w1.heap.size, 0, none⟩ = some (.int .i64 0) := hE2.cell (((Ext.refl _).alloc _).cell (by rw [World.cell?_alloc_new]; rfl))
  have HV := Lib.hid (SlB.keep HV.out (keeps_re _) (KeepT.of_ext hX) (KeepT.of_ext hX))
  have HX := Lib.hid (HE1.out)
  have HXX := Lib.hid (((Ext.refl w).alloc _).trans HE1.out |>.trans hX)
  obtain ⟨A2, c2, rfl, _⟩ := hv2.form
  replace k00 := hX.cell k00
  replace k10 := hX.cell k10
  replace k11 := hX.cell k11
  replace k20 := hX.cell k20
  replace k21 := hX.cell k21
  replace k40 := hX.cell k40
  replace k42 := hX.cell k42
  replace k61 := hX.cell k61
  simp only [Nat.reduceMul, Nat.add_zero, Nat.zero_mul, Nat.one_mul] at k00 k10 k11 k20 k21 k40 k42 k61
  have hY : Ext w2 (w2.alloc (.cells #[.int .i64 5, .int .i64 2] 36)) := (Ext.refl w2).alloc _
  replace q0 := hY.cell q0
  replace k00 := hY.cell k00
  replace k10 := hY.cell k10
  replace k11 := hY.cell k11
  replace k20 := hY.cell k20
  replace k21 := hY.cell k21
  replace k40 := hY.cell k40
  replace k42 := hY.cell k42
  replace k61 := hY.cell k61
  clear hX hE2 hv2 hY
  go_wp2_with (go_at_call 23; refine (groups_any known8L _ _ _ (SlB.keep HV.out (keeps_re _) (KeepT.of_ext ((Ext.refl w2).alloc _)) (KeepT.of_ext ((Ext.refl w2).alloc _))) (by decide)).mono ?_; rw [known8_groups]; rintro e w3 ⟨rfl, hE3⟩)
  go_ret
  exact ⟨rfl, (HXX.out.alloc _).trans hE3⟩
end Go.Proofs.Ytfblkahjefdmaaa
