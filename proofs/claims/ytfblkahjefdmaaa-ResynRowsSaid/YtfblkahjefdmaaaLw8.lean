/- Walk: the law ResynRows. -/
import Derived.Test.YtfblkahjefdmaaaPat
import Derived.Test.YtfblkahjefdmaaaKn8
import Derived.Test.YtfblkahjefdmaaaReW
import Derived.Deep.CutBlock
import Derived.IntWalk
namespace Go.Proofs.Ytfblkahjefdmaaa
open Go.RowKit

namespace RX
theorem rowsOk_at : ∀ {l : List ReN} {n : Int} {k : Nat}, rowsOk n l → (hk : k < l.length) → nodeOk l[k] (kids l[k].deep (l.drop (k + 1))) (last n (l.take k))
  | [], _, _, _, hk => by simp at hk
  | x :: r, n, 0, h, _ => h.1
  | x :: r, n, k + 1, h, hk => rowsOk_at (l := r) (k := k) h.2 (by simpa using hk)
theorem last_take : ∀ {l : List ReN} {n : Int} {k : Nat} (hk : k < l.length), last n (l.take (k + 1)) = after (last n (l.take k)) l[k]
  | [], _, _, hk => by simp at hk
  | x :: r, n, 0, _ => by simp [last]
  | x :: r, n, k + 1, hk => last_take (l := r) (k := k) (by simpa using hk)
theorem steps_at : ∀ {r : List ReN} {p : Int} {k : Nat}, steps p r → (hk : k < r.length) → 1 ≤ r[k].deep ∧ (∀ hj : k - 1 < r.length, k ≠ 0 → r[k].deep ≤ r[k - 1].deep + 1) ∧ (k = 0 → r[k].deep ≤ p + 1)
  | [], _, _, _, hk => by simp at hk
  | x :: r, p, 0, h, _ => ⟨h.1, fun _ h => absurd rfl h, fun _ => h.2.1⟩
  | x :: r, p, k + 1, h, hk => by
    have h1 := steps_at (k := k) h.2.2 (by simpa using hk)
    refine ⟨h1.1, fun _ _ => ?_, fun h => by omega⟩
    cases k with
    | zero => exact h1.2.2 rfl
    | succ k => exact h1.2.1 (by simp at hk ⊢; omega) (by omega)
theorem kids_drop {d : Int} {l : List ReN} {q : Nat} (h : q < l.length) : kids d (l.drop q) = if d < l[q].deep then (if l[q].deep = d + 1 then 1 else 0) + kids d (l.drop (q + 1)) else 0 := by
  rw [List.drop_eq_getElem_cons h]; rfl
theorem parse_bad {s : List Int} {l : List ReN} {c p : Int} (h : parse s = (l, c, p)) (hc : c ≠ 0) : l = [] := by
  unfold parse at h
  split at h
  · injection h with h _; exact h.symm
  · split at h
    · injection h with h _; exact h.symm
    · simp only at h
      generalize (if (altN s 12 ⟨0, 0, 0, 0, 0⟩).2.ok = true ∧ (altN s 12 ⟨0, 0, 0, 0, 0⟩).2.at_ < s.length then (altN s 12 ⟨0, 0, 0, 0, 0⟩).2.fail 5 (altN s 12 ⟨0, 0, 0, 0, 0⟩).2.at_ else (altN s 12 ⟨0, 0, 0, 0, 0⟩).2) = st2 at h
      by_cases hok : st2.ok = true
      · rw [if_pos hok] at h; injection h with _ h; injection h with h _; exact absurd h.symm hc
      · rw [if_neg hok] at h; injection h with h _; exact h.symm
theorem parse_small {s : List Int} {l : List ReN} {c p : Int} (h : parse s = (l, c, p)) : Tr 60 200 l := by
  unfold parse at h
  split at h
  · injection h with h _; rw [← h]; exact Tr.nil_
  · rename_i hl
    split at h
    · injection h with h _; rw [← h]; exact Tr.nil_
    · simp only at h
      have hN := altN_ok s 12 ⟨0, 0, 0, 0, 0⟩ rfl (Nat.zero_le _) (by decide)
      generalize altN s 12 ⟨0, 0, 0, 0, 0⟩ = r at h hN
      have h1 : r.2.at_ ≤ s.length + 14 := hN.1.hi
      have h2 : Tr 60 200 r.1 := hN.2.mono (by decide) (by show 2 * (r.2.at_ - 0) + 2 ≤ 200; omega)
      generalize (if r.2.ok = true ∧ r.2.at_ < s.length then r.2.fail 5 r.2.at_ else r.2) = st2 at h
      by_cases hok : st2.ok = true
      · rw [if_pos hok] at h; injection h with h _; rw [← h]; exact h2
      · rw [if_neg hok] at h; injection h with h _; rw [← h]; exact Tr.nil_
end RX

set_option maxRecDepth 100000 in
set_option maxHeartbeats 4000000 in
theorem resynRows_any (ts : List Int) (v : Value) (w : World) (hv : SlI w v ts) : Calls Try.prog 4 #[v] w (Ret (.bool true) w) := by
  obtain ⟨A, c, rfl, hlc, hcm, _⟩ := id hv
  have he0 : Ten w w.heap.size (.slice A ts.length c) ts (w.alloc (.cells #[.slice A ts.length c, .int .i64 0] 26)) 0 :=
    ⟨hv, Nat.le_refl _, (Ext.refl w).alloc _, heap_alloc_new w _, Nat.zero_le _⟩
  have HP := Lib.hid (pat_c3 _ _ he0)
  clear he0 hv
  go_enter Try.func4, Try.ntmps4
  go_wp2_with fail
  refine HP.out.mono ?_
  rintro e w1 ⟨v1, rfl, hv1, _, ho1⟩
  have hE1 : Ext w w1 := ((Ext.refl w).alloc _).only ho1 (Nat.le_refl _)
  generalize (TP.pat ts 3 0).1 = p at hv1
  obtain ⟨A1, c1, rfl, _⟩ := hv1.form
  have HV1 := Lib.hid hv1.slc
  clear hv1 ho1 HP
  go_wp2_with fail
  refine (parse_any p _ _ HV1.out).mono ?_
  rintro e w2 ⟨v2, u2, rfl, ⟨hv2, rfl⟩, hE2⟩
  obtain ⟨R, hR⟩ : ∃ R, RX.parse p = R := ⟨_, rfl⟩
  rw [hR] at hv2 ⊢
  obtain ⟨l, code, bat⟩ := R
  dsimp only at hv2 ⊢
  have hlen := (RX.parse_small hR).1
  have hdeep := (RX.parse_small hR).2
  obtain ⟨A2, c2, rfl, hlc2, hcm2⟩ := hv2.form
  have HV := Lib.hid hv2
  have HE := Lib.hid (hE1.trans hE2)
  have HK := Lib.hid known8_any
  clear hE1 hE2 hv2 HV1
  by_cases hc0 : code = 0
  · subst hc0
    obtain ⟨b, hwf, hout⟩ := RX.parse_wf hR
    have HW := Lib.hid (RX.wf_rows hwf)
    have HOU := Lib.hid hout
    clear hR hwf hout
    obtain ⟨hrow, hlast, x0, r0, hl0, hx0, hst⟩ := HW.out
    have hpos : 0 < l.length := by rw [hl0]; simp
    have hk0 : l[0].kind = 0 ∨ l[0].kind = 1 := by
      obtain ⟨y, r, hy, hk⟩ := HOU.out
      subst hy; exact hk
    have hd0 : l[0].deep = 0 := by subst hl0; exact hx0
    have HSTEP := Lib.hid (show ∀ k (hk : k < l.length), 0 < k → 1 ≤ l[k].deep ∧ l[k].deep ≤ (l[k - 1]'(Nat.lt_of_le_of_lt (Nat.sub_le k 1) hk)).deep + 1 from by
      subst hl0
      intro k hk h0
      obtain ⟨j, rfl⟩ : ∃ j, k = j + 1 := ⟨k - 1, by omega⟩
      have hj : j < r0.length := by simpa using hk
      have h := RX.steps_at hst hj
      refine ⟨h.1, ?_⟩
      show r0[j].deep ≤ (x0 :: r0)[j].deep + 1
      cases j with
      | zero => have := h.2.2 rfl; show _ ≤ x0.deep + 1; omega
      | succ j => exact h.2.1 (by simp at hj ⊢; omega) (by omega))
    have HROW := Lib.hid (fun k (hk : k < l.length) => RX.rowsOk_at hrow hk)
    have HLAST := Lib.hid hlast
    have HDEEP := Lib.hid hdeep
    clear hrow hlast hl0 hx0 hst HOU HW hdeep r0 x0
    have hE3 : Ext w (w2.alloc (.cells #[.int .i64 0, .int .i64 bat] 36)) := HE.out.alloc _
    have hV3 : SlRe w1.heap.size w1.heap.size (w2.alloc (.cells #[.int .i64 0, .int .i64 bat] 36)) (.slice A2 l.length c2) l := SlB.keep HV.out (keeps_re _) (KeepT.of_ext ((Ext.refl w2).alloc _)) (KeepT.of_ext ((Ext.refl w2).alloc _))
    have HE3 := Lib.hid hE3
    have HV3 := Lib.hid hV3
    have HW3 := Lib.hid (rfl : w2 = w2)
    obtain ⟨g, o, cs, rfl, hcr, hcell⟩ := hV3.at_ hpos
    obtain ⟨Ax, cx, rfl⟩ := hcr.cells
    have q0 := hcell 0 _ rfl
    have q1 := hcell 1 _ rfl
    simp only [Nat.zero_mul, Nat.add_zero] at q0 q1
    rw [hd0] at q1
    have hlb : ((l.length : Int) == 0) = false := by simpa using (by omega : ¬ l.length = 0)
    clear hE3 hV3 hcr hcell hd0
    generalize l[0].kind = kd0 at q0 hk0
    go_upto_region 4 with fail
    generalize w2.alloc _ = w3 at q0 q1 HE3 HV3 ⊢
    go_cut [49] (fun s49 wx => s49 = .bool false ∧ wx = w3)
    case first =>
      rcases hk0 with rfl | rfl
      · go_wp2_with fail
        go_meet
        exact ⟨rfl, rfl⟩
      · go_wp2_with fail
        go_meet
        exact ⟨rfl, rfl⟩
    case rest =>
      obtain ⟨rfl, rfl⟩ := hcut
      clear q0 q1 hk0
      go_wp2_with fail
      go_loopw [5, 52] (fun n i wr => ∃ k m : Nat, k ≤ l.length ∧ i = .int .i64 k ∧ n = .int .i64 (RX.last 0 (l.take k)) ∧ 0 ≤ RX.last 0 (l.take k) ∧ RX.last 0 (l.take k) ≤ k ∧ wr = wc.drewN m) (fun _ i _ => l.length - (intOf i).toNat)
      case atStart => exact ⟨0, 0, Nat.zero_le _, rfl, rfl, by simp [RX.last], by simp [RX.last], rfl⟩
      case round =>
        obtain ⟨k, m, hk, rfl, rfl, hn0, hn1, rfl⟩ := hrel
        by_cases hlt : k < l.length
        · have hnode := HROW.out k hlt
          have hln := RX.last_take (n := 0) hlt
          have hsteps := HSTEP.out k hlt
          have hdp := (HDEEP.out l[k] (List.getElem_mem hlt))
          obtain ⟨g1, o1, cs, he, hcr, hcell⟩ := HV3.out.at_ hlt
          injection he with he
          injection he with he1 he2
          subst he1 he2
          obtain ⟨K, hK⟩ : ∃ K, RX.kids l[k].deep (l.drop (k + 1)) = K := ⟨_, rfl⟩
          rw [hK] at hnode
          have hKD := hK
          obtain ⟨y, hy⟩ : ∃ y, y = (l[k - 1]'(Nat.lt_of_le_of_lt (Nat.sub_le k 1) hlt)).deep := ⟨_, rfl⟩
          rw [← hy] at hsteps
          have hyb : 0 ≤ y ∧ y ≤ 60 := by rw [hy]; exact HDEEP.out _ (List.getElem_mem _)
          have hcy : wc.cell? ⟨g, o + (k - 1) * 7 + 1, none⟩ = some (.int .i64 y) := by
            obtain ⟨g1, o1, cs1, he, hcr1, hcell1⟩ := HV3.out.at_ (k := k - 1) (Nat.lt_of_le_of_lt (Nat.sub_le k 1) hlt)
            injection he with he
            injection he with he1 he2
            subst he1 he2
            obtain ⟨A1, c1, rfl⟩ := hcr1.cells
            rw [hy]; exact hcell1 1 _ rfl
          obtain ⟨x, hx⟩ : ∃ x, l[k] = x := ⟨_, rfl⟩
          rw [hx] at hnode hln hsteps hdp hcr hKD
          obtain ⟨A1, c1, rfl⟩ := hcr.cells
          have k0 := hcell 0 _ rfl
          have k1 := hcell 1 _ rfl
          have k2 := hcell 2 _ rfl
          have k3 := hcell 3 _ rfl
          have k6 := hcell 6 _ rfl
          rw [Nat.add_zero] at k0
          have HKD := Lib.hid hKD
          have HN := Lib.hid hnode
          obtain ⟨N, hN⟩ : ∃ N, RX.last 0 (l.take k) = N := ⟨_, rfl⟩
          obtain ⟨N', hN'⟩ : ∃ N', RX.last 0 (l.take (k + 1)) = N' := ⟨_, rfl⟩
          rw [hN] at hln hn0 hn1 HN ⊢
          rw [hN'] at hln
          have HLN := Lib.hid hln
          have HNN := Lib.hid hN'
          have HS := Lib.hid hsteps
          obtain ⟨hdp0, hdp1⟩ := hdp
          obtain ⟨hyb0, hyb1⟩ := hyb
          clear hcell hcr hnode hln hN hN' hKD hK hx hy hsteps
          go_upto_region 10 with fail
          go_cut [79] (fun s79 wx => s79 = .bool false ∧ ∃ n, wx = wc.drewN n)
          case first =>
            by_cases hk1 : 0 < k
            · have hs := HS.out hk1
              have e1 : decide ((0 : Int) < (k : Int)) = true := by simp; omega
              have e1b : decide (0 < k) = true := by simp; omega
              have e2 : decide (x.deep < 1) = false := by simp; omega
              have e3 : decide (y + 1 < x.deep) = false := by simp; omega
              have e4 : IntKind.i64.wrap (y + 1) = y + 1 := IntWalk.i64_in _ (by omega)
              have e5 : IntKind.i64.wrap ((k : Int) - 1) = (k : Int) - 1 := IntWalk.i64_in _ (by omega)
              have e6 : (0 : Int) ≤ (k : Int) - 1 := by omega
              have e7 : ((k : Int) - 1).toNat = k - 1 := by omega
              have e8 : k - 1 < l.length := by omega
              have e9 : (k : Int) - 1 < l.length := by omega
              clear hs hk1
              go_quiet (fail)
              go_wp2_with fail
              go_meet
              exact ⟨rfl, _, rfl⟩
            · have e1 : decide ((0 : Int) < (k : Int)) = false := by simp; omega
              have e1b : decide (0 < k) = false := by simp; omega
              go_quiet (fail)
              go_wp2_with fail
              go_meet
              exact ⟨rfl, _, rfl⟩
          case rest =>
            obtain ⟨rfl, n1, rfl⟩ := hcut
            clear hcy
            go_upto_block 2 with fail
            go_cut [7] (fun s7 wx => s7 = .int .i64 (K : Int) ∧ ∃ n, wx = wc.drewN n)
            case first =>
              go_wp2_with fail
              go_loopw [7, 8] (fun kk q wr => ∃ q' n' cnt : Nat, k + 1 ≤ q' ∧ q' ≤ l.length ∧ q = .int .i64 q' ∧ kk = .int .i64 cnt ∧ cnt + RX.kids x.deep (l.drop q') = K ∧ cnt ≤ q' ∧ wr = wc.drewN n') (fun _ q _ => l.length - (intOf q).toNat)
              case atStart => exact ⟨k + 1, n1, 0, Nat.le_refl _, hlt, by go_num, rfl, by rw [Nat.zero_add]; exact HKD.out, Nat.zero_le _, rfl⟩
              case round =>
                obtain ⟨q, n2, cnt, hq0, hq1, rfl, rfl, hcnt, hcq, rfl⟩ := hrel
                have HCN := Lib.hid hcnt
                clear hcnt
                by_cases hql : q < l.length
                · obtain ⟨g1, o1, cs, he, hcr, hcell⟩ := HV3.out.at_ hql
                  injection he with he
                  injection he with he1 he2
                  subst he1 he2
                  have hkd := RX.kids_drop (d := x.deep) hql
                  have hzd := (HDEEP.out l[q] (List.getElem_mem hql))
                  generalize l[q] = z at hcr hkd hzd
                  obtain ⟨Az, cz, rfl⟩ := hcr.cells
                  have z1 := hcell 1 _ rfl
                  obtain ⟨hz0, hz1⟩ := hzd
                  have HKQ := Lib.hid hkd
                  have e1 : decide (q < l.length) = true := by simp; omega
                  have e2 : IntKind.i64.wrap (x.deep + 1) = x.deep + 1 := IntWalk.i64_in _ (by omega)
                  clear hcr hcell hkd
                  rcases e3 : decide (x.deep < z.deep) with _ | _
                  · have HQ2 := Lib.hid (show cnt = K by have := HCN.out; rw [HKQ.out, if_neg (of_decide_eq_false e3)] at this; omega)
                    go_wp2_with fail
                    go_quiet (fail)
                    go_wp2_with fail
                    go_meet
                    (first | exact ⟨by rw [HQ2.out], _, rfl⟩ | exact ⟨by rw [HQ2.out], dd⟩)
                  · rcases e4 : (z.deep == x.deep + 1) with _ | _
                    · have HQ2 := Lib.hid (show cnt + RX.kids x.deep (l.drop (q + 1)) = K by have := HCN.out; rw [HKQ.out, if_pos (of_decide_eq_true e3), if_neg (beq_eq_false_iff_ne.1 e4)] at this; omega)
                      go_wp2_with fail
                      go_quiet (fail)
                      go_wp2_with fail
                      go_quiet (fail)
                      go_wp2_with fail
                      exact ⟨⟨q + 1, _, cnt, by omega, by omega, by go_num, rfl, HQ2.out, by omega, rfl⟩, by simp [intOf]; omega⟩
                    · have HQ2 := Lib.hid (show cnt + 1 + RX.kids x.deep (l.drop (q + 1)) = K by have := HCN.out; rw [HKQ.out, if_pos (of_decide_eq_true e3), if_pos (beq_iff_eq.1 e4)] at this; omega)
                      go_wp2_with fail
                      go_quiet (fail)
                      go_wp2_with fail
                      go_quiet (fail)
                      go_wp2_with fail
                      exact ⟨⟨q + 1, _, cnt + 1, by omega, by omega, by go_num, by go_num, HQ2.out, by omega, rfl⟩, by simp [intOf]; omega⟩
                · have HQ2 := Lib.hid (show cnt = K by have := HCN.out; rw [List.drop_eq_nil_of_le (by omega)] at this; simpa [RX.kids] using this)
                  have e1 : decide (q < l.length) = false := by simp; omega
                  go_wp2_with fail
                  go_quiet (fail)
                  go_wp2_with fail
                  go_meet
                  (first | exact ⟨by rw [HQ2.out], _, rfl⟩ | exact ⟨by rw [HQ2.out], dd⟩)
            case rest =>
              obtain ⟨rfl, n2, rfl⟩ := hcut
              have hNb : 0 ≤ N' ∧ N' ≤ (k : Int) + 1 := by
                rw [HLN.out]; unfold RX.after
                split
                · rename_i h5
                  have h6 := (HN.out.1 h5).2
                  by_cases h7 : 0 < x.lo
                  · have := h6 h7; omega
                  · omega
                · omega
              obtain ⟨hNb0, hNb1⟩ := hNb
              by_cases h5 : x.kind = 5
              · obtain ⟨hK1, hlo⟩ := HN.out.1 h5
                obtain rfl : K = 1 := hK1
                have b5 : (x.kind == 5) = true := by simp [h5]
                have HA := Lib.hid (show N' = max N x.lo by rw [HLN.out]; unfold RX.after; rw [if_pos h5])
                rcases e1 : decide (0 < x.lo) with _ | _
                · have HLO := Lib.hid (of_decide_eq_false e1)
                  clear h5 hlo
                  go_wp2_with fail
                  all_goals (first | (refine ⟨⟨k + 1, _, by omega, by go_num, ?_, by rw [HNN.out]; exact hNb0, by rw [HNN.out]; push_cast; exact hNb1, rfl⟩, by simp [intOf]; omega⟩; (rw [HNN.out, HA.out]; try (first | rfl | (congr 1; omega) | (congr 1; split <;> omega)))) | (go_roundw; (case rel => (refine ⟨k + 1, _, by omega, by go_num, ?_, by rw [HNN.out]; exact hNb0, by rw [HNN.out]; push_cast; exact hNb1, rfl⟩; (rw [HNN.out, HA.out]; try (first | rfl | (congr 1; omega) | (congr 1; split <;> omega))))); (case measure => (simp [intOf]; omega))))
                · have hl1 := hlo (of_decide_eq_true e1)
                  have e2 : (x.lo != N + 1) = false := by simp [hl1]
                  have HLO := Lib.hid hl1
                  clear h5 hlo hl1
                  go_wp2_with fail
                  all_goals (first | (refine ⟨⟨k + 1, _, by omega, by go_num, ?_, by rw [HNN.out]; exact hNb0, by rw [HNN.out]; push_cast; exact hNb1, rfl⟩, by simp [intOf]; omega⟩; (rw [HNN.out, HA.out]; try (first | rfl | (congr 1; omega) | (congr 1; split <;> omega)))) | (go_roundw; (case rel => (refine ⟨k + 1, _, by omega, by go_num, ?_, by rw [HNN.out]; exact hNb0, by rw [HNN.out]; push_cast; exact hNb1, rfl⟩; (rw [HNN.out, HA.out]; try (first | rfl | (congr 1; omega) | (congr 1; split <;> omega))))); (case measure => (simp [intOf]; omega))))
              have b5 : (x.kind == 5) = false := by simpa using h5
              have HA := Lib.hid (show N' = N by rw [HLN.out]; unfold RX.after; rw [if_neg h5])
              by_cases h6 : x.kind = 6
              · obtain ⟨hK1, hlo⟩ := HN.out.2.1 h6
                obtain rfl : K = 1 := hK1
                have b6 : (x.kind == 6) = true := by simp [h6]
                rcases e1 : decide (0 ≤ x.hi) with _ | _
                · clear h5 h6 hlo
                  go_wp2_with fail
                  go_quiet (fail)
                  go_wp2_with fail
                  all_goals (first | (refine ⟨⟨k + 1, _, by omega, by go_num, ?_, by rw [HNN.out]; exact hNb0, by rw [HNN.out]; push_cast; exact hNb1, rfl⟩, by simp [intOf]; omega⟩; (rw [HNN.out, HA.out])) | (go_roundw; (case rel => (refine ⟨k + 1, _, by omega, by go_num, ?_, by rw [HNN.out]; exact hNb0, by rw [HNN.out]; push_cast; exact hNb1, rfl⟩; (rw [HNN.out, HA.out]))); (case measure => (simp [intOf]; omega))))
                · have hl1 := hlo (of_decide_eq_true e1)
                  have e2 : decide (x.hi < x.lo) = false := by simp; omega
                  clear h5 h6 hlo hl1
                  go_wp2_with fail
                  go_quiet (fail)
                  go_wp2_with fail
                  all_goals (first | (refine ⟨⟨k + 1, _, by omega, by go_num, ?_, by rw [HNN.out]; exact hNb0, by rw [HNN.out]; push_cast; exact hNb1, rfl⟩, by simp [intOf]; omega⟩; (rw [HNN.out, HA.out])) | (go_roundw; (case rel => (refine ⟨k + 1, _, by omega, by go_num, ?_, by rw [HNN.out]; exact hNb0, by rw [HNN.out]; push_cast; exact hNb1, rfl⟩; (rw [HNN.out, HA.out]))); (case measure => (simp [intOf]; omega))))
              have b6 : (x.kind == 6) = false := by simpa using h6
              by_cases h1 : x.kind = 1
              · have hK1 := HN.out.2.2.1 h1
                have b1 : (x.kind == 1) = true := by simp [h1]
                have e1 : decide ((K : Int) < 2) = false := by simp; omega
                have e2 : decide (K < 2) = false := by simp; omega
                clear h5 h6 h1
                go_wp2_with fail
                all_goals (first | (refine ⟨⟨k + 1, _, by omega, by go_num, ?_, by rw [HNN.out]; exact hNb0, by rw [HNN.out]; push_cast; exact hNb1, rfl⟩, by simp [intOf]; omega⟩; (rw [HNN.out, HA.out])) | (go_roundw; (case rel => (refine ⟨k + 1, _, by omega, by go_num, ?_, by rw [HNN.out]; exact hNb0, by rw [HNN.out]; push_cast; exact hNb1, rfl⟩; (rw [HNN.out, HA.out]))); (case measure => (simp [intOf]; omega))))
              have b1 : (x.kind == 1) = false := by simpa using h1
              by_cases h2 : x.kind = 2
              · obtain ⟨hK1, hs1, hs2⟩ := HN.out.2.2.2 h2
                obtain rfl : K = 0 := hK1
                have b2 : (x.kind == 2) = true := by simp [h2]
                have e1 : ((x.set.length : Int) == 0) = false := by simpa using (by omega : ¬ x.set.length = 0)
                have e0 : (x.set.length : Int) % 2 = 0 := by omega
                have e3 : ((x.set.length : Int) % 2 != 0) = false := by rw [e0]; rfl
                have e4 : ((x.set.length : Int).tmod 2 != 0) = false := by rw [Int.tmod_eq_emod_of_nonneg (by omega)]; exact e3
                clear h5 h6 h1 h2 e0
                go_wp2_with fail
                all_goals (first | (refine ⟨⟨k + 1, _, by omega, by go_num, ?_, by rw [HNN.out]; exact hNb0, by rw [HNN.out]; push_cast; exact hNb1, rfl⟩, by simp [intOf]; omega⟩; (rw [HNN.out, HA.out])) | (go_roundw; (case rel => (refine ⟨k + 1, _, by omega, by go_num, ?_, by rw [HNN.out]; exact hNb0, by rw [HNN.out]; push_cast; exact hNb1, rfl⟩; (rw [HNN.out, HA.out]))); (case measure => (simp [intOf]; omega))))
              have b2 : (x.kind == 2) = false := by simpa using h2
              clear h5 h6 h1 h2
              go_wp2_with fail
              all_goals (first | (refine ⟨⟨k + 1, _, by omega, by go_num, ?_, by rw [HNN.out]; exact hNb0, by rw [HNN.out]; push_cast; exact hNb1, rfl⟩, by simp [intOf]; omega⟩; (rw [HNN.out, HA.out])) | (go_roundw; (case rel => (refine ⟨k + 1, _, by omega, by go_num, ?_, by rw [HNN.out]; exact hNb0, by rw [HNN.out]; push_cast; exact hNb1, rfl⟩; (rw [HNN.out, HA.out]))); (case measure => (simp [intOf]; omega))))
        · have hkl : k = l.length := by omega
          have HKL := Lib.hid hkl
          have HG := Lib.hid (fun m => groups_any l w1.heap.size _ (wc.drewN m) HV3.out (by omega))
          have hlg : (RX.last 0 (l.take k) == (RX.groups l : Int)) = true := by rw [hkl, List.take_length, HLAST.out]; simp
          clear hkl
          go_wp2_with (first | (go_at_call 23; refine (HG.out _).mono ?_; rintro e w4 ⟨rfl, hE4⟩) | (go_at_call 21; refine (HK.out _).mono ?_; rintro e w5 ⟨rfl, hE5⟩))
          go_ret
          exact ⟨rfl, ((HE3.out.drewN m).trans hE4).trans hE5⟩
  · have hl0 : l = [] := RX.parse_bad hR hc0
    subst hl0
    have hcb : (code == 0) = false := by simpa using hc0
    have hcn : (code != 0) = true := by simpa using hc0
    clear hR hc0
    go_wp2_with (go_at_call 21; refine (HK.out _).mono ?_; rintro e w3 ⟨rfl, hE3⟩)
    go_ret
    exact ⟨rfl, (HE.out.alloc _).trans hE3⟩
end Go.Proofs.Ytfblkahjefdmaaa
