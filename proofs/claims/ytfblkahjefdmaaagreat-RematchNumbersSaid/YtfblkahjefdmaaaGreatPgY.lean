/- Walk: tree of package reprog, one level. -/
import Derived.Test.YtfblkahjefdmaaaGreatPgX
import Derived.Test.YtfblkahjefdmaaaGreatPb
import Derived.Test.YtfblkahjefdmaaaGreatTap
namespace Go.Proofs.YtfblkahjefdmaaaGreat
open Go.RowKit

/-- What a node asks of what is in it. -/
def KOk (x : RX.ReN) (K : List (List RX.ReN)) : Prop :=
  x.kind = 0 ∨ (x.kind = 1 ∧ K ≠ []) ∨ (x.kind = 2 ∧ 0 < x.set.length ∧ x.set.length ≤ 1000000) ∨ x.kind = 3 ∨ x.kind = 4 ∨ (x.kind = 5 ∧ K ≠ [] ∧ 0 ≤ x.lo ∧ x.lo ≤ 1000) ∨
    (x.kind = 6 ∧ K ≠ [] ∧ 0 ≤ x.lo ∧ x.lo ≤ 1000000 ∧ (x.hi < 0 ∨ (x.lo ≤ x.hi ∧ x.hi ≤ 1000000)))
theorem map_take_snoc {α β : Type} (f : α → β) (l : List α) (k : Nat) (h : k < l.length) : (l.take k).map f ++ [f l[k]] = (l.take (k + 1)).map f := by
  rw [List.take_succ_eq_append_getElem h, List.map_append]; rfl
set_option maxRecDepth 100000 in
set_option maxHeartbeats 8000000 in
theorem ptree_step (g : Nat) (x : RX.ReN) (r : List RX.ReN) (T : List RX.ReN → PG.Part) (v : Value) (w : World) (hs : SlRe 0 0 w v (x :: r)) (hl : (x :: r).length ≤ 100000000)
    (hT : ∀ kid ∈ PG.kidsA r, PG.Ok g (T kid) ∧ ∀ (v' : Value) (w' : World), SlRe 0 0 w' v' kid → Calls Tryz.prog 30 #[v'] w' (PartR (Nw w') (T kid) w'))
    (hk : KOk x (PG.kidsA r)) : Calls Tryz.prog 30 #[v] w (PartR (Nw w) (PG.nodeP x ((PG.kidsA r).map T)) w) := by
  obtain ⟨A, c, rfl, hlc, hcc⟩ := hs.form
  obtain ⟨g0, o0, cs, rfl, hcr, hcell⟩ := hs.at_ (k := 0) (by simp)
  obtain ⟨A1, c1, rfl⟩ := hcr.cells
  simp only [Nat.zero_mul, Nat.add_zero, List.getElem_cons_zero] at hcell hcr
  have d0 := hcell 0 _ rfl
  have d1 := hcell 1 _ rfl
  have d2 := hcell 2 _ rfl
  have d3 := hcell 3 _ rfl
  have d4 := hcell 4 _ rfl
  have d5 := hcell 5 _ rfl
  have d6 := hcell 6 _ rfl
  rw [Nat.add_zero] at d0
  have hg0 := World.block_lt_of_cell? w ⟨g0, o0, none⟩ d0
  obtain ⟨sv, hsv, hset⟩ := hcr
  simp only [List.cons.injEq, true_and, and_true] at hsv
  subst hsv
  have HSET := Lib.hid hset
  have HS := Lib.hid hs
  have HKD := Lib.hid (fun w' (h : SlRe 0 0 w' (.slice (some ⟨g0, o0, none⟩) (x :: r).length c) (x :: r)) => pkids_any (x :: r) _ w' h hl)
  simp only [List.drop_one, List.tail_cons] at HKD
  have hKL : (PG.kidsA r).length ≤ 100000000 := by
    have h1 : ∀ (n : Nat) (q : List RX.ReN), (PG.kids n q).length ≤ q.length := by
      intro n
      induction n with
      | zero => intro q; simp [PG.kids]
      | succ n ih =>
        intro q
        cases q with
        | nil => simp [PG.kids]
        | cons y q =>
          rw [PG.kids, List.length_cons, List.length_cons]
          have := ih (q.dropWhile fun z => decide (y.deep < z.deep))
          have := (List.dropWhile_sublist (l := q) (fun z : RX.ReN => decide (y.deep < z.deep))).length_le
          omega
    have := h1 r.length r
    rw [List.length_cons] at hl
    exact Nat.le_trans this (by omega)
  obtain ⟨K, hK⟩ : ∃ K, PG.kidsA r = K := ⟨_, rfl⟩
  rw [hK] at hT hk HKD hKL ⊢
  have HT := Lib.hid hT
  have HKO := Lib.hid hk
  have hpos : 0 < (x :: r).length := by simp
  obtain ⟨L, hL⟩ : ∃ L, (x :: r).length = L := ⟨_, rfl⟩
  obtain ⟨R, hR⟩ : ∃ R, PG.nodeP x (K.map T) = R := ⟨_, rfl⟩
  rw [hR]
  have HR := Lib.hid hR
  have HS := Lib.hid (show SlRe 0 0 w (.slice (some ⟨g0, o0, none⟩) L c) (x :: r) by rw [← hL]; exact HS.out)
  rw [hL] at HKD hlc hl hpos ⊢
  clear hs hT hk hK hL hR hcell hset
  go_enter Tryz.func30, Tryz.ntmps30
  go_upto_region 3 with fail
  have hE1 := ((Ext.refl w).alloc (.cells #[.slice none 0 0, .int .i64 0] 66)).alloc (.cells #[.int .i64 x.kind, .int .i64 x.deep, .int .i64 x.lo, .int .i64 x.hi, .bool x.lazy, .bool x.neg, .slice A1 x.set.length c1] 82)
  have HM1 := Lib.hid (show Tre w w.heap.size (w.heap.size + 1) #[.int .i64 x.kind, .int .i64 x.deep, .int .i64 x.lo, .int .i64 x.hi, .bool x.lazy, .bool x.neg, .slice A1 x.set.length c1] (.slice none 0 0) [] _ from ⟨hE1, Nat.le_refl _, Nat.lt_succ_self _, heap_alloc_1 _ _ _, heap_alloc_2 _ _ _, OwnB.nil_⟩)
  have hw1 : ((w.alloc (.cells #[.slice none 0 0, .int .i64 0] 66)).alloc (.cells #[.int .i64 x.kind, .int .i64 x.deep, .int .i64 x.lo, .int .i64 x.hi, .bool x.lazy, .bool x.neg, .slice A1 x.set.length c1] 82)).heap.size = w.heap.size + 1 + 1 := by simp
  have HW1 := Lib.hid hw1
  clear d0 d1 d2 d3 d4 d5 d6 hE1 hg0 hw1
  generalize (w.alloc (.cells #[.slice none 0 0, .int .i64 0] 66)).alloc (.cells #[.int .i64 x.kind, .int .i64 x.deep, .int .i64 x.lo, .int .i64 x.hi, .bool x.lazy, .bool x.neg, .slice A1 x.set.length c1] 82) = w1 at HM1 HW1 ⊢
  generalize w.heap.size + 1 = tb at HM1 HW1 ⊢
  generalize w.heap.size = rb at HM1 ⊢
  have HS1 := Lib.hid (SlB.keep HS.out (keeps_re _) (KeepT.of_ext HM1.out.ext) (KeepT.of_ext HM1.out.ext))
  go_upto_region 4 with (go_at_call 49; go_loud (refine (HKD.out _ HS1.out).mono ?_; rintro e w2 ⟨hx2, Ak, ck, rfl, hks⟩; have HM2 := Lib.hid (HM1.out.ext_ hx2); have HX2 := Lib.hid hx2; have HKS := Lib.hid hks; have hkf := hks.form; clear hx2 hks))
  go_loopw [4, 13] (fun v4 x9 wr => ∃ k : Nat, k ≤ K.length ∧ x9 = .int .i64 (k : Int) ∧ Ext w1 wr ∧ KeepT [51] w2 wr ∧ Tre w rb tb #[.int .i64 x.kind, .int .i64 x.deep, .int .i64 x.lo, .int .i64 x.hi, .bool x.lazy, .bool x.neg, .slice A1 x.set.length c1] v4 ((K.take k).map T) wr) (fun _ x9 _ => K.length - (intOf x9).toNat)
  case atStart => exact ⟨0, Nat.zero_le _, rfl, HX2.out, KeepT.refl _ _, by simpa using HM2.out⟩
  case round =>
    obtain ⟨k, hk, rfl, hx, hkt, hm⟩ := hrel
    obtain ⟨ps, hps⟩ : ∃ ps, (K.take k).map T = ps := ⟨_, rfl⟩
    have hpl : ps.length ≤ 100000000 := by rw [← hps, List.length_map, List.length_take]; omega
    rw [hps] at hm
    have HX := Lib.hid hx
    have HTT := Lib.hid hkt
    have HM := Lib.hid hm
    have HPS := Lib.hid hps
    obtain ⟨Al, cl, rfl, hcl, -⟩ := hm.own.form
    have htb := heap_lt hm.top
    clear hx hkt hm hps
    by_cases hlt : k < K.length
    · obtain ⟨g1, o1, cs, rfl, ⟨vk, rfl, hre⟩, hcell⟩ := (SlB.keep HKS.out (keeps_kc w1 []) (fun _ _ _ h => by cases h) HTT.out).at_ hlt
      have e0 : wr.cell? ⟨g1, o1 + k, none⟩ = some vk := by
        have := hcell 0 _ rfl
        simpa using this
      have hT1 := HT.out K[k] (List.getElem_mem hlt)
      have hEr := HX.out
      have HREC := Lib.hid (hT1.2 vk wr (SlB.keep hre (keeps_re _) (KeepT.of_ext hEr) (KeepT.of_ext hEr)))
      have HNX := Lib.hid (show ps ++ [T K[k]] = (K.take (k + 1)).map T by rw [← HPS.out]; exact map_take_snoc T K k hlt)
      obtain ⟨Av, cv, rfl, -, -⟩ := hre.form
      clear hcell hre hT1 hEr
      generalize T K[k] = p at HREC HNX
      generalize K[k].length = nk at e0 HREC
      go_upto_region 6 with fail
      have hpl9 : ps.length ≤ 1000000000 := by omega
      go_wp2_with (first
        | (go_at_call 30; go_loud (refine HREC.out.mono ?_; rintro e w4 ⟨hx4, A4, c4, rfl, hl4⟩; have HM4 := Lib.hid (HM.out.ext_ hx4); have HX4 := Lib.hid (HX.out.trans hx4); have HT4 := Lib.hid (HTT.out.trans (KeepT.of_ext hx4)); have HPT := Lib.hid (show Pc (Nx w (.slice Al ps.length cl)) w4 w4 [.slice A4 p.l.length c4, .int .i64 (p.n : Int)] p from ⟨_, _, rfl, HM.out.part hl4⟩); have hB4 : tb + 1 ≤ w4.heap.size := heap_lt HM4.out.top; clear hx4 hl4))
        | (at_builtin; go_loud (refine app_tell Tryz.underlying100 info_part rfl (by decide) (by decide) (keeps_pc _ w4 []) (by simp) rfl _ _ rfl (tb + 1) _ ps p [.slice A4 p.l.length c4, .int .i64 (p.n : Int)] 66 HM4.out.own HPT.out rfl (by simp [Value.oneCell']) rfl w4.heap.size rfl rfl hpl9 hB4 ?_; intro gg cap w5 h1 h2 h3; have HF := Lib.hid (HM4.out.app h1 h2 h3); have HX5 := Lib.hid ((HX4.out.alloc _).grown h2 (fun b hb => by have := (HM4.out.own.lt b hb).1; have := HW1.out; omega)); have HT5 := Lib.hid ((HT4.out.trans (KeepT.of_ext ((Ext.refl w4).alloc _))).trans (KeepT.of_grown h2 (fun b hb => by obtain ⟨cur, hh⟩ := HM4.out.own.type b hb; exact ⟨cur, _, ((Ext.refl w4).alloc _).heap hh, by decide⟩))); clear h1 h2 h3)))
      go_roundw
      case rel => exact ⟨k + 1, by omega, by go_num, HX5.out, HT5.out, by rw [← HNX.out]; exact HF.out⟩
      case measure => simp [intOf]; omega
    have HPK := Lib.hid (show ps = K.map T by rw [← HPS.out, List.take_of_length_le (by omega)])
    have HR := Lib.hid (show PG.nodeP x ps = R by rw [HPK.out]; exact HR.out)
    have HPO := Lib.hid (show ∀ p ∈ ps, PG.Ok g p by
      intro p hp
      rw [HPK.out] at hp
      obtain ⟨kid, hk1, rfl⟩ := List.mem_map.1 hp
      exact (HT.out kid hk1).1)
    have HSP := Lib.hid HM.out.slp
    rcases HKO.out with h0 | ⟨h0, hne⟩ | ⟨h0, h1, h2⟩ | h0 | h0 | ⟨h0, hne, h1, h2⟩ | ⟨h0, hne, h1, h2, h3⟩
    · -- kind 0
      have t0 := HM.out.cell (j := 0) (u := .int .i64 0) (by rw [← h0]; rfl)
      have HROW := Lib.hid (prow_any ps _ wr HSP.out (fun p hp => Rok.of_ok (HPO.out p hp)))
      rw [show PG.row ps = R by rw [← HR.out]; unfold PG.nodeP; rw [if_pos h0]] at HROW
      clear h0
      go_wp2_with (go_at_call 28; go_loud (refine HROW.out.mono ?_; rintro e w9 ⟨hx9, A9, c9, rfl, hl9⟩; have HL9 := Lib.hid hl9; have HM9 := Lib.hid (HM.out.ext_ hx9); have r0 := HM9.out.r0; have r1 := HM9.out.r1; have f0 := HM9.out.fr 0; have f1 := HM9.out.fr 1; clear hl9))
      refine bodyPost_ret (v := .agg #[.slice A9 R.l.length c9, .int .i64 (R.n : Int)]) (by simp [results, Tryz.results30, go_sem, r0, r1]) rfl ?_
      exact part_retB HM9.out.ext HM9.out.lo HM9.out.res (HL9.out.wk fun _ h => h.1)
    · -- kind 1
      have t0 := HM.out.cell (j := 0) (u := .int .i64 1) (by rw [← h0]; rfl)
      have HROW := Lib.hid (peither_any g ps _ wr HSP.out HPO.out (by rw [HPK.out]; intro e; rw [List.map_eq_nil_iff] at e; exact hne e) (by omega))
      rw [show PG.either ps = R by rw [← HR.out]; unfold PG.nodeP; rw [if_neg (by omega), if_pos h0]] at HROW
      clear h0 hne
      go_wp2_with (go_at_call 50; go_loud (refine HROW.out.mono ?_; rintro e w9 ⟨hx9, A9, c9, rfl, hl9⟩; have HL9 := Lib.hid hl9; have HM9 := Lib.hid (HM.out.ext_ hx9); have r0 := HM9.out.r0; have r1 := HM9.out.r1; have f0 := HM9.out.fr 0; have f1 := HM9.out.fr 1; clear hl9))
      refine bodyPost_ret (v := .agg #[.slice A9 R.l.length c9, .int .i64 (R.n : Int)]) (by simp [results, Tryz.results30, go_sem, r0, r1]) rfl ?_
      exact part_retB HM9.out.ext HM9.out.lo HM9.out.res (HL9.out.wk fun _ h => h.1)
    · -- kind 2
      have t0 := HM.out.cell (j := 0) (u := .int .i64 2) (by rw [← h0]; rfl)
      have t5 := HM.out.cell (j := 5) rfl
      have t6 := HM.out.cell (j := 6) rfl
      have HRR := Lib.hid (show PG.one [⟨0, 0, 0, x.neg, x.set⟩] = R by rw [← HR.out]; unfold PG.nodeP; rw [if_neg (by omega), if_neg (by omega), if_pos h0])
      have HONE := Lib.hid (fun v8 w8 (h : SlN (Nx w (.slice Al ps.length cl)) w8 v8 [⟨0, 0, 0, x.neg, x.set⟩]) => pone_any [⟨0, 0, 0, x.neg, x.set⟩] v8 w8 h)
      rw [HRR.out] at HONE
      have HEW := Lib.hid HM.out.ext
      have HSL := Lib.hid (SlB.keep HSET.out (keeps_c []) (fun _ _ _ h => by cases h) (KeepT.of_ext HM.out.ext))
      have hA1 : A1 ≠ none := by
        intro e
        subst e
        have := (SlB.none_ HSET.out).1
        rw [this] at h1
        simp at h1
      obtain ⟨ad, rfl⟩ := Option.ne_none_iff_exists'.1 hA1
      have HAC := Lib.hid (SlB.add HSL.out)
      have hrt : rb ≠ tb := Nat.ne_of_lt HM.out.lt
      have htr : tb ≠ rb := hrt.symm
      generalize x.set = set at *
      generalize x.neg = neg at *
      clear h0 hA1
      go_upto_region 14 with fail
      go_region_held3 (fun w' => w'.cell? ⟨tb, 5, none⟩ = some (.bool neg) ∧ w'.cell? ⟨tb, 6, none⟩ = some (.slice (some ad) set.length c1))
        (first | go_keep | (go_split_ands; refine ⟨?_, ?_⟩ <;> (refine Ext.cell (by assumption) ?_; assumption)))
        (first
          | (refine step_set rfl _ _ (by rfl) ad set c1 (fun j y hy => HAC.out j y hy) h1 (by omega) (by rfl) (by rfl) ?_; intro gg cap w5 h5 hx5; have HS5 := Lib.hid h5; have HM5 := Lib.hid (HM.out.ext_ (((Ext.refl _).drew).trans hx5)); clear h5)
          | (go_at_call 31; refine (HONE.out _ _ (inst_lit5 (S := Nx w (.slice Al ps.length cl)) 0 0 0 neg set HM5.out.newIn rfl (HS5.out _ HM.out.newIn))).mono ?_; rintro e w9 ⟨hx9, A9, c9, rfl, hl9⟩; have HL9 := Lib.hid hl9; have HM9 := Lib.hid (HM5.out.ext_ (((Ext.refl _).alloc _).trans hx9)); have r0 := HM9.out.r0; have r1 := HM9.out.r1; have f0 := HM9.out.fr 0; have f1 := HM9.out.fr 1; clear hl9))
      go_wp2_with fail
      refine bodyPost_ret (v := .agg #[.slice A9 R.l.length c9, .int .i64 (R.n : Int)]) (by simp [results, Tryz.results30, go_sem, r0, r1]) rfl ?_
      exact part_retB HM9.out.ext HM9.out.lo HM9.out.res (HL9.out.wk fun _ h => h.1)
    · -- kind 3
      have t0 := HM.out.cell (j := 0) (u := .int .i64 3) (by rw [← h0]; rfl)
      have HRR := Lib.hid (show PG.one [⟨1, 0, 0, false, []⟩] = R by rw [← HR.out]; unfold PG.nodeP; rw [if_neg (by omega), if_neg (by omega), if_neg (by omega), if_pos h0])
      have HONE := Lib.hid (fun v8 w8 (h : SlN (Nx w (.slice Al ps.length cl)) w8 v8 [⟨1, 0, 0, false, []⟩]) => pone_any [⟨1, 0, 0, false, []⟩] v8 w8 h)
      rw [HRR.out] at HONE
      clear h0
      go_wp2_with (go_at_call 31; go_loud (refine (HONE.out _ _ (inst_lit5 (S := Nx w (.slice Al ps.length cl)) 1 0 0 false [] HM.out.newIn rfl SlR.nil_)).mono ?_; rintro e w9 ⟨hx9, A9, c9, rfl, hl9⟩; have HL9 := Lib.hid hl9; have HM9 := Lib.hid (HM.out.ext_ (((Ext.refl _).alloc _).trans hx9)); have r0 := HM9.out.r0; have r1 := HM9.out.r1; have f0 := HM9.out.fr 0; have f1 := HM9.out.fr 1; clear hl9))
      refine bodyPost_ret (v := .agg #[.slice A9 R.l.length c9, .int .i64 (R.n : Int)]) (by simp [results, Tryz.results30, go_sem, r0, r1]) rfl ?_
      exact part_retB HM9.out.ext HM9.out.lo HM9.out.res (HL9.out.wk fun _ h => h.1)
    · -- kind 4
      have t0 := HM.out.cell (j := 0) (u := .int .i64 4) (by rw [← h0]; rfl)
      have HRR := Lib.hid (show PG.one [⟨2, 0, 0, false, []⟩] = R by rw [← HR.out]; unfold PG.nodeP; rw [if_neg (by omega), if_neg (by omega), if_neg (by omega), if_neg (by omega), if_pos h0])
      have HONE := Lib.hid (fun v8 w8 (h : SlN (Nx w (.slice Al ps.length cl)) w8 v8 [⟨2, 0, 0, false, []⟩]) => pone_any [⟨2, 0, 0, false, []⟩] v8 w8 h)
      rw [HRR.out] at HONE
      clear h0
      go_wp2_with (go_at_call 31; go_loud (refine (HONE.out _ _ (inst_lit5 (S := Nx w (.slice Al ps.length cl)) 2 0 0 false [] HM.out.newIn rfl SlR.nil_)).mono ?_; rintro e w9 ⟨hx9, A9, c9, rfl, hl9⟩; have HL9 := Lib.hid hl9; have HM9 := Lib.hid (HM.out.ext_ (((Ext.refl _).alloc _).trans hx9)); have r0 := HM9.out.r0; have r1 := HM9.out.r1; have f0 := HM9.out.fr 0; have f1 := HM9.out.fr 1; clear hl9))
      refine bodyPost_ret (v := .agg #[.slice A9 R.l.length c9, .int .i64 (R.n : Int)]) (by simp [results, Tryz.results30, go_sem, r0, r1]) rfl ?_
      exact part_retB HM9.out.ext HM9.out.lo HM9.out.res (HL9.out.wk fun _ h => h.1)
    · -- kind 5
      obtain ⟨p, rest, hpc⟩ : ∃ p rest, ps = p :: rest := by
        cases hq : ps with
        | nil => exact absurd (by rw [HPK.out, List.map_eq_nil_iff] at hq; exact hq) hne
        | cons p rest => exact ⟨p, rest, rfl⟩
      have hpo := HPO.out p (by rw [hpc]; simp)
      have HPOK := Lib.hid hpo
      have hpn := (Rok.of_ok hpo).le
      obtain ⟨gp, op, cp, Ap, ap, hv4, p0, p1, hpl4⟩ := SlP.head (by rw [← hpc]; exact HSP.out)
      injection hv4 with hv1 hv2 hv3
      subst hv1 hv3
      have HPL := Lib.hid hpl4
      have hpl0 : 0 < ps.length := by rw [hpc]; simp
      have hpl1 : (0 : Int) < (ps.length : Int) := by omega
      have hrt : rb ≠ tb := Nat.ne_of_lt HM.out.lt
      have htr : tb ≠ rb := hrt.symm
      have hgb : gp ≠ rb := fun e => by have := (HM.out.own.lt gp rfl).1; have := HM.out.lt; omega
      have hbg : rb ≠ gp := hgb.symm
      have HEAD0 := Lib.hid (show ps.headD ⟨[], 0⟩ = p by rw [hpc]; rfl)
      clear hpc hv2 hpl4 hpo hne
      have t0 := HM.out.cell (j := 0) (u := .int .i64 5) (by rw [← h0]; rfl)
      have t2 := HM.out.cell (j := 2) rfl
      by_cases hlo : 0 < x.lo
      · have hd : decide ((0 : Int) < x.lo) = true := by simp; omega
        have HRR := Lib.hid (show PG.row [PG.save (2 * x.lo), p, PG.save (2 * x.lo + 1)] = R by rw [← HR.out]; unfold PG.nodeP; rw [if_neg (by omega), if_neg (by omega), if_neg (by omega), if_neg (by omega), if_neg (by omega), if_pos h0, if_pos hlo, HEAD0.out])
        have HA := Lib.hid (psave_any (2 * x.lo))
        have HB := Lib.hid (psave_any (2 * x.lo + 1))
        have HROW := Lib.hid (fun v8 w8 (h : SlP (Nx w (.slice (some ⟨gp, op, none⟩) ps.length cl)) w8 v8 [PG.save (2 * x.lo), p, PG.save (2 * x.lo + 1)]) => prow_any _ v8 w8 h (rowable3 rok_save (Rok.of_ok HPOK.out) rok_save))
        rw [HRR.out] at HROW
        obtain ⟨y1, hy1⟩ : ∃ y, 2 * x.lo = y := ⟨_, rfl⟩
        rw [hy1] at HA HB HROW
        obtain ⟨y2, hy2⟩ : ∃ y, y1 + 1 = y := ⟨_, rfl⟩
        rw [hy2] at HB HROW
        have s1 : IntKind.i64.wrap (2 * x.lo) = y1 := by rw [← hy1]; exact IntWalk.i64_in _ (by omega)
        have s2 : IntKind.i64.wrap (y1 + 1) = y2 := by rw [← hy2]; exact IntWalk.i64_in _ (by omega)
        obtain ⟨q1, hq1⟩ : ∃ q, PG.save y1 = q := ⟨_, rfl⟩
        obtain ⟨q2, hq2⟩ : ∃ q, PG.save y2 = q := ⟨_, rfl⟩
        rw [hq1] at HA HROW
        rw [hq2] at HB HROW
        clear hq1 hq2 h0 HRR hy1 hy2
        go_upto_region 21 with fail
        go_region_held3 (fun w' => w'.cell? ⟨tb, 2, none⟩ = some (.int .i64 x.lo) ∧ w'.cell? ⟨gp, op, none⟩ = some (.slice Ap p.l.length ap) ∧ w'.cell? ⟨gp, op + 1, none⟩ = some (.int .i64 (p.n : Int)))
          (first | go_keep | (go_split_ands; refine ⟨?_, ?_, ?_⟩ <;> (refine Ext.cell (by assumption) ?_; assumption)))
          (first
            | (go_at_call 29; refine (HA.out _).mono ?_; rintro e w6 ⟨hx6, A6, c6, rfl, hl6⟩; have HM6 := Lib.hid (HM.out.ext_ (((Ext.refl _).drew).trans hx6)); have HL6 := Lib.hid ((HM.out.ext_ ((Ext.refl _).drew)).part hl6); have HP6 := Lib.hid (HPL.out.ext (((Ext.refl _).drew).trans hx6)); clear hl6)
            | (go_at_call 29; refine (HB.out _).mono ?_; rintro e w7 ⟨hx7, A7, c7, rfl, hl7⟩; have HM7 := Lib.hid (HM6.out.ext_ hx7); have HL7 := Lib.hid (HM6.out.part hl7); have HL67 := Lib.hid (HL6.out.ext hx7); have HP7 := Lib.hid (HP6.out.ext hx7); clear hl7)
            | (go_at_call 28; refine (HROW.out _ _ (parts3 rfl HL67.out HP7.out HL7.out)).mono ?_; rintro e w9 ⟨hx9, A9, c9, rfl, hl9⟩; have HL9 := Lib.hid hl9; have HM9 := Lib.hid (HM7.out.ext_ (((Ext.refl _).alloc _).trans hx9)); have r0 := HM9.out.r0; have r1 := HM9.out.r1; have f0 := HM9.out.fr 0; have f1 := HM9.out.fr 1; clear hl9))
        go_wp2_with fail
        refine bodyPost_ret (v := .agg #[.slice A9 R.l.length c9, .int .i64 (R.n : Int)]) (by simp [results, Tryz.results30, go_sem, r0, r1]) rfl ?_
        exact part_retB HM9.out.ext HM9.out.lo HM9.out.res (HL9.out.wk fun _ h => h.1)
      · have hd : decide ((0 : Int) < x.lo) = false := by simp; omega
        have HRR := Lib.hid (show R = p by rw [← HR.out]; unfold PG.nodeP; rw [if_neg (by omega), if_neg (by omega), if_neg (by omega), if_neg (by omega), if_neg (by omega), if_pos h0, if_neg hlo, HEAD0.out])
        have r0 := HM.out.r0
        have r1 := HM.out.r1
        have f0 := HM.out.fr 0
        have f1 := HM.out.fr 1
        clear h0
        go_wp2_with fail
        rw [HRR.out]
        refine bodyPost_ret (v := .agg #[.slice Ap p.l.length ap, .int .i64 (p.n : Int)]) (by simp [results, Tryz.results30, go_sem, r0, r1]) rfl ?_
        exact part_retB HM.out.ext HM.out.lo HM.out.res (HPL.out.wk fun _ h => h.1)
    · -- kind 6
      obtain ⟨p, rest, hpc⟩ : ∃ p rest, ps = p :: rest := by
        cases hq : ps with
        | nil => exact absurd (by rw [HPK.out, List.map_eq_nil_iff] at hq; exact hq) hne
        | cons p rest => exact ⟨p, rest, rfl⟩
      have hpo := HPO.out p (by rw [hpc]; simp)
      have HPOK := Lib.hid hpo
      have hpn := (Rok.of_ok hpo).le
      obtain ⟨gp, op, cp, Ap, ap, hv4, p0, p1, hpl4⟩ := SlP.head (by rw [← hpc]; exact HSP.out)
      injection hv4 with hv1 hv2 hv3
      subst hv1 hv3
      have HPL := Lib.hid hpl4
      have hpl0 : 0 < ps.length := by rw [hpc]; simp
      have hpl1 : (0 : Int) < (ps.length : Int) := by omega
      have hrt : rb ≠ tb := Nat.ne_of_lt HM.out.lt
      have htr : tb ≠ rb := hrt.symm
      have hgb : gp ≠ rb := fun e => by have := (HM.out.own.lt gp rfl).1; have := HM.out.lt; omega
      have hbg : rb ≠ gp := hgb.symm
      have HEAD0 := Lib.hid (show ps.headD ⟨[], 0⟩ = p by rw [hpc]; rfl)
      clear hpc hv2 hpl4 hpo hne
      obtain ⟨m, hm⟩ : ∃ m : Nat, x.lo = (m : Int) := ⟨x.lo.toNat, by omega⟩
      have hm6 : m ≤ 1000000 := by omega
      have t0 := HM.out.cell (j := 0) (u := .int .i64 6) (by rw [← h0]; rfl)
      have t2 := HM.out.cell (j := 2) (u := .int .i64 (m : Int)) (by rw [← hm]; rfl)
      have t3 := HM.out.cell (j := 3) rfl
      have t4 := HM.out.cell (j := 4) rfl
      by_cases hhi : x.hi < 0
      · have hd : decide (x.hi < 0) = true := by simp; omega
        have HRR := Lib.hid (show PG.row [PG.many p m, PG.loop p x.lazy] = R by rw [← HR.out]; unfold PG.nodeP; rw [if_neg (by omega), if_neg (by omega), if_neg (by omega), if_neg (by omega), if_neg (by omega), if_neg (by omega), if_pos hhi, HEAD0.out, show x.lo.toNat = m by omega])
        have HA := Lib.hid (fun w8 h8 => pmany_any (S := Nx w (.slice (some ⟨gp, op, none⟩) ps.length cl)) p m Ap ap w8 h8 (Rok.of_ok HPOK.out) (by omega))
        have HB := Lib.hid (fun w8 h8 => ploop_any (S := Nx w (.slice (some ⟨gp, op, none⟩) ps.length cl)) p x.lazy Ap ap w8 h8 (Rok.of_ok HPOK.out))
        have HROW := Lib.hid (fun v8 w8 (h : SlP (Nx w (.slice (some ⟨gp, op, none⟩) ps.length cl)) w8 v8 [PG.many p m, PG.loop p x.lazy]) => prow_any _ v8 w8 h (rowable2 (Rok.of_ok (PG.many_ok HPOK.out m)) (Rok.of_ok (PG.loop_ok HPOK.out x.lazy))))
        rw [HRR.out] at HROW
        obtain ⟨q1, hq1⟩ : ∃ q, PG.many p m = q := ⟨_, rfl⟩
        obtain ⟨q2, hq2⟩ : ∃ q, PG.loop p x.lazy = q := ⟨_, rfl⟩
        rw [hq1] at HA HROW
        rw [hq2] at HB HROW
        have HP5 := Lib.hid (HPL.out.ext ((Ext.refl _).drew))
        clear hq1 hq2 h0 HRR
        go_upto_region 24 with fail
        go_region_held3 (fun w' => w'.cell? ⟨tb, 2, none⟩ = some (.int .i64 (m : Int)) ∧ w'.cell? ⟨gp, op, none⟩ = some (.slice Ap p.l.length ap) ∧ w'.cell? ⟨gp, op + 1, none⟩ = some (.int .i64 (p.n : Int)) ∧ w'.cell? ⟨tb, 4, none⟩ = some (.bool x.lazy))
          (first | go_keep | (go_split_ands; refine ⟨?_, ?_, ?_, ?_⟩ <;> (refine Ext.cell (by assumption) ?_; assumption)))
          (first
            | (go_at_call 51; refine (HA.out _ HP5.out).mono ?_; rintro e w6 ⟨hx6, A6, c6, rfl, hl6⟩; have HM6 := Lib.hid (HM.out.ext_ (((Ext.refl _).drew).trans hx6)); have HL6 := Lib.hid hl6; have HP6 := Lib.hid (HP5.out.ext hx6); clear hl6)
            | (go_at_call 52; refine (HB.out _ HP6.out).mono ?_; rintro e w7 ⟨hx7, A7, c7, rfl, hl7⟩; have HM7 := Lib.hid (HM6.out.ext_ hx7); have HL7 := Lib.hid hl7; have HL67 := Lib.hid (HL6.out.ext hx7); clear hl7)
            | (go_at_call 28; refine (HROW.out _ _ (parts2 rfl HL67.out HL7.out)).mono ?_; rintro e w9 ⟨hx9, A9, c9, rfl, hl9⟩; have HL9 := Lib.hid hl9; have HM9 := Lib.hid (HM7.out.ext_ (((Ext.refl _).alloc _).trans hx9)); have r0 := HM9.out.r0; have r1 := HM9.out.r1; have f0 := HM9.out.fr 0; have f1 := HM9.out.fr 1; clear hl9))
        go_wp2_with fail
        refine bodyPost_ret (v := .agg #[.slice A9 R.l.length c9, .int .i64 (R.n : Int)]) (by simp [results, Tryz.results30, go_sem, r0, r1]) rfl ?_
        exact part_retB HM9.out.ext HM9.out.lo HM9.out.res (HL9.out.wk fun _ h => h.1)
      · have hd : decide (x.hi < 0) = false := by simp; omega
        obtain ⟨n, hn⟩ : ∃ n : Nat, x.hi - x.lo = (n : Int) := ⟨(x.hi - x.lo).toNat, by omega⟩
        have s1 : IntKind.i64.wrap (x.hi - x.lo) = (n : Int) := by rw [hn]; exact IntWalk.i64_in _ (by omega)
        have s2 : IntKind.i64.wrap (x.hi - (m : Int)) = (n : Int) := by rw [← hm]; exact s1
        have s3 : x.hi - (m : Int) = (n : Int) := by omega
        have s4 : IntKind.i64.wrap (n : Int) = (n : Int) := IntWalk.i64_in _ (by omega)
        have HRR := Lib.hid (show PG.row [PG.many p m, PG.maybe p n x.lazy] = R by rw [← HR.out]; unfold PG.nodeP; rw [if_neg (by omega), if_neg (by omega), if_neg (by omega), if_neg (by omega), if_neg (by omega), if_neg (by omega), if_neg hhi, HEAD0.out, show x.lo.toNat = m by omega, show (x.hi - x.lo).toNat = n by omega])
        have HA := Lib.hid (fun w8 h8 => pmany_any (S := Nx w (.slice (some ⟨gp, op, none⟩) ps.length cl)) p m Ap ap w8 h8 (Rok.of_ok HPOK.out) (by omega))
        have HB := Lib.hid (fun w8 h8 => pmaybe_any (S := Nx w (.slice (some ⟨gp, op, none⟩) ps.length cl)) g p n x.lazy Ap ap w8 h8 HPOK.out (by omega))
        have HROW := Lib.hid (fun v8 w8 (h : SlP (Nx w (.slice (some ⟨gp, op, none⟩) ps.length cl)) w8 v8 [PG.many p m, PG.maybe p n x.lazy]) => prow_any _ v8 w8 h (rowable2 (Rok.of_ok (PG.many_ok HPOK.out m)) (Rok.of_ok (PG.maybeL_ok HPOK.out x.lazy _ _ PG.nil_ok))))
        rw [HRR.out] at HROW
        obtain ⟨q1, hq1⟩ : ∃ q, PG.many p m = q := ⟨_, rfl⟩
        obtain ⟨q2, hq2⟩ : ∃ q, PG.maybe p n x.lazy = q := ⟨_, rfl⟩
        rw [hq1] at HA HROW
        rw [hq2] at HB HROW
        have HP5 := Lib.hid (HPL.out.ext ((Ext.refl _).drew))
        clear hq1 hq2 h0 HRR hn
        go_upto_region 25 with fail
        go_region_held3 (fun w' => w'.cell? ⟨tb, 2, none⟩ = some (.int .i64 (m : Int)) ∧ w'.cell? ⟨gp, op, none⟩ = some (.slice Ap p.l.length ap) ∧ w'.cell? ⟨gp, op + 1, none⟩ = some (.int .i64 (p.n : Int)) ∧ w'.cell? ⟨tb, 4, none⟩ = some (.bool x.lazy) ∧ w'.cell? ⟨tb, 3, none⟩ = some (.int .i64 x.hi))
          (first | go_keep | (go_split_ands; refine ⟨?_, ?_, ?_, ?_, ?_⟩ <;> (refine Ext.cell (by assumption) ?_; assumption)))
          (first
            | (go_at_call 51; refine (HA.out _ HP5.out).mono ?_; rintro e w6 ⟨hx6, A6, c6, rfl, hl6⟩; have HM6 := Lib.hid (HM.out.ext_ (((Ext.refl _).drew).trans hx6)); have HL6 := Lib.hid hl6; have HP6 := Lib.hid (HP5.out.ext hx6); clear hl6)
            | (go_at_call 53; refine (HB.out _ HP6.out).mono ?_; rintro e w7 ⟨hx7, A7, c7, rfl, hl7⟩; have HM7 := Lib.hid (HM6.out.ext_ hx7); have HL7 := Lib.hid hl7; have HL67 := Lib.hid (HL6.out.ext hx7); clear hl7)
            | (go_at_call 28; refine (HROW.out _ _ (parts2 rfl HL67.out HL7.out)).mono ?_; rintro e w9 ⟨hx9, A9, c9, rfl, hl9⟩; have HL9 := Lib.hid hl9; have HM9 := Lib.hid (HM7.out.ext_ (((Ext.refl _).alloc _).trans hx9)); have r0 := HM9.out.r0; have r1 := HM9.out.r1; have f0 := HM9.out.fr 0; have f1 := HM9.out.fr 1; clear hl9))
        go_wp2_with fail
        refine bodyPost_ret (v := .agg #[.slice A9 R.l.length c9, .int .i64 (R.n : Int)]) (by simp [results, Tryz.results30, go_sem, r0, r1]) rfl ?_
        exact part_retB HM9.out.ext HM9.out.lo HM9.out.res (HL9.out.wk fun _ h => h.1)
end Go.Proofs.YtfblkahjefdmaaaGreat
