/- Walk: either of package reprog. -/
import Derived.Test.YtfblkahjefdmaaaGreatPgU
namespace Go.Proofs.YtfblkahjefdmaaaGreat
open Go.RowKit

/-- Inside of either: the result's box, the box of what is made. -/
structure Obx (w : World) (rb ob : Nat) (vo : Value) (no : Int) (wr : World) : Prop where
  ext : Ext w wr
  lo : w.heap.size ≤ rb
  lo2 : w.heap.size ≤ ob
  ne : rb ≠ ob
  res : wr.heap[rb]? = some (.cells #[.slice none 0 0, .int .i64 0] 66 (0, 0))
  out : wr.heap[ob]? = some (.cells #[vo, .int .i64 no] 66 (0, 0))
section
variable {w wr w' : World} {rb ob : Nat} {vo vo' : Value} {no no' : Int}
theorem Obx.ext_ (h : Obx w rb ob vo no wr) (hx : Ext wr w') : Obx w rb ob vo no w' := ⟨h.ext.trans hx, h.lo, h.lo2, h.ne, hx.heap h.res, hx.heap h.out⟩
theorem Obx.o0 (h : Obx w rb ob vo no wr) : wr.cell? ⟨ob, 0, none⟩ = some vo := cell_of_row wr ob 0 _ _ _ h.out
theorem Obx.o1 (h : Obx w rb ob vo no wr) : wr.cell? ⟨ob, 1, none⟩ = some (.int .i64 no) := cell_of_row wr ob 1 _ _ _ h.out
theorem Obx.fo (h : Obx w rb ob vo no wr) (o : Nat) : wr.frozen? ⟨ob, o, none⟩ = false := frozen_of_row wr ob o _ _ h.out
theorem Obx.r0 (h : Obx w rb ob vo no wr) : wr.cell? ⟨rb, 0, none⟩ = some (.slice none 0 0) := cell_of_row wr rb 0 _ _ _ h.res
theorem Obx.r1 (h : Obx w rb ob vo no wr) : wr.cell? ⟨rb, 1, none⟩ = some (.int .i64 0) := cell_of_row wr rb 1 _ _ _ h.res
theorem Obx.fr (h : Obx w rb ob vo no wr) (o : Nat) : wr.frozen? ⟨rb, o, none⟩ = false := frozen_of_row wr rb o _ _ h.res
theorem Obx.setO (h : Obx w rb ob vo no wr) : Obx w rb ob vo' no' ((wr.setCell ⟨ob, 0, none⟩ vo').setCell ⟨ob, 1, none⟩ (.int .i64 no')) :=
  ⟨(h.ext.set (p := ⟨ob, 0, none⟩) h.lo2 _).set (p := ⟨ob, 1, none⟩) h.lo2 _, h.lo, h.lo2, h.ne, ((heap_off h.ne).trans (heap_off h.ne)).trans h.res, heap_set (heap_set h.out)⟩
end
set_option maxRecDepth 100000 in
set_option maxHeartbeats 16000000 in
theorem peither_any {S : Nat → Prop} (g : Nat) (ps : List PG.Part) (v : Value) (w : World) (hs : SlP S w v ps) (hp : ∀ p ∈ ps, PG.Ok g p) (hne : ps ≠ []) (hl : ps.length ≤ 1000000000) :
    Calls Tryz.prog 50 #[v] w (PartR S (PG.either ps) w) := by
  obtain ⟨A, c, rfl, hlc, hcc⟩ := hs.form
  have HS := Lib.hid hs
  have HP := Lib.hid hp
  have hpos : 1 ≤ ps.length := by
    cases ps with
    | nil => exact absurd rfl hne
    | cons a l => simp
  obtain ⟨g0, o, cs, rfl, ⟨Aq, cq, rfl, hlq⟩, hcell⟩ := HS.out.atP (show ps.length - 1 < ps.length by omega)
  have d0 : w.cell? ⟨g0, o + (ps.length - 1) * 2, none⟩ = _ := hcell 0 _ rfl
  have d1 : w.cell? ⟨g0, o + (ps.length - 1) * 2 + 1, none⟩ = _ := hcell 1 _ rfl
  have hg0 : g0 < w.heap.size := World.block_lt_of_cell? w ⟨g0, o + (ps.length - 1) * 2, none⟩ d0
  have HLQ := Lib.hid hlq
  have HQ := Lib.hid (show PG.either (ps.drop (ps.length - 1)) = ps[ps.length - 1] by rw [List.drop_eq_getElem_cons (by omega), show ps.length - 1 + 1 = ps.length by omega, List.drop_length]; rfl)
  generalize ps[ps.length - 1] = q at d0 d1 HLQ HQ
  obtain ⟨R, hR⟩ : ∃ R, PG.either ps = R := ⟨_, rfl⟩
  have HR := Lib.hid hR
  rw [hR]
  have t1 : ((ps.length : Int) - 1).toNat = ps.length - 1 := by omega
  have t2 : (0 : Int) ≤ (ps.length : Int) - 1 := by omega
  clear hs hp hR hne hlq hcell
  go_enter Tryz.func50, Tryz.ntmps50
  go_upto_region 3 with fail
  have HC := Lib.hid (show Obx w w.heap.size (w.heap.size + 1) (.slice Aq q.l.length cq) (q.n : Int) _ from ⟨((Ext.refl w).alloc (.cells #[.slice none 0 0, .int .i64 0] 66)).alloc (.cells #[.slice Aq q.l.length cq, .int .i64 (q.n : Int)] 66), Nat.le_refl _, Nat.le_succ _, by omega, heap_alloc_1 _ _ _, heap_alloc_2 _ _ _⟩)
  generalize (w.alloc (.cells #[.slice none 0 0, .int .i64 0] 66)).alloc (.cells #[.slice Aq q.l.length cq, .int .i64 (q.n : Int)] 66) = w1 at HC ⊢
  generalize w.heap.size + 1 = ob at HC ⊢
  generalize w.heap.size = rb at HC ⊢
  have HLQ := Lib.hid (HLQ.out.ext HC.out.ext)
  clear d0 d1 t1 t2 hg0
  go_loopw [4] (fun x wr => ∃ (i : Int) (k : Nat) (out : PG.Part) (Ao : Option Addr) (co : Nat), x = .int .i64 i ∧ i = (k : Int) - 1 ∧ k < ps.length ∧ PG.either (ps.drop k) = out ∧ SlN S wr (.slice Ao out.l.length co) out.l ∧ Obx w rb ob (.slice Ao out.l.length co) (out.n : Int) wr) (fun x _ => (intOf x + 1).toNat)
  case atStart => exact ⟨_, ps.length - 1, q, Aq, cq, rfl, by omega, by omega, HQ.out, HLQ.out, HC.out⟩
  case round =>
    obtain ⟨i, k, out, Ao, co, rfl, hi, hk, hT, hso, hmb⟩ := hrel
    have HC := Lib.hid hmb
    have HT := Lib.hid hT
    have HSO := Lib.hid hso
    have hok : PG.Ok g out := by rw [← hT]; exact PG.either_ok _ (fun x hx => HP.out x (List.mem_of_mem_drop hx))
    have HO := Lib.hid hok
    have hon := (Rok.of_ok hok).le
    have o0 := hmb.o0
    have o1 := hmb.o1
    have hso1 : ob < wr.heap.size := heap_lt hmb.out
    have hso2 : rb < wr.heap.size := heap_lt hmb.res
    clear hmb hT hso hok
    rcases k with _ | j
    · have HN := Lib.hid (show out = R by rw [← HT.out, ← HR.out]; rfl)
      have hi2 : ¬ (0 ≤ i) := by omega
      have r0 := HC.out.r0
      have r1 := HC.out.r1
      have f0 := HC.out.fr 0
      have f1 := HC.out.fr 1
      clear hi
      go_wp2_with fail
      rw [← HN.out]
      refine bodyPost_ret (v := .agg #[.slice Ao out.l.length co, .int .i64 (out.n : Int)]) (by simp [results, Tryz.results50, go_sem, r0, r1]) rfl ?_
      exact part_retB HC.out.ext HC.out.lo HC.out.res HSO.out
    obtain rfl : i = (j : Int) := by omega
    clear hi
    have hjl : j < ps.length := by omega
    have hji : (j : Int) < ps.length := by omega
    obtain ⟨g1, o1', cs, hA, ⟨Ap, cp, rfl, hlp⟩, hcell⟩ := HS.out.atP hjl
    injection hA with hA
    injection hA with hA1 hA2
    subst hA1 hA2
    have d0 : wr.cell? ⟨g0, o + j * 2, none⟩ = _ := HC.out.ext.cell (hcell 0 _ rfl)
    have d1 : wr.cell? ⟨g0, o + j * 2 + 1, none⟩ = _ := HC.out.ext.cell (hcell 1 _ rfl)
    have hpo := HP.out ps[j] (List.getElem_mem hjl)
    obtain ⟨R2, hR2⟩ : ∃ R2, PG.row [PG.split ((ps[j].n : Int) + 2) false, ps[j], PG.jump ((out.n : Int) + 1), out] = R2 := ⟨_, rfl⟩
    have HT2 := Lib.hid (show PG.either (ps.drop j) = R2 by
      rw [List.drop_eq_getElem_cons hjl, List.drop_eq_getElem_cons hk, PG.either, ← List.drop_eq_getElem_cons hk, HT.out]; exact hR2)
    have HLP := Lib.hid hlp
    generalize ps[j] = p at HLP HT2 hR2 hpo d0 d1
    have hpn := (Rok.of_ok hpo).le
    obtain ⟨p1, hp1⟩ : ∃ p1, PG.split ((p.n : Int) + 2) false = p1 := ⟨_, rfl⟩
    obtain ⟨p2, hp2⟩ : ∃ p2, PG.jump ((out.n : Int) + 1) = p2 := ⟨_, rfl⟩
    have HSP := Lib.hid (psplit_all ((p.n : Int) + 2) false)
    have HJ := Lib.hid (pjump_any ((out.n : Int) + 1))
    have HRW := Lib.hid (rowable4 (rok_split (far := (p.n : Int) + 2) false (by omega)) (Rok.of_ok hpo) (rok_jump (far := (out.n : Int) + 1) (by omega)) (Rok.of_ok HO.out))
    rw [hp1] at HSP HRW hR2
    rw [hp2] at HJ HRW hR2
    have HROW := Lib.hid (fun v w (h : SlP S w v [p1, p, p2, out]) => prow_any [p1, p, p2, out] v w h HRW.out)
    rw [hR2] at HROW
    clear hp1 hp2 hR2 HRW hlp hcell hpo
    go_upto_region 6 with fail
    have s1 : IntKind.i64.wrap ((p.n : Int) + 2) = (p.n : Int) + 2 := IntWalk.i64_in _ (by omega)
    have s2 : IntKind.i64.wrap ((out.n : Int) + 1) = (out.n : Int) + 1 := IntWalk.i64_in _ (by omega)
    have HC3 := Lib.hid (HC.out.ext_ ((Ext.refl wr).alloc (.cells #[.slice Ap p.l.length cp, .int .i64 (p.n : Int)] 66)))
    have HSO3 := Lib.hid (HSO.out.ext ((Ext.refl wr).alloc (.cells #[.slice Ap p.l.length cp, .int .i64 (p.n : Int)] 66)))
    have HPB := Lib.hid (heap_alloc_new wr (.cells #[.slice Ap p.l.length cp, .int .i64 (p.n : Int)] 66))
    clear d0 d1 o0 o1 hso1 hso2 HSO HC
    generalize wr.alloc (.cells #[.slice Ap p.l.length cp, .int .i64 (p.n : Int)] 66) = w3 at HC3 HPB HSO3 ⊢
    generalize wr.heap.size = pb at HPB ⊢
    have o0 := HC3.out.o0
    have o1 := HC3.out.o1
    have c0 := cell_of_row w3 pb 0 _ _ _ HPB.out
    have c1 := cell_of_row w3 pb 1 _ _ _ HPB.out
    go_region_law (first
      | (refine step_go 71 enter_split rfl _ _ rfl #[.int .i64 ((p.n : Int) + 2), .bool false] ?hvs _ (HSP.out _) ?_; (case hvs => (simp [go_sem])); rintro e w4 ⟨hx4, A2, c2, rfl, hl2⟩; refine ⟨_, rfl, ?_⟩; have HC4 := Lib.hid (HC3.out.ext_ (((Ext.refl _).drew).trans hx4)); have HL2 := Lib.hid (hl2.new (HS.out.1.ext (HC3.out.ext.trans ((Ext.refl _).drew)))); have HS4 := Lib.hid (HLP.out.ext HC4.out.ext); have HO4 := Lib.hid (HSO3.out.ext (((Ext.refl _).drew).trans hx4)); have HPB4 := Lib.hid ((((Ext.refl _).drew).trans hx4).heap HPB.out); have o0 := HC4.out.o0; have o1 := HC4.out.o1; have c0 := cell_of_row w4 pb 0 _ _ _ HPB4.out; have c1 := cell_of_row w4 pb 1 _ _ _ HPB4.out; clear hl2 hx4)
      | (refine step_go 72 enter_jump rfl _ _ rfl #[.int .i64 ((out.n : Int) + 1)] ?hvs _ (HJ.out _) ?_; (case hvs => (simp [go_sem])); rintro e w5 ⟨hx5, A3, c3, rfl, hl3⟩; refine ⟨_, rfl, ?_⟩; have HC5 := Lib.hid (HC4.out.ext_ hx5); have HL3 := Lib.hid (hl3.new (HS.out.1.ext HC4.out.ext)); have HL25 := Lib.hid (HL2.out.ext hx5); have HS5 := Lib.hid (HS4.out.ext hx5); have HO5 := Lib.hid (HO4.out.ext hx5); have o0 := HC5.out.o0; have o1 := HC5.out.o1; have c0 := cell_of_row w5 pb 0 _ _ _ (hx5.heap HPB4.out); have c1 := cell_of_row w5 pb 1 _ _ _ (hx5.heap HPB4.out); clear hl3 hx5)
      | (refine step_go 28 enter_row rfl _ _ rfl #[.slice (some ⟨w5.heap.size, 0, none⟩) 4 4] ?hvs _ (HROW.out _ _ (parts4 rfl HL25.out HS5.out HL3.out HO5.out)) ?_; (case hvs => (simp [go_sem])); rintro e w6 ⟨hx6, A5, c5, rfl, hl5⟩; refine ⟨_, rfl, ?_⟩; have HL5 := Lib.hid hl5; have HC6 := Lib.hid (HC5.out.ext_ (((Ext.refl _).alloc _).trans hx6)); have o0 := HC6.out.o0; have o1 := HC6.out.o1; have g0 := HC6.out.fo 0; have g1 := HC6.out.fo 1; clear hl5 hx6))
    all_goals
      go_wp2_with fail
      go_roundw
      case rel => exact ⟨_, j, R2, A5, c5, rfl, by go_num, by omega, HT2.out, HL5.out.offO HC6.out.out (by intro x h; cases h), HC6.out.setO⟩
      case measure => simp [intOf]
end Go.Proofs.YtfblkahjefdmaaaGreat
