/- Walk: maybe of package reprog. -/
import Derived.Test.YtfblkahjefdmaaaGreatPa
import Derived.Test.YtfblkahjefdmaaaGreatPureA
namespace Go.Proofs.YtfblkahjefdmaaaGreat
open Go.RowKit

/-- With a box of what is made. -/
structure Mbx (w : World) (pb rb ob : Nat) (v : Value) (n : Int) (vo : Value) (no : Int) (wr : World) : Prop where
  pbx : Pbx w pb rb v n wr
  out : wr.heap[ob]? = some (.cells #[vo, .int .i64 no] 66 (0, 0))
  lo : w.heap.size ≤ ob
  ne1 : pb ≠ ob
  ne2 : rb ≠ ob
section
variable {w wr w' : World} {pb rb ob : Nat} {v vo vo' : Value} {n no no' : Int}
theorem Mbx.ext_ (h : Mbx w pb rb ob v n vo no wr) (hx : Ext wr w') : Mbx w pb rb ob v n vo no w' := ⟨h.pbx.ext_ hx, hx.heap h.out, h.lo, h.ne1, h.ne2⟩
theorem Mbx.o0 (h : Mbx w pb rb ob v n vo no wr) : wr.cell? ⟨ob, 0, none⟩ = some vo := cell_of_row wr ob 0 _ _ _ h.out
theorem Mbx.o1 (h : Mbx w pb rb ob v n vo no wr) : wr.cell? ⟨ob, 1, none⟩ = some (.int .i64 no) := cell_of_row wr ob 1 _ _ _ h.out
theorem Mbx.fo (h : Mbx w pb rb ob v n vo no wr) (o : Nat) : wr.frozen? ⟨ob, o, none⟩ = false := frozen_of_row wr ob o _ _ h.out
theorem Mbx.setO (h : Mbx w pb rb ob v n vo no wr) : Mbx w pb rb ob v n vo' no' ((wr.setCell ⟨ob, 0, none⟩ vo').setCell ⟨ob, 1, none⟩ (.int .i64 no')) :=
  ⟨⟨(h.pbx.ext.set (p := ⟨ob, 0, none⟩) h.lo _).set (p := ⟨ob, 1, none⟩) h.lo _, h.pbx.lo, ((heap_off h.ne1).trans (heap_off h.ne1)).trans h.pbx.box, ((heap_off h.ne2).trans (heap_off h.ne2)).trans h.pbx.res⟩,
    heap_set (heap_set h.out), h.lo, h.ne1, h.ne2⟩
end
theorem SlN.offO {S : Nat → Prop} {wr : World} {ob : Nat} {vo : Value} {no no' : Int} {v vo' : Value} {l : List PG.Inst} (h : SlN S wr v l) (hb : wr.heap[ob]? = some (.cells #[vo, .int .i64 no] 66 (0, 0))) (ha : ∀ x, vo ≠ .int .i32 x) :
    SlN S ((wr.setCell ⟨ob, 0, none⟩ vo').setCell ⟨ob, 1, none⟩ (.int .i64 no')) v l := h.off hb ha (fun _ hi => (heap_off hi).trans (heap_off hi)) (by simp)
theorem PG.maybe_step {g : Nat} {p out : PG.Part} (lz : Bool) (hp : PG.Ok g p) (ho : PG.Ok g out) : PG.Ok g (PG.row [PG.split (1 + (p.n : Int) + out.n) lz, p, out]) := PG.maybeL_ok hp lz 1 out ho
set_option maxRecDepth 100000 in
set_option maxHeartbeats 4000000 in
theorem pmaybe_any {S : Nat → Prop} (g : Nat) (p : PG.Part) (m : Nat) (lz : Bool) (A : Option Addr) (c : Nat) (w : World) (hs : SlN S w (.slice A p.l.length c) p.l) (hp : PG.Ok g p) (hm : m ≤ 1000000000) :
    Calls Tryz.prog 53 #[.agg #[.slice A p.l.length c, .int .i64 (p.n : Int)], .int .i64 (m : Int), .bool lz] w (PartR S (PG.maybe p m lz) w) := by
  have HS := Lib.hid hs
  have HP := Lib.hid hp
  have hpn := (Rok.of_ok hp).le
  obtain ⟨q, hq⟩ : ∃ q, (if p.n = 301 then min m 1 else m) = q := ⟨_, rfl⟩
  have HQ := Lib.hid hq
  have hqm : q ≤ 1000000000 := by rw [← hq]; split <;> omega
  obtain ⟨R, hR⟩ : ∃ R, PG.maybe p m lz = R := ⟨_, rfl⟩
  have HR := Lib.hid (show PG.maybeL p lz q ⟨[], 0⟩ = R by rw [← hR, PG.maybe, hq])
  rw [hR]
  clear hs hp hq hR
  go_enter Tryz.func53, Tryz.ntmps53
  go_upto_if 10 with fail
  have HC := Lib.hid (show Pbx w w.heap.size (w.heap.size + 1) (.slice A p.l.length c) (p.n : Int) _ from ⟨((Ext.refl w).alloc (.cells #[.slice A p.l.length c, .int .i64 (p.n : Int)] 66)).alloc (.cells #[.slice none 0 0, .int .i64 0] 66), Nat.le_succ _, heap_alloc_1 _ _ _, heap_alloc_2 _ _ _⟩)
  generalize (w.alloc (.cells #[.slice A p.l.length c, .int .i64 (p.n : Int)] 66)).alloc (.cells #[.slice none 0 0, .int .i64 0] 66) = w1 at HC ⊢
  generalize hrb : w.heap.size + 1 = rb at HC ⊢
  generalize hpb : w.heap.size = pb at HC hrb ⊢
  have hpr : pb ≠ rb := by omega
  have hrp : rb ≠ pb := by omega
  clear hpb hrb
  go_cut [1] (fun s1 wx => s1 = .int .i64 (q : Int) ∧ wx = w1)
  case first =>
    by_cases h3 : p.n = 301
    · have h3i : ((p.n : Int) == 301) = true := by simp; omega
      by_cases h4 : m ≤ 1
      · have e : q = m := by rw [← HQ.out, if_pos h3]; omega
        have h5 : (m : Int) ≤ 1 := by omega
        subst e
        clear h3 h4
        go_wp2_with fail
        go_meet
        exact ⟨rfl, rfl⟩
      · have e : q = 1 := by rw [← HQ.out, if_pos h3]; omega
        have h5 : ¬ ((m : Int) ≤ 1) := by omega
        subst e
        clear h3 h4
        go_wp2_with fail
        go_meet
        exact ⟨rfl, rfl⟩
    · have h3i : ((p.n : Int) == 301) = false := by simp; omega
      have e : q = m := by rw [← HQ.out, if_neg h3]
      subst e
      clear h3
      go_wp2_with fail
      go_meet
      exact ⟨rfl, rfl⟩
  case rest =>
    obtain ⟨rfl, hw⟩ := hcut
    subst hw
    go_upto_region 5 with fail
    have HM := Lib.hid (show Mbx w pb rb wc.heap.size (.slice A p.l.length c) (p.n : Int) (.slice none 0 0) 0 _ from ⟨HC.out.ext_ ((Ext.refl wc).alloc (.cells #[.slice none 0 0, .int .i64 0] 66)), heap_alloc_new wc _, HC.out.ext.size, Nat.ne_of_lt (heap_lt HC.out.box), Nat.ne_of_lt (heap_lt HC.out.res)⟩)
    generalize wc.alloc (.cells #[.slice none 0 0, .int .i64 0] 66) = w2 at HM ⊢
    generalize wc.heap.size = ob at HM ⊢
    clear HC
    have ho1 : pb ≠ ob := HM.out.ne1
    have ho2 : rb ≠ ob := HM.out.ne2
    have ho3 : ob ≠ pb := ho1.symm
    have ho4 : ob ≠ rb := ho2.symm
    go_loopw [14] (fun x wr => ∃ (k : Nat) (out : PG.Part) (Ao : Option Addr) (co : Nat), k ≤ q ∧ x = .int .i64 (k : Int) ∧ PG.Ok g out ∧ PG.maybeL p lz (q - k) out = R ∧ SlN S wr (.slice Ao out.l.length co) out.l ∧ Mbx w pb rb ob (.slice A p.l.length c) (p.n : Int) (.slice Ao out.l.length co) (out.n : Int) wr) (fun x _ => q - (intOf x).toNat)
    case atStart => exact ⟨0, ⟨[], 0⟩, none, 0, Nat.zero_le _, rfl, PG.nil_ok, HR.out, SlN.nil_ (HS.out.1.ext HM.out.pbx.ext), HM.out⟩
    case round =>
      obtain ⟨k, out, Ao, co, hk, rfl, hok, hT, hso, hmb⟩ := hrel
      have HC := Lib.hid hmb
      have HT := Lib.hid hT
      have HSO := Lib.hid hso
      have HO := Lib.hid hok
      have hon := (Rok.of_ok hok).le
      have o0 := hmb.o0
      have o1 := hmb.o1
      clear hmb hT hso hok HM
      by_cases hlt : k < q
      rotate_left
      · have HN := Lib.hid (show out = R by rw [← HT.out, show q - k = 0 by omega]; rfl)
        have r0 := HC.out.pbx.r0
        have r1 := HC.out.pbx.r1
        have f0 := HC.out.pbx.fr 0
        have f1 := HC.out.pbx.fr 1
        go_wp2_with fail
        rw [← HN.out]
        refine bodyPost_ret (v := .agg #[.slice Ao out.l.length co, .int .i64 (out.n : Int)]) (by simp [results, Tryz.results53, go_sem, r0, r1]) rfl ?_
        exact part_retB HC.out.pbx.ext HC.out.pbx.lo HC.out.pbx.res HSO.out
      have c0 := HC.out.pbx.c0
      have c1 := HC.out.pbx.c1
      obtain ⟨p1, hp1⟩ : ∃ p1, PG.split (1 + (p.n : Int) + out.n) lz = p1 := ⟨_, rfl⟩
      have HSP := Lib.hid (psplit_all (1 + (p.n : Int) + out.n) lz)
      have HRW := Lib.hid (rowable3 (rok_split (far := 1 + (p.n : Int) + out.n) lz (by omega)) (Rok.of_ok HP.out) (Rok.of_ok HO.out))
      obtain ⟨R2, hR2⟩ : ∃ R2, PG.row [PG.split (1 + (p.n : Int) + out.n) lz, p, out] = R2 := ⟨_, rfl⟩
      have HT2 := Lib.hid (show PG.maybeL p lz (q - (k + 1)) R2 = R by rw [← HT.out, show q - k = (q - (k + 1)) + 1 by omega, PG.maybeL, hR2])
      have HO2 := Lib.hid (show PG.Ok g R2 by rw [← hR2]; exact PG.maybe_step lz HP.out HO.out)
      rw [hp1] at HSP HRW hR2
      have HROW := Lib.hid (fun v w (h : SlP S w v [p1, p, out]) => prow_any [p1, p, out] v w h HRW.out)
      rw [hR2] at HROW
      clear hp1 hR2 HRW
      go_upto_region 6 with fail
      have s1 : IntKind.i64.wrap (1 + (p.n : Int)) = 1 + (p.n : Int) := IntWalk.i64_in _ (by omega)
      have s2 : IntKind.i64.wrap (1 + (p.n : Int) + out.n) = 1 + (p.n : Int) + out.n := IntWalk.i64_in _ (by omega)
      go_region_law (first
        | (refine step_go 71 enter_split rfl _ _ rfl #[.int .i64 (1 + (p.n : Int) + out.n), .bool lz] ?hvs _ (HSP.out _) ?_; (case hvs => (simp [go_sem])); rintro e w4 ⟨hx4, A2, c2, rfl, hl2⟩; refine ⟨_, rfl, ?_⟩; have HC4 := Lib.hid (HC.out.ext_ (((Ext.refl _).drew).trans hx4)); have HL2 := Lib.hid (hl2.new (HS.out.1.ext (HC.out.pbx.ext.trans ((Ext.refl _).drew)))); have HS4 := Lib.hid (HS.out.ext HC4.out.pbx.ext); have HO4 := Lib.hid (HSO.out.ext (((Ext.refl _).drew).trans hx4)); have o0 := HC4.out.o0; have o1 := HC4.out.o1; have c0 := HC4.out.pbx.c0; have c1 := HC4.out.pbx.c1; clear hl2 hx4)
        | (refine step_go 28 enter_row rfl _ _ rfl #[.slice (some ⟨w4.heap.size, 0, none⟩) 3 3] ?hvs _ (HROW.out _ _ (parts3 rfl HL2.out HS4.out HO4.out)) ?_; (case hvs => (simp [go_sem])); rintro e w5 ⟨hx5, A5, c5, rfl, hl5⟩; refine ⟨_, rfl, ?_⟩; have HL5 := Lib.hid hl5; have HC5 := Lib.hid (HC4.out.ext_ (((Ext.refl _).alloc _).trans hx5)); have o0 := HC5.out.o0; have o1 := HC5.out.o1; have g0 := HC5.out.fo 0; have g1 := HC5.out.fo 1; clear hl5 hx5))
      all_goals
        go_wp2_with fail
        go_roundw
        case rel => exact ⟨k + 1, R2, A5, c5, by omega, by go_num, HO2.out, HT2.out, HL5.out.offO HC5.out.out (by intro x h; cases h), HC5.out.setO⟩
        case measure => simp [intOf]; omega
end Go.Proofs.YtfblkahjefdmaaaGreat
