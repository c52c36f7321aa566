/- Walk: New of the document's own matcher. -/
import Derived.Test.YtfblkahjefdmaaaGreatCe
import Derived.Test.YtfblkahjefdmaaaGreatRmA
import Derived.Test.YtfblkahjefdmaaaGreatMb
namespace Go.Proofs.YtfblkahjefdmaaaGreat
open Go.RowKit

theorem SlJ.insB {B : Nat} {w : World} {v : Value} {l : List PG.Inst} (h : SlJ B w v l) : InsS (B ≤ ·) w v l := by
  obtain ⟨A, c, rfl, h1, h2, h3, h4⟩ := h
  refine ⟨A, c, rfl, h1, h2, fun k x hx => ?_, h3⟩
  cases A with
  | none =>
    have := h3 rfl
    obtain ⟨hk, -⟩ := List.getElem?_eq_some_iff.1 hx
    omega
  | some ad =>
    obtain ⟨g, o, cur, rfl, hB, hg, -, hc⟩ := h4 ad rfl
    obtain ⟨cs, ⟨vs, rfl, h5⟩, h6⟩ := hc k x hx
    refine ⟨g, o, rfl, hB, _, ⟨vs, rfl, ?_⟩, rfl, fun j u hu => (cell_of_row w g _ cur _ (0, 0) hg).trans (h6 j u hu)⟩
    obtain ⟨A', c', hv, e1, e2, e3, e4⟩ := h5
    refine ⟨A', c', hv, e1, e2, fun i y hy => ?_, e3⟩
    cases A' with
    | none =>
      have := e3 rfl
      obtain ⟨hk, -⟩ := List.getElem?_eq_some_iff.1 hy
      omega
    | some ad =>
      obtain ⟨b, q, cur', rfl, hb, hh, -, h7⟩ := e4 ad rfl
      obtain ⟨cs, h8, h9⟩ := h7 i y hy
      have h8 : cs = [.int .i32 y] := h8
      subst h8
      exact ⟨b, q, rfl, hb, (cell_of_row _ b _ _ _ _ hh).trans (h9 0 _ rfl)⟩
theorem SlJ.ins {B : Nat} {w : World} {v : Value} {l : List PG.Inst} (h : SlJ B w v l) : InsS (fun _ => True) w v l := h.insB.keep fun _ _ _ _ hc => ⟨trivial, hc⟩
theorem SlJ.offJ {B fb : Nat} {w w' : World} {v : Value} {l : List PG.Inst} {cs : Array Value} (h : SlJ B w v l) (hf : w.heap[fb]? = some (.cells cs 31 (0, 0))) (hw : ∀ i, i ≠ fb → w'.heap[i]? = w.heap[i]?) : SlJ B w' v l :=
  h.keep (keeps_icw _) (KeepT.off hf (by decide) hw) (KeepT.off hf (by decide) hw)
/-- What the document's New returns. -/
def NewR (s : List Int) (fold : Bool) (w : World) (e : Ending) (w' : World) : Prop :=
  Ext w w' ∧ ((PG.compile s).2.1 ≠ 0 ∧ e = .returned (.tuple #[.pointer none, .agg #[.int .i64 (PG.compile s).2.1, .int .i64 (PG.compile s).2.2]]) ∨
    ∃ (l : List PG.Inst) (t : List RX.ReN) (k mb : Nat) (vp : Value), PG.compile s = (l, 0, 0) ∧ RX.parse s = (t, 0, 0) ∧ PG.Made l (RX.groups t) k ∧ (∀ x ∈ l, x.set.length ≤ 1000) ∧ RX.groups t ≤ 200 ∧
      e = .returned (.tuple #[.pointer (some ⟨mb, 0, none⟩), .agg #[.int .i64 0, .int .i64 0]]) ∧ Rmt w' mb vp l (RX.groups t) fold ∧ w.heap.size ≤ mb ∧ InsS (w.heap.size ≤ ·) w' vp l)
set_option maxRecDepth 100000 in
set_option maxHeartbeats 4000000 in
theorem rnew_any (s : List Int) (fold : Bool) (v : Value) (w : World) (hv : SlC w v s) (hok : PG.okp s = true) : Calls Tryz.prog 9 #[v, .bool fold] w (NewR s fold w) := by
  obtain ⟨A, c, rfl, hlc, hcm, -⟩ := id hv
  have HV := Lib.hid hv
  have HCO := Lib.hid (fun w' (h : Ext w w') => rcompile_any s _ w' (hv.ext h) hok)
  obtain ⟨R, hR⟩ : ∃ R, PG.compile s = R := ⟨_, rfl⟩
  obtain ⟨l, code, bat⟩ := R
  have HR := Lib.hid hR
  unfold NewR
  rw [hR]
  clear hv hR hok
  go_enter Tryz.func9, Tryz.ntmps9
  go_upto_region 2 with (go_at_call 21; go_loud (refine (HCO.out _ ((Ext.refl w).alloc _)).mono ?_; rintro e w2 ⟨hE2, v2, rfl, hX2⟩; have HM2 := Lib.hid (show Cmr w w.heap.size w2 from ⟨((Ext.refl w).alloc _).trans hE2, Nat.le_refl _, hE2.heap (heap_alloc_new w _)⟩); rw [HR.out] at hX2 ⊢; dsimp only at hX2 ⊢; have HX2 := Lib.hid hX2; have hX2f := hX2.form; clear hX2 hE2))
  obtain ⟨A2, c2, rfl, hlc2, hcm2⟩ := hX2f
  have HM3 := Lib.hid (HM2.out.ext_ ((Ext.refl w2).alloc (.cells #[.int .i64 code, .int .i64 bat] 31)))
  have HX3 := Lib.hid (SlJ.ext HX2.out ((Ext.refl w2).alloc (.cells #[.int .i64 code, .int .i64 bat] 31)))
  have q0 : (w2.alloc (.cells #[.int .i64 code, .int .i64 bat] 31)).cell? ⟨w2.heap.size, 0, none⟩ = some (.int .i64 code) := by rw [World.cell?_alloc_new]; rfl
  have q1 : (w2.alloc (.cells #[.int .i64 code, .int .i64 bat] 31)).cell? ⟨w2.heap.size, 1, none⟩ = some (.int .i64 bat) := by rw [World.cell?_alloc_new]; rfl
  have hne : w2.heap.size ≠ w.heap.size := by have := heap_lt HM2.out.flt; omega
  have r0 := HM3.out.r0
  have r1 := HM3.out.r1
  have f0 := HM3.out.fr 0
  have f1 := HM3.out.fr 1
  generalize w2.alloc _ = w3 at HM3 HX3 q0 q1 r0 r1 f0 f1 ⊢
  generalize hfb : w.heap.size = fb at HM3 hne r0 r1 f0 f1 ⊢
  generalize w2.heap.size = xb at q0 q1 hne ⊢
  clear hfb HM2 HX2
  by_cases hc : code = 0
  rotate_left
  · have hb : (code != 0) = true := by simpa using hc
    have HC := Lib.hid hc
    clear hc
    go_wp2_with fail
    go_region
    go_wp2_with fail
    refine bodyPost_ret (v := .tuple #[.pointer none, .agg #[.int .i64 code, .int .i64 bat]]) (by simp [results, Tryz.results9, go_sem, r0, r1]) rfl ?_
    exact ⟨((HM3.out.ext.set (p := ⟨fb, 0, none⟩) HM3.out.lof _).set (p := ⟨fb, 1, none⟩) HM3.out.lof _).drew, .inl ⟨HC.out, rfl⟩⟩
  subst hc
  obtain ⟨t, k, hp, hmade, hl, hn, hbat⟩ := PG.compile_made HR.out
  subst hbat
  have hg : RX.groups t ≤ 200 := by
    have h1 := (RX.parse_few hp).1
    have h2 : RX.groups t ≤ t.length := by unfold RX.groups; exact List.length_filter_le _ _
    omega
  have htl : t.length ≤ 1000000 := by have := (RX.parse_few hp).1; omega
  have hset : ∀ x ∈ l, x.set.length ≤ 1000 := by
    obtain ⟨b, hw, -⟩ := RX.parse_wf hp
    have hb := (RX.wf_base hw).le
    have hok := PG.tree_wf (g := b.toNat) hw (Int.le_refl _) (by omega) 0 t.length (Nat.le_refl _)
    rw [lift_zero] at hok
    rw [hl]
    exact (PG.whole_made (RX.parse_sms hp) hok hn).2.1
  obtain ⟨g9, hg9⟩ : ∃ g9, RX.groups t = g9 := ⟨_, rfl⟩
  have HG := Lib.hid hg9
  have HPT := Lib.hid hp
  have HMD := Lib.hid hmade
  have HST := Lib.hid hset
  have HGL := Lib.hid hg
  clear hp hmade hl hn hset hg hg9 q1
  have HV3 := Lib.hid (HV.out.ext HM3.out.ext)
  go_upto_region 5 with (go_at_call 22; go_loud (refine (qparse_any s _ _ HV3.out).mono ?_; rintro e w4 ⟨v4, u4, rfl, ⟨hv4, rfl⟩, hE4⟩; rw [HPT.out] at hv4 ⊢; dsimp only at hv4 ⊢; have hv4f := hv4.form; have HV4 := Lib.hid hv4; have HM4 := Lib.hid (HM3.out.ext_ hE4); have HX4 := Lib.hid (SlJ.ext HX3.out hE4); clear hv4 hE4))
  obtain ⟨A4, c4, rfl, -, -⟩ := hv4f
  have hx5 := (Ext.refl w4).alloc (.cells #[.int .i64 0, .int .i64 0] 31)
  have HV5 := Lib.hid (SlB.keep HV4.out (keeps_re _) (KeepT.of_ext hx5) (KeepT.of_ext hx5))
  have HM5 := Lib.hid (HM4.out.ext_ hx5)
  have HX5 := Lib.hid (SlJ.ext HX4.out hx5)
  clear hx5 r0 r1 f0 f1 q0 HV4 HM4 HX4 HM3 HX3
  generalize w4.alloc _ = w5 at HV5 HM5 HX5 ⊢
  have HGR := Lib.hid (fun w' (h : Ext w5 w') => qgroups_any t _ (.slice A4 t.length c4) w' (SlB.keep HV5.out (keeps_re _) (KeepT.of_ext h) (KeepT.of_ext h)) htl)
  rw [HG.out] at HGR
  go_wp2_with (go_at_call 23; go_loud (refine (HGR.out _ (Ext.refl _)).mono ?_; rintro e w6 ⟨rfl, hE6⟩; have HM6 := Lib.hid (HM5.out.ext_ hE6); have HX6 := Lib.hid (SlJ.ext HX5.out hE6); have r0 := HM6.out.r0; have r1 := HM6.out.r1; have f0 := HM6.out.fr 0; have f1 := HM6.out.fr 1; have hfl : fb < w6.heap.size := heap_lt HM6.out.flt; clear hE6))
  have HXF := Lib.hid (SlJ.offJ HX6.out HM6.out.flt (w' := (w6.setCell ⟨fb, 0, none⟩ (.int .i64 0)).setCell ⟨fb, 1, none⟩ (.int .i64 0)) (fun _ hi => (heap_off hi).trans (heap_off hi)))
  have hEF := (HM6.out.ext.set (p := ⟨fb, 0, none⟩) HM6.out.lof (.int .i64 0)).set (p := ⟨fb, 1, none⟩) HM6.out.lof (.int .i64 0)
  refine bodyPost_ret (v := .tuple #[.pointer (some ⟨w6.heap.size, 0, none⟩), .agg #[.int .i64 0, .int .i64 0]]) (by simp [results, Tryz.results9, go_sem, r0, r1, hfl]) rfl ?_
  refine ⟨hEF.alloc _, .inr ⟨l, t, k, w6.heap.size, _, rfl, HPT.out, HMD.out, HST.out, HGL.out, rfl, ⟨?_, (SlJ.ins (SlJ.ext HXF.out ((Ext.refl _).alloc _)))⟩, Nat.le_trans HM6.out.ext.size (Nat.le_refl _), (SlJ.insB (SlJ.ext HXF.out ((Ext.refl _).alloc _))).keep fun _ _ _ hb hc => ⟨Nat.le_trans (by simp) hb, hc⟩⟩⟩
  rw [HG.out]
  have hb := heap_alloc_new ((w6.setCell ⟨fb, 0, none⟩ (.int .i64 0)).setCell ⟨fb, 1, none⟩ (.int .i64 0)) (.cells #[.slice A2 l.length c2, .int .i64 (g9 : Int), .bool fold] 47)
  simpa using hb
end Go.Proofs.YtfblkahjefdmaaaGreat
