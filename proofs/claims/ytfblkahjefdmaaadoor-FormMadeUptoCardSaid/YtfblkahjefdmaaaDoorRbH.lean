/- Walk: the law FormMade. -/
import Derived.Test.YtfblkahjefdmaaaDoorRbE
import Derived.Test.YtfblkahjefdmaaaDoorRbG
namespace Go.Proofs.YtfblkahjefdmaaaDoor
open Go.RowKit

def prL (l : List FM.Form) : List Int := if FM.may l = true then FM.print l else []
/-- What is printed, and whether it may be. -/
theorem PrintP.all {l : List FM.Form} {w w' : World} {e : Ending} (h : PrintP l w e w') : Ext w w' ∧ ∃ A c, e = .returned (.tuple #[.slice A (prL l).length c, .bool (FM.may l)]) ∧ SlB 21 1 Cc w.heap.size w' (.slice A (prL l).length c) (prL l) := by
  obtain ⟨h1, ⟨hm, A, c, he, hl⟩ | ⟨hm, he⟩⟩ := h
  · have : prL l = FM.print l := if_pos hm
    rw [this, hm]
    exact ⟨h1, A, c, he, hl.sl⟩
  · have : prL l = [] := if_neg (by rw [hm]; decide)
    rw [this, hm]
    exact ⟨h1, none, 0, he, SlB.nil_⟩
theorem SlF.front {w : World} {A : Option Addr} {n c m : Nat} {l : List FM.Form} (h : SlF w (.slice A n c) l) (hm : m ≤ n) : SlF w (.slice A m c) (l.take m) := by
  obtain ⟨A', c', hv, hl, hc, hk, hn⟩ := h
  injection hv with e1 e2 e3
  subst e1 e2 e3
  refine ⟨A, c, by rw [List.length_take, Nat.min_eq_left hm], by rw [List.length_take]; omega, hc, fun k x hx => hk k x ?_, hn⟩
  rw [List.getElem?_take] at hx
  split at hx
  · exact hx
  · cases hx
theorem szs_bound : ∀ {l : List FM.Form} {n : Nat}, (∀ f ∈ l, f.text.length ≤ 2000000 ∧ f.els.length ≤ 2000000) → l.length ≤ n → FM.szs l ≤ n * 8000030
  | [], n, _, _ => by simp [FM.szs]
  | f :: r, 0, _, h => by simp at h
  | f :: r, n + 1, hb, h => by
    have ih := szs_bound (l := r) (n := n) (fun g hg => hb g (by simp [hg])) (by simpa using h)
    have := hb f (by simp)
    simp only [FM.szs, FM.sz]
    omega
set_option maxRecDepth 100000 in
set_option maxHeartbeats 4000000 in
theorem formMade_any (l : List FM.Form) (ts : List Int) (vl vt : Value) (a how : Int) (x : FM.Form) (vxt vxe : Value) (w : World) (hl : SlF w vl l) (ht : SlI w vt ts) (hx1 : SlC w vxt x.text) (hx2 : SlC w vxe x.els)
    (hb : ∀ f ∈ l, f.text.length ≤ 2000000 ∧ f.els.length ≤ 2000000) (hxb : x.text.length ≤ 2000000 ∧ x.els.length ≤ 2000000) :
    Calls Tryd.prog 4 #[vl, vt, .int .i64 a, .int .i64 how, .agg #[.int .i64 x.kind, .int .i64 x.group, .int .i64 x.cas, vxt, vxe]] w (Ret (.bool true) w) := by
  obtain ⟨Al, cl, rfl, hlc, hlm⟩ := hl.form2
  obtain ⟨A, c, rfl, hlc2, hcm, -⟩ := id ht
  have HLF := Lib.hid hl
  have HT := Lib.hid ht
  have HX1 := Lib.hid hx1
  have HX2 := Lib.hid hx2
  have HBB := Lib.hid hb
  have HXB := Lib.hid hxb
  obtain ⟨At, ct, rfl, -⟩ := hx1
  obtain ⟨Ae, ce, rfl, -⟩ := hx2
  obtain ⟨nb, hnb⟩ : ∃ nb, nb = w.heap.size := ⟨_, rfl⟩
  have HNB := Lib.hid hnb
  clear hl ht hb hxb hnb
  go_enter Tryd.func4, Tryd.ntmps4
  go_upto_if 23 with fail
  have hE1 := (Ext.refl w).alloc (.cells #[.int .i64 x.kind, .int .i64 x.group, .int .i64 x.cas, .slice At x.text.length ct, .slice Ae x.els.length ce] 34)
  have HXC := Lib.hid (heap_alloc_new w (.cells #[.int .i64 x.kind, .int .i64 x.group, .int .i64 x.cas, .slice At x.text.length ct, .slice Ae x.els.length ce] 34))
  have HE1 := Lib.hid hE1
  clear hE1
  generalize w.alloc (.cells #[.int .i64 x.kind, .int .i64 x.group, .int .i64 x.cas, .slice At x.text.length ct, .slice Ae x.els.length ce] 34) = w1 at HXC HE1 ⊢
  rw [← HNB.out] at HXC ⊢
  obtain ⟨i0, hi0, hz0, hz1, hz2⟩ := info_parts info_form
  go_cut [0] (fun s0 wx => ∃ l0 n0, s0 = .slice Al n0 cl ∧ n0 = List.length l0 ∧ SlF w1 (.slice Al n0 cl) l0 ∧ FM.szs l0 ≤ 1000000000 ∧ wx = w1)
  case first =>
    by_cases h30 : 30 < l.length
    · have h30i : decide ((30 : Int) < (l.length : Int)) = true := by simp; omega
      have hsl := fun W => run_sl_hi (P := Tryd.prog) Tryd.underlying32 hi0 Al (n := l.length) (c := cl) (m := 30) (by omega) W
      simp only [Int.cast_ofNat_Int] at hsl
      go_wp2_with fail
      go_meet
      have hs := szs_bound (l := l.take 30) (n := 30) (fun f hf => HBB.out f (List.mem_of_mem_take hf)) (by rw [List.length_take]; omega)
      exact ⟨l.take 30, 30, rfl, by rw [List.length_take]; omega, (HLF.out.ext HE1.out).front (by omega), by omega, rfl⟩
    · have h30i : decide ((30 : Int) < (l.length : Int)) = false := by simp; omega
      go_wp2_with fail
      go_meet
      have hs := szs_bound (l := l) (n := 30) HBB.out (by omega)
      exact ⟨l, l.length, rfl, rfl, HLF.out.ext HE1.out, by omega, rfl⟩
  case rest =>
    obtain ⟨l0, n0, rfl, hn0, hlf0, hsz0, rfl⟩ := hcut
    have HL0 := Lib.hid hlf0
    have HSZ0 := Lib.hid hsz0
    have he1 : Ten wc wc.heap.size (.slice A ts.length c) ts (wc.alloc (.cells #[.slice A ts.length c, .int .i64 0] 26)) 0 :=
      ⟨HT.out.ext HE1.out, Nat.le_refl _, (Ext.refl wc).alloc _, heap_alloc_new wc _, Nat.zero_le _⟩
    have HF := Lib.hid (format_any _ _ he1)
    clear he1 hlf0 hsz0 hn0
    go_wp2_with fail
    refine HF.out.mono ?_
    rintro e w2 ⟨v2, rfl, hv2, -, ho2⟩
    have hE2 : Ext wc w2 := ((Ext.refl wc).alloc _).only ho2 (Nat.le_refl _)
    have hfl := (TP.fmt_ok (ts := ts) (Nat.zero_le _)).2.2
    have hfs := TP.fmt_scan (ts := ts) (i := 0) (Nat.zero_le _)
    generalize (TP.fmt ts 0).1 = f at hv2 hfl hfs
    obtain ⟨A2, c2, rfl, -⟩ := hv2.form
    have HO2 := Lib.hid hv2
    have HE2 := Lib.hid hE2
    have HBF := Lib.hid (back_facts hfs.1 hfl hfs.2)
    have hw12 : wc.heap.size + 1 ≤ w2.heap.size := by have := World.grownBy.size ho2; simp at this; omega
    clear hv2 hE2 ho2 hfs HF
    go_upto_region 4 with (at_builtin; go_loud (refine app_i32 rfl _ _ rfl (wc.heap.size + 1) _ f [47] HO2.out.allocs rfl ⟨w2.heap.size, 0, none⟩ 1 1 rfl rfl (one_cells rfl) ?hn ?hB ?_; (case hn => (simp only [List.length_cons, List.length_nil]; omega)); (case hB => (simp; omega)); intro v3 w3 h1 h2; have hE3 : Ext wc w3 := (HE2.out.alloc _).grown h2 (fun k hk => Nat.le_trans (Nat.le_succ _) (HO2.out.lt k hk).1); generalize hl : f ++ [47] = s at h1; have HL := Lib.hid hl; obtain ⟨A3, c3, rfl, -⟩ := h1.form; have HO3 := Lib.hid h1.sl; have HE3 := Lib.hid hE3; clear h1 h2 hl hE3))
    obtain ⟨m, j, hsc, -, -, -, hsz, -⟩ := HBF.out
    have hl := HL.out
    rw [hl] at hsc
    have hsl : s.length ≤ 52 := by rw [← hl, List.length_append]; simp; omega
    have HSC := Lib.hid hsc
    have hml : m.length ≤ 1000000 := by
      have : ∀ q : List FM.Form, q.length ≤ FM.szs q := by
        intro q
        induction q with
        | nil => simp
        | cons y r ih => simp only [List.length_cons, FM.szs, FM.sz]; omega
      have := this m
      omega
    clear hl hsc HBF
    go_upto_region 5 with (go_at_call 12; go_loud (refine (rscan_any s _ 0 w3 (SlB.slc HO3.out) (by omega)).mono ?_; rw [HSC.out]; rintro e w4 ⟨hE4, ⟨l', j', Am, cm, hq, rfl, hlv⟩ | ⟨hq, -⟩⟩; rotate_left; (exact absurd hq (by simp)); injection hq with hq; injection hq with hq1 hq2; subst hq1 hq2; have HV4 := Lib.hid hlv; have HE4 := Lib.hid (HE3.out.trans hE4); clear hlv hE4))
    have hx4 := HE4.out.heap HXC.out
    have d0 := cell_of_row w4 nb 0 _ _ _ hx4
    have d1 := cell_of_row w4 nb 1 _ _ _ hx4
    have d2 := cell_of_row w4 nb 2 _ _ _ hx4
    have d3 := cell_of_row w4 nb 3 _ _ _ hx4
    have d4 := cell_of_row w4 nb 4 _ _ _ hx4
    have hbs := heap_lt hx4
    have HTU := Lib.hid (turned_any m _ a how x _ _ w4 HV4.out.slf hml (HX1.out.ext (HE1.out.trans HE4.out)) (HX2.out.ext (HE1.out.trans HE4.out)))
    have hxs := HXB.out
    clear hx4
    go_upto_block 0 with (go_at_call 13; go_loud (refine HTU.out.mono ?_; rintro e w5 ⟨v5, m5, rfl, hE5, hv5, hl5, hs5⟩; obtain ⟨A5, c5, rfl, hc5, -⟩ := hv5.form2; have HV5 := Lib.hid hv5; have HE5 := Lib.hid hE5; clear hv5 hE5))
    have HS5 := Lib.hid (show FM.szs m5 ≤ 1000000000 by unfold FM.sz at hs5; omega)
    have hE6 := (Ext.refl w5).alloc (.cells #[.slice Al n0 cl, .slice Am m.length cm, .slice A5 m5.length c5] 32)
    have HE6 := Lib.hid (HE4.out.trans (HE5.out.trans hE6))
    obtain ⟨nb3, hnb3⟩ : ∃ nb3, nb3 = w5.heap.size := ⟨_, rfl⟩
    have HCL := Lib.hid (show ∀ k, k < 3 → ∃ (A : Option Addr) (n c : Nat) (q : List FM.Form), (w5.alloc (.cells #[.slice Al n0 cl, .slice Am m.length cm, .slice A5 m5.length c5] 32)).cell? ⟨nb3, k, none⟩ = some (.slice A n c) ∧ SlF (w5.alloc (.cells #[.slice Al n0 cl, .slice Am m.length cm, .slice A5 m5.length c5] 32)) (.slice A n c) q ∧ FM.szs q ≤ 1000000000 from by
      intro k hk
      have hcell := fun k => cell_of_row _ nb3 k _ _ _ (show (w5.alloc (.cells #[.slice Al n0 cl, .slice Am m.length cm, .slice A5 m5.length c5] 32)).heap[nb3]? = _ by rw [hnb3]; exact heap_alloc_new w5 _)
      match k, hk with
      | 0, _ => exact ⟨_, _, _, l0, hcell 0, HL0.out.ext HE6.out, HSZ0.out⟩
      | 1, _ => exact ⟨_, _, _, m, hcell 1, (HV4.out.slf).ext (HE5.out.trans hE6), by omega⟩
      | 2, _ => exact ⟨_, _, _, m5, hcell 2, HV5.out.ext hE6, HS5.out⟩)
    rw [← hnb3]
    clear hE6 d0 d1 d2 d3 d4 hbs hs5 hnb3 hl5
    generalize w5.alloc (.cells #[.slice Al n0 cl, .slice Am m.length cm, .slice A5 m5.length c5] 32) = w6 at HCL HE6 ⊢
    have HKN := Lib.hid known11_any
    go_wp2_with fail
    go_loopw [47] (fun x wr => ∃ k : Nat, k ≤ 3 ∧ x = .int .i64 (k : Int) ∧ Ext w6 wr) (fun x _ => 3 - (intOf x).toNat)
    case atStart => exact ⟨0, by omega, rfl, Ext.refl _⟩
    case round =>
      obtain ⟨k, hk, rfl, hE⟩ := hrel
      have HE := Lib.hid hE
      by_cases hlt : k < 3
      rotate_left
      · clear hE
        go_wp2_with (go_at_call 11; go_loud (refine (HKN.out _).mono ?_; rintro e w9 ⟨rfl, hE9⟩))
        go_ret
        exact ⟨rfl, (((HE1.out.trans HE6.out).trans HE.out)).trans hE9⟩
      obtain ⟨Aq, nq, cq, q, hcq, hvq, hsq⟩ := HCL.out k hlt
      have hc := hE.cell hcq
      have hgl := World.block_lt_of_cell? _ _ hc
      have HQ := Lib.hid (hvq.ext hE)
      have HP1 := Lib.hid ((print2_any q _ wr (hvq.ext hE) (by omega)).mono fun _ _ h => h.all)
      have HP2 := Lib.hid (fun W (hW : Ext wr W) => (rprint_any q _ W ((hvq.ext hE).ext hW) hsq).mono fun _ _ h => h.all)
      have HM1 := Lib.hid (fun W (hW : Ext wr W) => may2_any q _ W ((hvq.ext hE).ext hW))
      have HM2 := Lib.hid (fun W (hW : Ext wr W) => rmayform_any q _ W ((hvq.ext hE).ext hW))
      obtain ⟨Aq', cq', hq', -⟩ := hvq.form2
      injection hq' with e1 e2 e3
      subst e1 e2 e3
      clear hE hcq hvq hsq
      generalize prL q = p at HP1 HP2
      generalize FM.may q = bm at HP1 HP2 HM1 HM2
      have hbb : (bm != bm) = false := by cases bm <;> rfl
      have HD := Lib.hid (show decide (p = p) = true by simp)
      go_upto_region 10 with (first
        | (go_at_call 14; go_loud (refine HP1.out.mono ?_; rintro e w7 ⟨hE7, A7, c7, rfl, hv7⟩; have HE7 := Lib.hid hE7; have HV7 := Lib.hid hv7; clear hE7 hv7))
        | (go_at_call 15; go_loud (refine (HP2.out _ HE7.out).mono ?_; rintro e w8 ⟨hE8, A8, c8, rfl, hv8⟩; have HE8 := Lib.hid hE8; have HV8 := Lib.hid hv8; clear hE8 hv8)))
      have HSM := Lib.hid (fun W (hW : Ext w8 W) => same_any _ _ p p W ((SlB.slc HV7.out).ext (HE8.out.trans hW)) ((SlB.slc HV8.out).ext hW))
      have HEX := Lib.hid (Ext.refl w8)
      go_cut [76] (fun s76 wx => s76 = .bool false ∧ Ext w8 wx)
      case first =>
        go_wp2_with (first
          | (go_at_call 16; go_loud (refine (HM1.out _ ((HE7.out.trans HE8.out).trans HEX.out)).mono ?_; rintro e w9 ⟨rfl, hx⟩; have HEX := Lib.hid (HEX.out.trans hx); clear hx))
          | (go_at_call 17; go_loud (refine (HM2.out _ ((HE7.out.trans HE8.out).trans HEX.out)).mono ?_; rintro e w10 ⟨rfl, hx⟩; have HEX := Lib.hid (HEX.out.trans hx); clear hx))
          | (go_at_call 18; go_loud (refine (HSM.out _ HEX.out).mono ?_; rw [HD.out]; rintro e w11 ⟨rfl, hx⟩; have HEX := Lib.hid (HEX.out.trans hx); clear hx)))
        go_meet
        exact ⟨rfl, HEX.out⟩
      case rest =>
        obtain ⟨rfl, hE9⟩ := hcut
        have HE9 := Lib.hid hE9
        have HSH := Lib.hid (Shp.of (T := w7.heap.size) (HV7.out.keepB (keepsB_c _) (fun _ _ _ ho => (HE8.out.trans hE9).heap ho)) HV7.out.blo)
        clear hE9
        go_wp2_with (go_at_call 19; go_loud (refine (kspoil_any _ _ _ _ HSH.out).mono ?_; rintro e w12 ⟨rfl, hsp⟩; have HSP := Lib.hid hsp; clear hsp))
        go_roundw
        case rel => exact ⟨k + 1, by omega, by go_num, Rng.ext (((HE.out.trans HE7.out).trans HE8.out).trans HE9.out) HSP.out.rng HE.out.size⟩
        case measure => simp [intOf]; omega
end Go.Proofs.YtfblkahjefdmaaaDoor
