/- Walk: same of law 10. -/
import Derived.Test.YtfblkahjefdmaaaGreatRmE
import Derived.Test.YtfblkahjefdmaaaGreatRmF
import Derived.Test.YtfblkahjefdmaaaGreatMc
import Derived.Test.YtfblkahjefdmaaaGreatSa
namespace Go.Proofs.YtfblkahjefdmaaaGreat
open Go.RowKit

def FindX (r : Option (List Int)) (w : World) (e : Ending) (w' : World) : Prop := Ext w w' ∧ match r with
  | some r' => ∃ v, e = .returned (.tuple #[v, .bool true]) ∧ NtS w w' v r'
  | none => e = .returned (.tuple #[.slice none 0 0, .bool false])
def AllX (L : List (List Int)) (w : World) (e : Ending) (w' : World) : Prop := Ext w w' ∧ ∃ v, e = .returned v ∧ SlB 39 1 (Cn w) w.heap.size w' v L
set_option maxHeartbeats 400000 in
theorem mfind_long (mb n cs : Nat) (As : Option Addr) (k : Int) (w : World) (hn : 1000 < n) : Calls Tryz.prog 12 #[.pointer (some ⟨mb, 0, none⟩), .slice As n cs, .int .i64 k] w (Ret (.tuple #[.slice none 0 0, .bool false]) w) := by
  have d1 : decide ((1000 : Int) < (n : Int)) = true := by simp; omega
  go_enter Tryz.func12, Tryz.ntmps12
  go_wp2_with fail
  refine bodyPost_ret (v := .tuple #[.slice none 0 0, .bool false]) (by simp [results, Tryz.results12, go_sem]) rfl ?_
  exact ⟨rfl, Ext.refl _⟩
set_option maxHeartbeats 400000 in
theorem rfind_long (mb n cs : Nat) (As : Option Addr) (k : Int) (w : World) (hn : 1000 < n) : Calls Tryz.prog 13 #[.pointer (some ⟨mb, 0, none⟩), .slice As n cs, .int .i64 k] w (Ret (.tuple #[.slice none 0 0, .bool false]) w) := by
  have d1 : decide ((1000 : Int) < (n : Int)) = true := by simp; omega
  go_enter Tryz.func13, Tryz.ntmps13
  go_wp2_with fail
  refine bodyPost_ret (v := .tuple #[.slice none 0 0, .bool false]) (by simp [results, Tryz.results13, go_sem]) rfl ?_
  exact ⟨rfl, Ext.refl _⟩
set_option maxHeartbeats 400000 in
theorem mall_long (mb n cs : Nat) (As : Option Addr) (w : World) (hn : 1000 < n) : Calls Tryz.prog 14 #[.pointer (some ⟨mb, 0, none⟩), .slice As n cs] w (AllX [] w) := by
  have d1 : decide ((0 : Int) ≤ (n : Int)) = true := by simp
  go_enter Tryz.func14, Tryz.ntmps14
  go_wp2_with fail
  go_loopw [5, 6] (fun x5 x6 wr => x5 = .slice none 0 0 ∧ x6 = .int .i64 0 ∧ wr = w) (fun _ _ _ => 0)
  case atStart => exact ⟨rfl, rfl, rfl⟩
  case round =>
    obtain ⟨rfl, rfl, rfl⟩ := hrel
    go_wp2_with (go_at_call 12; go_loud (refine (mfind_long mb n cs As 0 _ hn).mono ?_; rintro e2 w2 ⟨rfl, hx2⟩))
    go_ret
    exact ⟨hx2, _, rfl, SlB.nil_⟩
set_option maxHeartbeats 400000 in
theorem rall_long (mb n cs : Nat) (As : Option Addr) (w : World) (hn : 1000 < n) : Calls Tryz.prog 15 #[.pointer (some ⟨mb, 0, none⟩), .slice As n cs] w (AllX [] w) := by
  have d1 : decide ((0 : Int) ≤ (n : Int)) = true := by simp
  go_enter Tryz.func15, Tryz.ntmps15
  go_wp2_with fail
  go_loopw [5, 6] (fun x5 x6 wr => x5 = .slice none 0 0 ∧ x6 = .int .i64 0 ∧ wr = w) (fun _ _ _ => 0)
  case atStart => exact ⟨rfl, rfl, rfl⟩
  case round =>
    obtain ⟨rfl, rfl, rfl⟩ := hrel
    go_wp2_with (go_at_call 13; go_loud (refine (rfind_long mb n cs As 0 _ hn).mono ?_; rintro e2 w2 ⟨rfl, hx2⟩))
    go_ret
    exact ⟨hx2, _, rfl, SlB.nil_⟩

set_option maxHeartbeats 400000 in
/-- SameInts of two that are one: nothing but draws. -/
theorem sameInts_q (va vb : Value) (xs : List Int) (w : World) (hx : SlI w va xs) (hy : SlI w vb xs) :
    Calls Tryz.prog 17 #[va, vb] w (RetD (.bool true) w) := by
  have HX := Lib.hid hx
  have HY := Lib.hid hy
  obtain ⟨A, ca, rfl, hlx, hcx, _⟩ := hx
  obtain ⟨B, cb, rfl, hly, hcy, _⟩ := hy
  have hb1 : ((xs.length : Int) != xs.length) = false := by simp
  go_enter Tryz.func17, Tryz.ntmps17
  go_wp2_with fail
  go_loopw [5] (fun i wr => ∃ k n : Nat, k ≤ xs.length ∧ i = .int .i64 k ∧ wr = w.drewN n) (fun i _ => xs.length - (intOf i).toNat)
  case atStart => exact ⟨0, 0, Nat.zero_le _, rfl, rfl⟩
  case round =>
    obtain ⟨k, n, hk, rfl, rfl⟩ := hrel
    by_cases hlt : k < xs.length
    · obtain ⟨b, o, rfl, hc⟩ := HX.out.at_ hlt
      obtain ⟨b', o', rfl, hc'⟩ := HY.out.at_ hlt
      have hb2 : (xs[k] != xs[k]) = false := by simp
      go_wp2_with fail
      go_quiet (fail)
      go_wp2_with fail
      go_roundw
      case rel => exact ⟨k + 1, _, by omega, by go_num, rfl⟩
      case measure => simp [intOf]; omega
    · go_wp2_with fail
      go_ret
      exact ⟨rfl, _, rfl⟩
theorem mgroups_q (w : World) (mb : Nat) (g : Nat) (c1 : w.cell? ⟨mb, 1, none⟩ = some (.int .i64 (g : Int))) : Calls Tryz.prog 16 #[.pointer (some ⟨mb, 0, none⟩)] w (RetD (.int .i64 (g : Int)) w) := by
  go_enter Tryz.func16, Tryz.ntmps16
  go_wp2_with fail
  go_ret
  exact ⟨rfl, 0, rfl⟩
theorem NtS.slq {w w' : World} {v : Value} {r : List Int} (h : NtS w w' v r) (hl : r.length ≤ 1000000) : SlI w' v r := by
  obtain ⟨nb, rfl, -, hh⟩ := h
  exact ⟨some ⟨nb, 0, none⟩, _, rfl, Nat.le_refl _, by omega, fun k x hx => ⟨nb, 0, rfl, by
    show w'.cell? ⟨nb, 0 + k * 1, none⟩ = _
    rw [Nat.mul_one, Nat.zero_add]
    exact cell_note hh hx⟩, by intro h; cases h⟩
/-- Both matchers find the same. -/
structure Twin (s : List Int) (fold : Bool) (k : Nat) (l : List PG.Inst) (g : Nat) (r : Option (List Int)) (L : List (List Int)) : Prop where
  f1 : ∀ (w : World) (mb : Nat) (vp sv : Value), Mtc w mb vp l g fold → SlC w sv s → Calls Tryz.prog 12 #[.pointer (some ⟨mb, 0, none⟩), sv, .int .i64 (k : Int)] w (FindX r w)
  f2 : ∀ (w : World) (mb : Nat) (vp sv : Value), Rmt w mb vp l g fold → SlC w sv s → Calls Tryz.prog 13 #[.pointer (some ⟨mb, 0, none⟩), sv, .int .i64 (k : Int)] w (FindX r w)
  a1 : ∀ (w : World) (mb : Nat) (vp sv : Value), Mtc w mb vp l g fold → SlC w sv s → Calls Tryz.prog 14 #[.pointer (some ⟨mb, 0, none⟩), sv] w (AllX L w)
  a2 : ∀ (w : World) (mb : Nat) (vp sv : Value), Rmt w mb vp l g fold → SlC w sv s → Calls Tryz.prog 15 #[.pointer (some ⟨mb, 0, none⟩), sv] w (AllX L w)
  rl : ∀ r', r = some r' → r'.length ≤ 1000000
  ll : L.length ≤ 1000000
  le : ∀ r' ∈ L, r'.length ≤ 1000000
theorem made_facts {s : List Int} {l : List PG.Inst} (hR : PG.compile s = (l, 0, 0)) : ∃ t e, RX.parse s = (t, 0, 0) ∧ PG.Made l (RX.groups t) e ∧ (∀ x ∈ l, x.set.length ≤ 1000) ∧ RX.groups t ≤ 200 := by
  obtain ⟨t, k, hp, hmade, hl, hn, -⟩ := PG.compile_made hR
  refine ⟨t, k, hp, hmade, ?_, ?_⟩
  · obtain ⟨b, hw, -⟩ := RX.parse_wf hp
    have hb := (RX.wf_base hw).le
    have hok := PG.tree_wf (g := b.toNat) hw (Int.le_refl _) (by omega) 0 t.length (Nat.le_refl _)
    rw [lift_zero] at hok
    rw [hl]
    exact (PG.whole_made (RX.parse_sms hp) hok hn).2.1
  · have h1 := (RX.parse_few hp).1
    have h2 : RX.groups t ≤ t.length := by unfold RX.groups; exact List.length_filter_le _ _
    omega
def NewOk1 (l : List PG.Inst) (g : Nat) (fold : Bool) (w : World) (e : Ending) (w' : World) : Prop := Ext w w' ∧ ∃ mb vp, e = .returned (.tuple #[.pointer (some ⟨mb, 0, none⟩), .agg #[.int .i64 0, .int .i64 0]]) ∧ Mtc w' mb vp l g fold ∧ w.heap.size ≤ mb ∧ InsS (w.heap.size ≤ ·) w' vp l
def NewOk2 (l : List PG.Inst) (g : Nat) (fold : Bool) (w : World) (e : Ending) (w' : World) : Prop := Ext w w' ∧ ∃ mb vp, e = .returned (.tuple #[.pointer (some ⟨mb, 0, none⟩), .agg #[.int .i64 0, .int .i64 0]]) ∧ Rmt w' mb vp l g fold ∧ w.heap.size ≤ mb ∧ InsS (w.heap.size ≤ ·) w' vp l
theorem mnew_ok1 {s : List Int} {l : List PG.Inst} {t : List RX.ReN} (hR : PG.compile s = (l, 0, 0)) (hP : RX.parse s = (t, 0, 0)) (fold : Bool) (v : Value) (w : World) (hv : SlC w v s) : Calls Tryz.prog 8 #[v, .bool fold] w (NewOk1 l (RX.groups t) fold w) := by
  refine (mnew_any s fold v w hv).mono ?_
  rintro e w' ⟨hx, h⟩
  rw [hR] at h
  rcases h with ⟨h, -⟩ | ⟨l', t', k, mb, vp, h1, h2, -, -, -, rfl, h3, h4, h5⟩
  · exact absurd rfl h
  · injection h1 with h1 _
    subst h1
    rw [hP] at h2
    injection h2 with h2 _
    subst h2
    exact ⟨hx, mb, vp, rfl, h3, h4, h5⟩
theorem rnew_ok1 {s : List Int} {l : List PG.Inst} {t : List RX.ReN} (hR : PG.compile s = (l, 0, 0)) (hP : RX.parse s = (t, 0, 0)) (fold : Bool) (v : Value) (w : World) (hv : SlC w v s) (hok : PG.okp s = true) : Calls Tryz.prog 9 #[v, .bool fold] w (NewOk2 l (RX.groups t) fold w) := by
  refine (rnew_any s fold v w hv hok).mono ?_
  rintro e w' ⟨hx, h⟩
  rw [hR] at h
  rcases h with ⟨h, -⟩ | ⟨l', t', k, mb, vp, h1, h2, -, -, -, rfl, h3, h4, h5⟩
  · exact absurd rfl h
  · injection h1 with h1 _
    subst h1
    rw [hP] at h2
    injection h2 with h2 _
    subst h2
    exact ⟨hx, mb, vp, rfl, h3, h4, h5⟩
theorem InsS.rng {B T b : Nat} {w w' : World} {v : Value} {l : List PG.Inst} (h : InsS (b ≤ ·) w v l) (hb : T ≤ b) (hr : Rng B T w w') : InsS (fun _ => True) w' v l :=
  h.keep fun g o u hg hc => ⟨trivial, by
    have hl : g < w.heap.size := World.block_lt_of_cell? w _ hc
    rw [cell_heap (hr.out g hl (by have hg : b ≤ g := hg; omega))]; exact hc⟩
theorem Mtc.rng {B T b mb g : Nat} {w w' : World} {vp : Value} {l : List PG.Inst} {fold : Bool} (h : Mtc w mb vp l g fold) (hi : InsS (b ≤ ·) w vp l) (hb : T ≤ b) (hm : T ≤ mb) (hr : Rng B T w w') : Mtc w' mb vp l g fold :=
  ⟨(hr.out mb (heap_lt h.box) (by omega)).trans h.box, hi.rng hb hr⟩
theorem Rmt.rng {B T b mb g : Nat} {w w' : World} {vp : Value} {l : List PG.Inst} {fold : Bool} (h : Rmt w mb vp l g fold) (hi : InsS (b ≤ ·) w vp l) (hb : T ≤ b) (hm : T ≤ mb) (hr : Rng B T w w') : Rmt w' mb vp l g fold :=
  ⟨(hr.out mb (heap_lt h.box) (by omega)).trans h.box, hi.rng hb hr⟩
/-- The front of a row may be written over. -/
theorem shp_front {B : Nat} {w : World} {g c m : Nat} {xs : List Int} (h : SlB 21 1 Cc B w (.slice (some ⟨g, 0, none⟩) m c) xs) {n : Nat} (hn : n ≤ xs.length) : Shp B w.heap.size w (.slice (some ⟨g, 0, none⟩) n c) := by
  obtain ⟨A, n', c', e, hl, hc, hz, ha⟩ := Shp.of h
  injection e with e1 e2 e3
  subst e1 e2 e3
  obtain ⟨A', c'', hv, hlc, -⟩ := h
  injection hv with v1 v2 v3
  exact ⟨_, n, _, rfl, by omega, hc, (fun e => nomatch e), fun ad had => by
    obtain ⟨g', o, cur, h1, h2, h3, h4, h5⟩ := ha ad had
    exact ⟨g', o, cur, h1, h2, h3, h4, by omega⟩⟩
theorem Shp.extT {B T : Nat} {w w' : World} {v : Value} (h : Shp B T w v) (hx : Ext w w') : Shp B T w' v := h.spo fun _ cur hg => ⟨cur, hx.heap hg, rfl⟩
set_option maxRecDepth 100000 in
set_option maxHeartbeats 1000000 in
theorem same10_core (p s : List Int) (k : Nat) (fold : Bool) (vp vs : Value) (w : World) (hp : SlC w vp p) (hs : SlC w vs s) (hpl : p.length ≤ 1000000) (hsl : s.length ≤ 1000000) (hok : PG.okp p = true)
    (htw : ∀ l t e, PG.compile p = (l, 0, 0) → RX.parse p = (t, 0, 0) → PG.Made l (RX.groups t) e → (∀ x ∈ l, x.set.length ≤ 1000) → RX.groups t ≤ 200 → ∃ r L, Twin s fold k l (RX.groups t) r L) :
    Calls Tryz.prog 4 #[vp, vs, .int .i64 (k : Int), .bool fold] w (Ret (.bool true) w) := by
  have HP := Lib.hid hp
  have HS := Lib.hid hs
  obtain ⟨Ap, cp, rfl, -⟩ := id hp
  obtain ⟨As, cs, rfl, -⟩ := id hs
  have HOK := Lib.hid hok
  have HTW := Lib.hid htw
  have hpl2 : p.length ≤ 35184372088000 := by omega
  have hsl2 : s.length ≤ 35184372088000 := by omega
  clear hp hs hok htw
  go_enter Tryz.func4, Tryz.ntmps4
  go_upto_region 2 with (first
    | (go_at_call 7; go_loud (refine (lend_any s _ w1 (HS.out.ext HX1.out) hsl2).mono ?_; rintro e w2 ⟨hx, gy, cy, rfl, hcy, hown⟩; have HX2 := Lib.hid hx; have HY2 := Lib.hid hown.sl; clear hx hown))
    | (go_at_call 7; go_loud (refine (lend_any p _ w HP.out hpl2).mono ?_; rintro e w1 ⟨hx, gx, cx, rfl, hcx, hown⟩; have HX1 := Lib.hid hx; have HW1 := Lib.hid hown.sl; clear hx hown)))
  have HSP2 := Lib.hid (SlC.front (xs := p) (SlB.slc (by simpa using HW1.out.keep (keeps_c []) (fun _ _ _ h => by cases h) (KeepT.of_ext HX2.out))))
  obtain ⟨R, hR⟩ : ∃ R, PG.compile p = R := ⟨_, rfl⟩
  obtain ⟨l, code, bat⟩ := R
  have HR := Lib.hid hR
  have HN1 := Lib.hid (mnew_any p fold _ w2 HSP2.out)
  unfold NewP at HN1
  rw [hR] at HN1
  by_cases hc : code = 0
  rotate_left
  · -- no pattern
    have HN2 := Lib.hid (fun w' (h : Ext w w') => (rnew_any p fold _ w' (HP.out.ext h) HOK.out).mono (by
      rintro e w9 ⟨hx9, h9⟩
      rw [hR] at h9
      rcases h9 with ⟨-, h9⟩ | ⟨l', t', k', mb', vp', h9, -⟩
      · exact (⟨hx9, h9⟩ : Ext w' w9 ∧ e = .returned (.tuple #[.pointer none, .agg #[.int .i64 code, .int .i64 bat]]))
      · injection h9 with _ h9
        injection h9 with h9 _
        exact absurd h9 hc))
    have HN3 := Lib.hid (HN1.out.mono (by
      rintro e w9 ⟨hx9, h9⟩
      rcases h9 with ⟨-, h9⟩ | ⟨l', t', k', mb', vp', h9, -⟩
      · exact (⟨hx9, h9⟩ : Ext w2 w9 ∧ e = .returned (.tuple #[.pointer none, .agg #[.int .i64 code, .int .i64 bat]]))
      · injection h9 with _ h9
        injection h9 with h9 _
        exact absurd h9 hc))
    clear hR hc HN1
    go_upto_region 3 with (go_at_call 8; go_loud (refine HN3.out.mono ?_; rintro e w3 ⟨hx, rfl⟩; have HX3 := Lib.hid hx; clear hx))
    have HX4 := Lib.hid (show Ext w3 (w3.alloc (.cells #[.int .i64 code, .int .i64 bat] 31)) from (Ext.refl _).alloc _)
    have HB4 := Lib.hid (heap_alloc_new w3 (.cells #[.int .i64 code, .int .i64 bat] 31))
    obtain ⟨f3, hf3⟩ : ∃ x, w3.heap.size = x := ⟨_, rfl⟩
    rw [hf3] at HB4 ⊢
    generalize w3.alloc _ = w4 at HX4 HB4 ⊢
    clear hf3
    have HE4 := Lib.hid (HX2.out.trans (HX3.out.trans HX4.out))
    go_upto_region 4 with (go_at_call 9; go_loud (refine (HN2.out _ (HX1.out.trans HE4.out)).mono ?_; rintro e w5 ⟨hx, rfl⟩; have HX5 := Lib.hid hx; clear hx))
    have HX6 := Lib.hid (show Ext w5 (w5.alloc (.cells #[.int .i64 code, .int .i64 bat] 31)) from (Ext.refl _).alloc _)
    have HB6 := Lib.hid (heap_alloc_new w5 (.cells #[.int .i64 code, .int .i64 bat] 31))
    obtain ⟨f5, hf5⟩ : ∃ x, w5.heap.size = x := ⟨_, rfl⟩
    rw [hf5] at HB6 ⊢
    generalize w5.alloc _ = w6 at HX6 HB6 ⊢
    clear hf5
    have HE6 := Lib.hid (HX5.out.trans HX6.out)
    have HB4' := Lib.hid (HE6.out.heap HB4.out)
    have a0 := cell_of_row _ f3 0 _ _ _ HB4'.out
    have a1 := cell_of_row _ f3 1 _ _ _ HB4'.out
    have b0 := cell_of_row _ f5 0 _ _ _ HB6.out
    have b1 := cell_of_row _ f5 1 _ _ _ HB6.out
    have HE16 := Lib.hid (HE4.out.trans HE6.out)
    go_wp2_with (go_at_call 10; go_loud (refine (kept_any p _ _ gx cx w6 (HP.out.ext (HX1.out.trans HE16.out)) (HW1.out.keep (keeps_c []) (fun _ _ _ h => by cases h) (KeepT.of_ext HE16.out))).mono ?_; rintro e w7 ⟨rfl, hx⟩; have HX7 := Lib.hid hx; clear hx))
    go_ret
    exact ⟨rfl, HX1.out.trans (HE16.out.trans HX7.out)⟩
  subst hc
  obtain ⟨t, e9, hpt, hmade, -, -, hbat⟩ := PG.compile_made hR
  subst hbat
  clear hmade hpt
  obtain ⟨t, e9, hpt, hmade, hset, hgr⟩ := made_facts hR
  obtain ⟨r, L, htw⟩ := HTW.out l t e9 hR hpt hmade hset hgr
  have HT := Lib.hid htw
  have hrl := htw.rl
  have hll := htw.ll
  have HM1 := Lib.hid (mnew_ok1 hR hpt fold _ w2 HSP2.out)
  have HM2 := Lib.hid (fun w' (h : Ext w w') => rnew_ok1 hR hpt fold _ w' (HP.out.ext h) HOK.out)
  have hg2 : RX.groups t ≤ 200 := hgr
  generalize RX.groups t = g at HM1 HM2 HT hg2
  clear hR hpt hmade hset hgr htw HN1 HTW HR
  go_upto_region 3 with (go_at_call 8; go_loud (refine HM1.out.mono ?_; rintro e w3 ⟨hx, mb, vp1, rfl, hmt, hmb, hins⟩; have HX3 := Lib.hid hx; have HA1 := Lib.hid hmt; have HA2 := Lib.hid hmb; have HA3 := Lib.hid hins; clear hx hmt hmb hins))
  have HX4 := Lib.hid (show Ext w3 (w3.alloc (.cells #[.int .i64 0, .int .i64 0] 31)) from (Ext.refl _).alloc _)
  have HB4 := Lib.hid (heap_alloc_new w3 (.cells #[.int .i64 0, .int .i64 0] 31))
  obtain ⟨f3, hf3⟩ : ∃ x, w3.heap.size = x := ⟨_, rfl⟩
  rw [hf3] at HB4 ⊢
  generalize w3.alloc _ = w4 at HX4 HB4 ⊢
  clear hf3
  have HE4 := Lib.hid (HX2.out.trans (HX3.out.trans HX4.out))
  go_upto_region 4 with (go_at_call 9; go_loud (refine (HM2.out _ (HX1.out.trans HE4.out)).mono ?_; rintro e w5 ⟨hx, rb, vp2, rfl, hmt, hmb, hins⟩; have HX5 := Lib.hid hx; have HR1 := Lib.hid hmt; have HR2 := Lib.hid hmb; have HR3 := Lib.hid hins; clear hx hmt hmb hins))
  have HX6 := Lib.hid (show Ext w5 (w5.alloc (.cells #[.int .i64 0, .int .i64 0] 31)) from (Ext.refl _).alloc _)
  have HB6 := Lib.hid (heap_alloc_new w5 (.cells #[.int .i64 0, .int .i64 0] 31))
  obtain ⟨f5, hf5⟩ : ∃ x, w5.heap.size = x := ⟨_, rfl⟩
  rw [hf5] at HB6 ⊢
  generalize w5.alloc _ = w6 at HX6 HB6 ⊢
  clear hf5
  have HE6 := Lib.hid (HX5.out.trans HX6.out)
  have HB4' := Lib.hid (HE6.out.heap HB4.out)
  have a0 := cell_of_row _ f3 0 _ _ _ HB4'.out
  have a1 := cell_of_row _ f3 1 _ _ _ HB4'.out
  have b0 := cell_of_row _ f5 0 _ _ _ HB6.out
  have b1 := cell_of_row _ f5 1 _ _ _ HB6.out
  have HE16 := Lib.hid (HE4.out.trans HE6.out)
  go_upto_region 8 with (go_at_call 10; go_loud (refine (kept_any p _ _ gx cx w6 (HP.out.ext (HX1.out.trans HE16.out)) (HW1.out.keep (keeps_c []) (fun _ _ _ h => by cases h) (KeepT.of_ext HE16.out))).mono ?_; rintro e w7 ⟨rfl, hx⟩; have HX7 := Lib.hid hx; clear hx))
  have HE27 := Lib.hid (HX3.out.trans (HX4.out.trans (HE6.out.trans HX7.out)))
  have HSH := Lib.hid (Shp.extT (shp_front HW1.out (n := p.length) (by simp)) (HX2.out.trans HE27.out))
  clear a0 a1 b0 b1
  go_upto_region 9 with (go_at_call 11; go_loud (refine (kspoil_any w.heap.size w1.heap.size _ _ HSH.out).mono ?_; rintro e w8 ⟨rfl, hsp⟩; have HRG := Lib.hid hsp.rng; clear hsp))
  have HM8 := Lib.hid (Mtc.rng (T := w1.heap.size) (HA1.out.ext (HX4.out.trans (HE6.out.trans HX7.out))) (HA3.out.keep (HX4.out.trans (HE6.out.trans HX7.out)).keepS) HX2.out.size (Nat.le_trans HX2.out.size HA2.out) HRG.out)
  have HR8 := Lib.hid (Rmt.rng (T := w1.heap.size) (HR1.out.ext (HX6.out.trans HX7.out)) (HR3.out.keep (HX6.out.trans HX7.out).keepS) (Nat.le_trans HX2.out.size (Nat.le_trans HX3.out.size HX4.out.size)) (Nat.le_trans (Nat.le_trans HX2.out.size (Nat.le_trans HX3.out.size HX4.out.size)) HR2.out) HRG.out)
  have HE8 := Lib.hid (Rng.ext (HX1.out.trans (HX2.out.trans HE27.out)) HRG.out (Nat.le_refl _))
  have HY8 := Lib.hid ((HY2.out.keep (keeps_c []) (fun _ _ _ h => by cases h) (KeepT.of_ext HE27.out)).keepB (keepsB_c _) HRG.out.keepB)
  have HS8 := Lib.hid (HS.out.ext HE8.out)
  have HYC := Lib.hid (SlC.front (xs := s) (SlB.slc (by simpa using HY8.out)))
  clear HA1 HA2 HA3 HR1 HR2 HR3 HSH HM1 HM2 HW1 HY2
  cases r with
  | none =>
    go_upto_region 10 with (go_at_call 12; go_loud (refine (HT.out.f1 w8 mb vp1 _ HM8.out HYC.out).mono ?_; rintro e w9 ⟨hx, h9⟩; subst h9; have HX9 := Lib.hid hx; clear hx))
    go_upto_region 11 with (go_at_call 13; go_loud (refine (HT.out.f2 w9 rb vp2 _ (HR8.out.ext HX9.out) (HS8.out.ext HX9.out)).mono ?_; rintro e w10 ⟨hx, h9⟩; subst h9; have HX10 := Lib.hid hx; clear hx))
    have HE10 := Lib.hid (HX9.out.trans HX10.out)
    go_upto_region 12 with (first
      | (go_at_call 15; go_loud (refine (HT.out.a2 w11 rb vp2 _ (HR8.out.ext (HE10.out.trans HX11.out)) (HS8.out.ext (HE10.out.trans HX11.out))).mono ?_; rintro e w12 ⟨hx, v12, rfl, h12⟩; have HX12 := Lib.hid hx; have HK12 := Lib.hid h12; obtain ⟨Ak, ck, rfl, -⟩ := h12.form; clear hx h12))
      | (go_at_call 14; go_loud (refine (HT.out.a1 w10 mb vp1 _ (HM8.out.ext HE10.out) (HYC.out.ext HE10.out)).mono ?_; rintro e w11 ⟨hx, v11, rfl, h11⟩; have HX11 := Lib.hid hx; have HL11 := Lib.hid h11; obtain ⟨Al, cl, rfl, -⟩ := h11.form; clear hx h11)))
    have HE12 := Lib.hid (HX11.out.trans HX12.out)
    have HE812 := Lib.hid (HE10.out.trans HE12.out)
    have c1 := (HR8.out.ext HE812.out).c1
    have HMC := Lib.hid ((HM8.out.ext HE812.out).c1)
    have HGQ := Lib.hid (fun n => (Calls.quiet_of (mgroups_q (w12.drewN n) mb g HMC.out) : Calls Tryz.prog 16 #[.pointer (some ⟨mb, 0, none⟩)] (w12.drewN n) fun e w'' => e = .returned (.int .i64 (g : Int)) ∧ ∃ m, w'' = w12.drewN m))
    have HSQ := Lib.hid (fun n => (Calls.quiet_of (sameInts_q _ _ [] (w12.drewN n) SlR.nil_ SlR.nil_) : Calls Tryz.prog 17 #[.slice none 0 0, .slice none 0 0] (w12.drewN n) fun e w'' => e = .returned (.bool true) ∧ ∃ m, w'' = w12.drewN m))
    go_quiet (first
      | (go_at_call 16; with_reducible exact HGQ.out _)
      | (go_at_call 17; with_reducible exact HSQ.out _))
    go_wp2_with fail
    have HE13 := Lib.hid ((Ext.refl w12).drewN nq)
    generalize w12.drewN nq = w13 at HE13 ⊢
    have HLW := Lib.hid (HL11.out.keep (keeps_n w10) (KeepT.of_ext (HX12.out.trans HE13.out)) (KeepT.of_ext (HX12.out.trans HE13.out)))
    have HKW := Lib.hid (HK12.out.keep (keeps_n w11) (KeepT.of_ext HE13.out) (KeepT.of_ext HE13.out))
    clear c1
    go_loopw [21, 110] (fun _ i wr => ∃ j n : Nat, j ≤ L.length ∧ i = .int .i64 (j : Nat) ∧ wr = w13.drewN n) (fun _ i _ => L.length - (intOf i).toNat)
    case atStart => exact ⟨0, 0, Nat.zero_le _, rfl, rfl⟩
    case round =>
      obtain ⟨j, n, hj, rfl, rfl⟩ := hrel
      by_cases hlt : j < L.length
      · obtain ⟨gl, ol, cs1, rfl, ⟨v1, rfl, hn1⟩, hc1⟩ := HLW.out.at_ hlt
        obtain ⟨gk, ok, cs2, rfl, ⟨v2, rfl, hn2⟩, hc2⟩ := HKW.out.at_ hlt
        have hle := HT.out.le _ (List.getElem_mem hlt)
        have d1 : w13.cell? ⟨gl, ol + j * 1, none⟩ = some v1 := hc1 0 _ rfl
        have d2 : w13.cell? ⟨gk, ok + j * 1, none⟩ = some v2 := hc2 0 _ rfl
        rw [Nat.mul_one] at d1 d2
        have HS1 := Lib.hid (NtS.slq hn1 hle)
        have HS2 := Lib.hid (NtS.slq hn2 hle)
        have b1 : (j : Int) < (L.length : Int) := by omega
        have b2 : decide ((j : Int) < (L.length : Int)) = true := by simp; omega
        have e1 : (w13.drewN n).cell? ⟨gl, ol + j, none⟩ = some v1 := d1
        have e2 : (w13.drewN n).cell? ⟨gk, ok + j, none⟩ = some v2 := d2
        have HSJ := Lib.hid (fun n' => (Calls.quiet_of (sameInts_q v1 v2 _ ((w13.drewN n).drewN n') (SlI.ext HS1.out (((Ext.refl _).drewN n).drewN n')) (SlI.ext HS2.out (((Ext.refl _).drewN n).drewN n'))) : Calls Tryz.prog 17 #[v1, v2] ((w13.drewN n).drewN n') fun e w'' => e = .returned (.bool true) ∧ ∃ m, w'' = (w13.drewN n).drewN m))
        clear hc1 hc2 hn1 hn2 d1 d2
        generalize hwn : w13.drewN n = wn at *
        go_wp2_with fail
        go_quiet (first
          | (go_at_call 17; with_reducible exact HSJ.out _))
        go_wp2_with fail
        go_roundw
        case rel => exact ⟨j + 1, _, by omega, by go_num, by rw [← hwn, World.drewN_drewN]⟩
        case measure => simp [intOf]; omega
      · obtain rfl : j = L.length := by omega
        have HE14 := Lib.hid (HE812.out.trans (HE13.out.drewN n))
        generalize w13.drewN n = w14 at *
        go_wp2_with fail
        go_loopw [22, 126] (fun _ i wr => i = .int .i64 0 ∧ wr = w14) (fun _ _ _ => 0)
        case atStart => exact ⟨rfl, rfl⟩
        case round =>
          obtain ⟨rfl, rfl⟩ := hrel
          go_wp2_with (go_at_call 10; go_loud (refine (kept_any s _ _ gy cy wr (HS8.out.ext HE14.out) (HY8.out.keep (keeps_c []) (fun _ _ _ h => by cases h) (KeepT.of_ext HE14.out))).mono ?_; rintro e w15 ⟨rfl, hx⟩; have HX15 := Lib.hid hx; clear hx))
          go_ret
          exact ⟨rfl, HE8.out.trans (HE14.out.trans HX15.out)⟩
  | some r' =>
    go_upto_region 10 with (go_at_call 12; go_loud (refine (HT.out.f1 w8 mb vp1 _ HM8.out HYC.out).mono ?_; rintro e w9 ⟨hx, h9⟩; obtain ⟨v9, rfl, na, rfl, hna, hh9⟩ := h9; have HNA := Lib.hid hna; have HH9 := Lib.hid hh9; have HX9 := Lib.hid hx; clear hx hna hh9))
    go_upto_region 11 with (go_at_call 13; go_loud (refine (HT.out.f2 w9 rb vp2 _ (HR8.out.ext HX9.out) (HS8.out.ext HX9.out)).mono ?_; rintro e w10 ⟨hx, h9⟩; obtain ⟨v10, rfl, nb, rfl, hnb, hh10⟩ := h9; have HH10 := Lib.hid hh10; have HX10 := Lib.hid hx; have HNB := Lib.hid hnb; clear hx hnb hh10))
    have HE10 := Lib.hid (HX9.out.trans HX10.out)
    go_upto_region 12 with (first
      | (go_at_call 15; go_loud (refine (HT.out.a2 w11 rb vp2 _ (HR8.out.ext (HE10.out.trans HX11.out)) (HS8.out.ext (HE10.out.trans HX11.out))).mono ?_; rintro e w12 ⟨hx, v12, rfl, h12⟩; have HX12 := Lib.hid hx; have HK12 := Lib.hid h12; obtain ⟨Ak, ck, rfl, -⟩ := h12.form; clear hx h12))
      | (go_at_call 14; go_loud (refine (HT.out.a1 w10 mb vp1 _ (HM8.out.ext HE10.out) (HYC.out.ext HE10.out)).mono ?_; rintro e w11 ⟨hx, v11, rfl, h11⟩; have HX11 := Lib.hid hx; have HL11 := Lib.hid h11; obtain ⟨Al, cl, rfl, -⟩ := h11.form; clear hx h11)))
    have HE12 := Lib.hid (HX11.out.trans HX12.out)
    have HE812 := Lib.hid (HE10.out.trans HE12.out)
    have c1 := (HR8.out.ext HE812.out).c1
    have HMC := Lib.hid ((HM8.out.ext HE812.out).c1)
    have HGQ := Lib.hid (fun n => (Calls.quiet_of (mgroups_q (w12.drewN n) mb g HMC.out) : Calls Tryz.prog 16 #[.pointer (some ⟨mb, 0, none⟩)] (w12.drewN n) fun e w'' => e = .returned (.int .i64 (g : Int)) ∧ ∃ m, w'' = w12.drewN m))
    have hr1 : r'.length ≤ 1000000 := hrl r' rfl
    have HSQ := Lib.hid (fun n => (Calls.quiet_of (sameInts_q _ _ r' (w12.drewN n) (SlI.ext (NtS.slq ⟨na, rfl, HNA.out, HE12.out.heap (HX10.out.heap HH9.out)⟩ hr1) ((Ext.refl _).drewN n)) (SlI.ext (NtS.slq ⟨nb, rfl, HNB.out, HE12.out.heap HH10.out⟩ hr1) ((Ext.refl _).drewN n))) : Calls Tryz.prog 17 #[.slice (some ⟨na, 0, none⟩) r'.length r'.length, .slice (some ⟨nb, 0, none⟩) r'.length r'.length] (w12.drewN n) fun e w'' => e = .returned (.bool true) ∧ ∃ m, w'' = w12.drewN m))
    go_quiet (first
      | (go_at_call 16; with_reducible exact HGQ.out _)
      | (go_at_call 17; with_reducible exact HSQ.out _))
    go_wp2_with fail
    have HE13 := Lib.hid ((Ext.refl w12).drewN nq)
    generalize w12.drewN nq = w13 at HE13 ⊢
    have HLW := Lib.hid (HL11.out.keep (keeps_n w10) (KeepT.of_ext (HX12.out.trans HE13.out)) (KeepT.of_ext (HX12.out.trans HE13.out)))
    have HKW := Lib.hid (HK12.out.keep (keeps_n w11) (KeepT.of_ext HE13.out) (KeepT.of_ext HE13.out))
    clear c1
    go_loopw [21, 110] (fun _ i wr => ∃ j n : Nat, j ≤ L.length ∧ i = .int .i64 (j : Nat) ∧ wr = w13.drewN n) (fun _ i _ => L.length - (intOf i).toNat)
    case atStart => exact ⟨0, 0, Nat.zero_le _, rfl, rfl⟩
    case round =>
      obtain ⟨j, n, hj, rfl, rfl⟩ := hrel
      by_cases hlt : j < L.length
      · obtain ⟨gl, ol, cs1, rfl, ⟨v1, rfl, hn1⟩, hc1⟩ := HLW.out.at_ hlt
        obtain ⟨gk, ok, cs2, rfl, ⟨v2, rfl, hn2⟩, hc2⟩ := HKW.out.at_ hlt
        have hle := HT.out.le _ (List.getElem_mem hlt)
        have d1 : w13.cell? ⟨gl, ol + j * 1, none⟩ = some v1 := hc1 0 _ rfl
        have d2 : w13.cell? ⟨gk, ok + j * 1, none⟩ = some v2 := hc2 0 _ rfl
        rw [Nat.mul_one] at d1 d2
        have HS1 := Lib.hid (NtS.slq hn1 hle)
        have HS2 := Lib.hid (NtS.slq hn2 hle)
        have b1 : (j : Int) < (L.length : Int) := by omega
        have b2 : decide ((j : Int) < (L.length : Int)) = true := by simp; omega
        have e1 : (w13.drewN n).cell? ⟨gl, ol + j, none⟩ = some v1 := d1
        have e2 : (w13.drewN n).cell? ⟨gk, ok + j, none⟩ = some v2 := d2
        have HSJ := Lib.hid (fun n' => (Calls.quiet_of (sameInts_q v1 v2 _ ((w13.drewN n).drewN n') (SlI.ext HS1.out (((Ext.refl _).drewN n).drewN n')) (SlI.ext HS2.out (((Ext.refl _).drewN n).drewN n'))) : Calls Tryz.prog 17 #[v1, v2] ((w13.drewN n).drewN n') fun e w'' => e = .returned (.bool true) ∧ ∃ m, w'' = (w13.drewN n).drewN m))
        clear hc1 hc2 hn1 hn2 d1 d2
        generalize hwn : w13.drewN n = wn at *
        go_wp2_with fail
        go_quiet (first
          | (go_at_call 17; with_reducible exact HSJ.out _))
        go_wp2_with fail
        go_roundw
        case rel => exact ⟨j + 1, _, by omega, by go_num, by rw [← hwn, World.drewN_drewN]⟩
        case measure => simp [intOf]; omega
      · obtain rfl : j = L.length := by omega
        have HE14 := Lib.hid (HE812.out.trans (HE13.out.drewN n))
        have HH14 := Lib.hid (show (w13.drewN n).heap[na]? = some (.cells (r'.map (Value.int .i64)).toArray 3 (0, 0)) from (HE13.out.drewN n).heap (HE12.out.heap (HX10.out.heap HH9.out)))
        generalize w13.drewN n = w14 at *
        go_wp2_with fail
        go_loopw [22, 126] (fun _ i wr => ∃ j : Nat, j ≤ r'.length ∧ i = .int .i64 (j : Nat) ∧ Ext w8 wr ∧ ∃ cur, wr.heap[na]? = some (.cells cur 3 (0, 0)) ∧ cur.size = r'.length) (fun _ i _ => r'.length - (intOf i).toNat)
        case atStart => exact ⟨0, Nat.zero_le _, rfl, HE14.out, _, HH14.out, by simp⟩
        case round =>
          obtain ⟨j, hj, rfl, hx, cur, hcur, hsz⟩ := hrel
          have HX := Lib.hid hx
          have HC := Lib.hid hcur
          have HSZ := Lib.hid hsz
          by_cases hlt : j < r'.length
          · have hjs : j < cur.size := by omega
            have c0 : wr.cell? ⟨na, j, none⟩ = some cur[j] := by rw [cell_of_row wr na j _ _ _ hcur]; exact Array.getElem?_eq_getElem hjs
            have f0 := frozen_of_row wr na j _ _ hcur
            have b1 : (j : Int) < (r'.length : Int) := by omega
            have b2 : decide ((j : Int) < (r'.length : Int)) = true := by simp; omega
            clear hx hcur hsz
            go_wp2_with fail
            go_roundw
            case rel => exact ⟨j + 1, by omega, by go_num, HX.out.set (p := ⟨na, j, none⟩) HNA.out _, _, heap_set HC.out, by simp [HSZ.out]⟩
            case measure => simp [intOf]; omega
          · obtain rfl : j = r'.length := by omega
            clear hx hcur hsz
            go_wp2_with (go_at_call 10; go_loud (refine (kept_any s _ _ gy cy wr (HS8.out.ext HX.out) (HY8.out.keep (keeps_c []) (fun _ _ _ h => by cases h) (KeepT.of_ext HX.out))).mono ?_; rintro e w15 ⟨rfl, hx⟩; have HX15 := Lib.hid hx; clear hx))
            go_ret
            exact ⟨rfl, HE8.out.trans (HX.out.trans HX15.out)⟩
end Go.Proofs.YtfblkahjefdmaaaGreat
