/- Walk: the law ReprogTargets. -/
import Derived.Test.YtfblkahjefdmaaaPgD
import Derived.Test.YtfblkahjefdmaaaPat
import Derived.Deep.CutBlock
import Derived.IntWalk
namespace Go.Proofs.Ytfblkahjefdmaaa
open Go.RowKit

set_option maxRecDepth 100000 in
set_option maxHeartbeats 4000000 in
theorem reprogTargets_any (ts : List Int) (v : Value) (w : World) (hv : SlI w v ts) : Calls Try.prog 8 #[v] w (Ret (.bool true) w) := by
  obtain ⟨A, c, rfl, hlc, hcm, _⟩ := id hv
  have he0 : Ten w w.heap.size (.slice A ts.length c) ts (w.alloc (.cells #[.slice A ts.length c, .int .i64 0] 26)) 0 :=
    ⟨hv, Nat.le_refl _, (Ext.refl w).alloc _, heap_alloc_new w _, Nat.zero_le _⟩
  have HP := Lib.hid (pat_c3 _ _ he0)
  clear he0 hv
  go_enter Try.func8, Try.ntmps8
  go_wp2_with fail
  refine HP.out.mono ?_
  rintro e w1 ⟨v1, rfl, hv1, _, ho1⟩
  have hE1 : Ext w w1 := ((Ext.refl w).alloc _).only ho1 (Nat.le_refl _)
  generalize (TP.pat ts 3 0).1 = p at hv1
  obtain ⟨A1, c1, rfl, _⟩ := hv1.form
  have HV1 := Lib.hid hv1.slc
  clear hv1 ho1 HP
  go_wp2_with fail
  refine (pcompile_any p _ _ HV1.out).mono ?_
  rintro e w2 ⟨hE2, v2, rfl, hX⟩
  obtain ⟨R, hR⟩ : ∃ R, PG.compile p = R := ⟨_, rfl⟩
  rw [hR] at hX ⊢
  obtain ⟨l, code, bat⟩ := R
  dsimp only at hX ⊢
  obtain ⟨A2, c2, rfl, hlc2, hcm2⟩ := hX.form
  have HE := Lib.hid (hE1.trans hE2)
  have HE2 := Lib.hid hE2
  have HK := Lib.hid known9_any
  by_cases hc0 : code = 0
  · subst hc0
    obtain ⟨t, e, hp, hm, -, -, hb⟩ := PG.compile_made hR
    subst hb
    obtain ⟨g9, hg9⟩ : ∃ g9, RX.groups t = g9 := ⟨_, rfl⟩
    have hg10 : g9 ≤ 200 := by
      have h1 := (RX.parse_few hp).1
      have h2 : RX.groups t ≤ t.length := by unfold RX.groups; exact List.length_filter_le _ _
      omega
    have HG := Lib.hid hg9
    rw [hg9] at hm
    have HM := Lib.hid hm
    have hlen := hm.len
    have hpos := hm.pos
    have hle := hm.le
    have HX := Lib.hid (show SlX w1.heap.size w2 (.slice A2 (e + 2) c2) l by rw [← hlen]; exact hX)
    have HPT := Lib.hid hp
    rw [hlen] at hlc2 ⊢
    obtain ⟨g, o, v0, rfl, -, -, -, h0⟩ := HX.out.atX (k := 0) (by omega)
    obtain ⟨g1, o1, v1, he, -, -, -, h1⟩ := HX.out.atX (k := e) (by omega)
    injection he with he; injection he with e1 e2; subst e1 e2
    obtain ⟨g1, o1, v2, he, -, -, -, h2⟩ := HX.out.atX (k := e + 1) (by omega)
    injection he with he; injection he with e1 e2; subst e1 e2
    have i0 : l[0]'(by omega) = ⟨3, 0, 0, false, []⟩ := by have := hm.first; rw [List.getElem?_eq_getElem (by omega)] at this; exact Option.some.inj this
    have i1 : l[e]'(by omega) = ⟨3, 1, 0, false, []⟩ := by have := hm.note; rw [List.getElem?_eq_getElem (by omega)] at this; exact Option.some.inj this
    have i2 : l[e + 1]'(by omega) = ⟨6, 0, 0, false, []⟩ := by have := hm.last; rw [List.getElem?_eq_getElem (by omega)] at this; exact Option.some.inj this
    rw [i0] at h0
    rw [i1] at h1
    rw [i2] at h2
    have q00 : w2.cell? ⟨g, o + 0 * 5 + 0, none⟩ = some (.int .i64 3) := h0 0 _ rfl
    have q01 : w2.cell? ⟨g, o + 0 * 5 + 1, none⟩ = some (.int .i64 0) := h0 1 _ rfl
    have q10 : w2.cell? ⟨g, o + e * 5 + 0, none⟩ = some (.int .i64 3) := h1 0 _ rfl
    have q11 : w2.cell? ⟨g, o + e * 5 + 1, none⟩ = some (.int .i64 1) := h1 1 _ rfl
    have q20 : w2.cell? ⟨g, o + (e + 1) * 5 + 0, none⟩ = some (.int .i64 6) := h2 0 _ rfl
    simp only [Nat.zero_mul, Nat.add_zero] at q00 q01 q10 q20
    have hY : Ext w2 (w2.alloc (.cells #[.int .i64 0, .int .i64 0] 36)) := (Ext.refl w2).alloc _
    replace q00 := hY.cell q00
    replace q01 := hY.cell q01
    replace q10 := hY.cell q10
    replace q11 := hY.cell q11
    replace q20 := hY.cell q20
    have HE3 := Lib.hid (HE.out.trans hY)
    have HX3 := Lib.hid (HX.out.ext hY)
    have HV3 := Lib.hid (HV1.out.ext (HE2.out.trans hY))
    have s1 : IntKind.i64.wrap (((e + 2 : Nat) : Int) - 2) = (e : Int) := by rw [IntWalk.i64_in _ (by omega)]; omega
    have s2 : IntKind.i64.wrap (((e + 2 : Nat) : Int) - 1) = ((e + 1 : Nat) : Int) := by rw [IntWalk.i64_in _ (by omega)]; omega
    have t1 : decide (((e + 2 : Nat) : Int) < 3) = false := by simp; omega
    have t2 : decide ((300 : Int) < ((e + 2 : Nat) : Int)) = false := by simp; omega
    have t3 : ((e : Nat) : Int).toNat = e := by omega
    have t4 : (((e + 1 : Nat) : Int)).toNat = e + 1 := by omega
    have t5 : e < e + 2 := by omega
    have t6 : e + 1 < e + 2 := by omega
    have f0 : (w2.alloc (.cells #[.int .i64 0, .int .i64 0] 36)).cell? ⟨w2.heap.size, 0, none⟩ = some (.int .i64 0) := by rw [World.cell?_alloc_new]; rfl
    have HLK := Lib.hid (fun k (hk : k < l.length) => hm.all (List.getElem?_eq_getElem hk))
    have HLN := Lib.hid hlen
    clear h0 h1 h2 i0 i1 i2 hY hX hE1 hE2 hR hp hm hg9
    have hn1 : (e : Int) < ((e + 2 : Nat) : Int) := by omega
    have hn2 : ((e + 1 : Nat) : Int) < ((e + 2 : Nat) : Int) := by omega
    have hn3 : e + 2 ≤ 300 := by omega
    generalize hn : e + 2 = n at *
    have HNE := Lib.hid hn
    clear hn hlen
    go_upto_region 3 with fail
    generalize w2.alloc _ = w3 at *
    generalize w2.heap.size = fb at *
    go_upto_region 9 with (go_at_call 22; go_loud (refine (parse_any p _ _ HV3.out).mono ?_; rintro e w4 ⟨v4, u4, rfl, ⟨hv4, rfl⟩, hE4⟩; rw [HPT.out] at hv4 ⊢; dsimp only at hv4 ⊢; have hv4f := hv4.form; have HV4 := Lib.hid hv4; have HE4 := Lib.hid hE4; clear hv4 hE4))
    obtain ⟨A4, c4, rfl, -, -⟩ := hv4f
    have HV5 := Lib.hid (SlB.keep HV4.out (keeps_re _) (KeepT.of_ext ((Ext.refl w4).alloc (.cells #[.int .i64 0, .int .i64 0] 36))) (KeepT.of_ext ((Ext.refl w4).alloc (.cells #[.int .i64 0, .int .i64 0] 36))))
    have HE5 := Lib.hid ((HE3.out.trans HE4.out).alloc (.cells #[.int .i64 0, .int .i64 0] 36))
    have HX5 := Lib.hid (HX3.out.ext (HE4.out.alloc (.cells #[.int .i64 0, .int .i64 0] 36)))
    have htl : t.length ≤ 1000000 := by have := (RX.parse_few HPT.out).1; omega
    have s5 : IntKind.i64.wrap (2 * (g9 : Int)) = 2 * (g9 : Int) := IntWalk.i64_in _ (by omega)
    have s6 : IntKind.i64.wrap (2 * (g9 : Int) + 1) = 2 * (g9 : Int) + 1 := IntWalk.i64_in _ (by omega)
    clear q00 q01 q10 q11 q20 f0 HV4 HE3 HX3 HV3 HE4
    generalize w4.alloc _ = w5 at HV5 HE5 HX5 ⊢
    go_upto_region 10 with (go_at_call 23; go_loud (refine (groups_any t _ _ _ HV5.out htl).mono ?_; rw [HG.out]; rintro e w6 ⟨rfl, hE6⟩; have HE6 := Lib.hid (HE5.out.trans hE6); have HX6 := Lib.hid (HX5.out.ext hE6); clear hE6))
    clear HV5 HE5 HX5
    go_wp2_with fail
    go_loopw [88] (fun x wr => ∃ k : Nat, k ≤ n ∧ x = .int .i64 (k : Int) ∧ Ext w wr ∧ SlX w1.heap.size wr (.slice (some ⟨g, o, none⟩) n c2) l) (fun x _ => n - (intOf x).toNat)
    case atStart => exact ⟨0, Nat.zero_le _, rfl, HE6.out, HX6.out⟩
    case round =>
      obtain ⟨k, hk, rfl, hE, hX⟩ := hrel
      have HEr := Lib.hid hE
      have HXr := Lib.hid hX
      by_cases hlt : k < n
      rotate_left
      · clear hE hX
        go_wp2_with (go_at_call 28; refine (HK.out _).mono ?_; rintro e w7 ⟨rfl, hE7⟩)
        go_ret
        exact ⟨rfl, HEr.out.trans hE7⟩
      obtain ⟨g1, o1, vs, he, -, -, hvs, hcell⟩ := hX.atX (k := k) (by rw [HLN.out]; exact hlt)
      injection he with he
      injection he with e1 e2
      subst e1 e2
      have hin := HLK.out k (by rw [HLN.out]; exact hlt)
      obtain ⟨i, hi⟩ : ∃ i, l[k]'(by rw [HLN.out]; exact hlt) = i := ⟨_, rfl⟩
      rw [hi] at hin hcell hvs
      obtain ⟨As, cs, rfl, -⟩ := hvs.form
      have k0 : wr.cell? ⟨g, o + k * 5, none⟩ = _ := hcell 0 _ rfl
      have k1 := hcell 1 _ rfl
      have k2 := hcell 2 _ rfl
      have k3 := hcell 3 _ rfl
      have k4 := hcell 4 _ rfl
      clear hcell hvs hE hX hi
      obtain ⟨i4, i5, i3, i0⟩ := hin
      have HEB := Lib.hid (HEr.out.alloc (.cells #[.int .i64 i.op, .int .i64 i.x, .int .i64 i.y, .bool i.neg, .slice As i.set.length cs] 53))
      have HXB := Lib.hid (HXr.out.ext ((Ext.refl wr).alloc (.cells #[.int .i64 i.op, .int .i64 i.x, .int .i64 i.y, .bool i.neg, .slice As i.set.length cs] 53)))
      have s7 : IntKind.i64.wrap ((k : Int) + 1) = (k : Int) + 1 := IntWalk.i64_in _ (by omega)
      by_cases h4 : i.op = 4
      · obtain ⟨a1, a2, a3, a4, a5⟩ := i4 h4
        have b4 : (i.op == 4) = true := by simp [h4]
        have d1 : decide (i.x < 1) = false := by simp; omega
        have d2 : decide ((n : Int) ≤ i.x) = false := by simp; omega
        have d3 : decide (i.y < 1) = false := by simp; omega
        have d4 : decide ((n : Int) ≤ i.y) = false := by simp; omega
        rcases d5 : (i.x == i.y) with _ | _
        · clear h4 i4 i5 i3 i0 a5
          go_wp2_with fail
          go_roundw
          case rel => exact ⟨k + 1, by omega, by go_num, HEB.out, HXB.out⟩
          case measure => simp [intOf]; omega
        · have d6 : (i.x != (k : Int) + 1) = false := by have := a5 (by simpa using d5); simp [this]
          clear h4 i4 i5 i3 i0 a5
          go_wp2_with fail
          go_roundw
          case rel => exact ⟨k + 1, by omega, by go_num, HEB.out, HXB.out⟩
          case measure => simp [intOf]; omega
      have b4 : (i.op == 4) = false := by simpa using h4
      by_cases h5 : i.op = 5
      · obtain ⟨a1, a2⟩ := i5 h5
        have b5 : (i.op == 5) = true := by simp [h5]
        have d1 : decide (i.x < 1) = false := by simp; omega
        have d2 : decide ((n : Int) ≤ i.x) = false := by simp; omega
        clear h4 h5 i4 i5 i3 i0
        go_wp2_with fail
        go_roundw
        case rel => exact ⟨k + 1, by omega, by go_num, HEB.out, HXB.out⟩
        case measure => simp [intOf]; omega
      have b5 : (i.op == 5) = false := by simpa using h5
      by_cases h3 : i.op = 3
      · obtain ⟨a1, a2⟩ := i3 h3
        have b3 : (i.op == 3) = true := by simp [h3]
        have d1 : decide (i.x < 0) = false := by simp; omega
        have d2 : decide (2 * (g9 : Int) + 1 < i.x) = false := by simp; omega
        clear h4 h5 h3 i4 i5 i3 i0
        go_wp2_with fail
        go_roundw
        case rel => exact ⟨k + 1, by omega, by go_num, HEB.out, HXB.out⟩
        case measure => simp [intOf]; omega
      have b3 : (i.op == 3) = false := by simpa using h3
      by_cases h0 : i.op = 0
      · obtain ⟨a1, a2⟩ := i0 h0
        have b0 : (i.op == 0) = true := by simp [h0]
        have d1 : ((i.set.length : Int) == 0) = false := beq_eq_false_iff_ne.2 (by omega)
        have e0 : (i.set.length : Int) % 2 = 0 := by omega
        have e3 : ((i.set.length : Int) % 2 != 0) = false := by rw [e0]; rfl
        have e4 : ((i.set.length : Int).tmod 2 != 0) = false := by rw [Int.tmod_eq_emod_of_nonneg (by omega)]; exact e3
        have e5 : (i.set.length : Int).tmod 2 = 0 := by rw [Int.tmod_eq_emod_of_nonneg (by omega)]; exact e0
        clear h4 h5 h3 h0 i4 i5 i3 i0
        go_wp2_with fail
        go_roundw
        case rel => exact ⟨k + 1, by omega, by go_num, HEB.out, HXB.out⟩
        case measure => simp [intOf]; omega
      have b0 : (i.op == 0) = false := by simpa using h0
      clear h4 h5 h3 h0 i4 i5 i3 i0
      go_wp2_with fail
      go_roundw
      case rel => exact ⟨k + 1, by omega, by go_num, HEB.out, HXB.out⟩
      case measure => simp [intOf]; omega
  · have hl0 := PG.compile_bad hR hc0
    subst hl0
    have hcb : (code != 0) = true := by simpa using hc0
    clear hX hE1 hE2 hR hc0
    go_wp2_with (go_at_call 28; refine (HK.out _).mono ?_; rintro e w3 ⟨rfl, hE3⟩)
    go_ret
    exact ⟨rfl, (HE.out.alloc _).trans hE3⟩
end Go.Proofs.Ytfblkahjefdmaaa
