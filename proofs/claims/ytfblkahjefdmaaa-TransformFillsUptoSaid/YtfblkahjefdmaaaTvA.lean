/- Walk: the document's own MayForm, on the plain seat. -/
import Derived.Test.YtfblkahjefdmaaaTsC
namespace Go.Proofs.Ytfblkahjefdmaaa
open Go.RowKit

def c1 (kd gp cs : Int) (tx es : List Int) : Bool := decide (kd < 0) || decide (4 < kd) || decide (gp < 0) || decide (99 < gp) || decide (cs < 0) || decide (5 < cs) || !tx.all RX.isSign || !es.all RX.isSign
def c2 (p : Bool) (kd gp cs : Int) (tx : List Int) : Bool := (!decide (kd = 1) && !decide (cs = 0)) || (decide (kd = 0) && (!decide (gp = 0) || decide (tx.length = 0) || p))
def c3 (kd : Int) (tx es : List Int) : Bool := ((decide (kd = 1) || decide (kd = 3)) && !decide (tx.length = 0)) || ((!decide (kd = 3) && !decide (kd = 4)) && !decide (es.length = 0))
theorem dnot {a b : Prop} [Decidable a] [Decidable b] (h : a ↔ ¬ b) : decide a = !decide b := by by_cases hb : b <;> simp [h, hb]
theorem may_c (p : Bool) (kd gp cs : Int) (tx es : List Int) : (FM.may1 ⟨kd, gp, cs, tx, es⟩ && !(p && kd == 0)) = (!c1 kd gp cs tx es && !c2 p kd gp cs tx && !c3 kd tx es) := by
  have hte : tx.isEmpty = decide (tx.length = 0) := by cases tx <;> simp
  have hee : es.isEmpty = decide (es.length = 0) := by cases es <;> simp
  unfold FM.may1 c1 c2 c3
  dsimp only
  rw [hte, hee, dnot (show 0 ≤ gp ↔ ¬ gp < 0 by omega), dnot (show gp ≤ 99 ↔ ¬ 99 < gp by omega), dnot (show 0 ≤ cs ↔ ¬ cs < 0 by omega), dnot (show cs ≤ 5 ↔ ¬ 5 < cs by omega)]
  clear hte hee
  generalize decide (tx.length = 0) = u
  generalize decide (es.length = 0) = v
  generalize decide (gp = 0) = g
  generalize decide (cs = 0) = c
  generalize decide (gp < 0) = x1
  generalize decide (99 < gp) = x2
  generalize decide (cs < 0) = x3
  generalize decide (5 < cs) = x4
  generalize tx.all RX.isSign = a
  generalize es.all RX.isSign = b
  by_cases h : kd = 0 ∨ kd = 1 ∨ kd = 2 ∨ kd = 3 ∨ kd = 4
  · rcases h with rfl | rfl | rfl | rfl | rfl
    all_goals
      simp
      cases x1 <;> cases x2 <;> cases x3 <;> cases x4 <;> simp <;> cases a <;> cases b <;> simp <;> revert u v g c p <;> decide
  · have h1 : (decide (kd < 0) || decide (4 < kd)) = true := by simp; omega
    rw [h1]
    have k0 : ¬ kd = 0 := fun e => h (.inl e)
    have k1 : ¬ kd = 1 := fun e => h (.inr (.inl e))
    have k2 : ¬ kd = 2 := fun e => h (.inr (.inr (.inl e)))
    have k3 : ¬ kd = 3 := fun e => h (.inr (.inr (.inr (.inl e))))
    have k4 : ¬ kd = 4 := fun e => h (.inr (.inr (.inr (.inr e))))
    simp [k0, k1, k2, k3, k4]
set_option maxRecDepth 100000 in
set_option maxHeartbeats 4000000 in
theorem rmayform_any (l : List FM.Form) (v : Value) (w : World) (hv : SlF w v l) : Calls Try.prog 80 #[v] w (Ret (.bool (FM.may l)) w) := by
  obtain ⟨A, ca, rfl, hlc, hcm⟩ := hv.form2
  have HV := Lib.hid hv
  clear hv
  go_enter Try.func80, Try.ntmps80
  go_wp2_with fail
  go_loopw [3] (fun i wr => ∃ k : Nat, k ≤ l.length ∧ i = .int .i64 (k : Int) ∧ Ext w wr ∧ FM.mayR false (l.take k) = true) (fun i _ => l.length - (intOf i).toNat)
  case atStart => exact ⟨0, Nat.zero_le _, rfl, Ext.refl w, rfl⟩
  case round =>
    obtain ⟨k, hk, rfl, hE, hm⟩ := hrel
    have HE := Lib.hid hE
    have HM := Lib.hid hm
    clear hm
    by_cases hlt : k < l.length
    rotate_left
    · have HF := Lib.hid (show FM.may l = true by rw [FM.may_split l k, HM.out, List.drop_eq_nil_of_le (by omega)]; rfl)
      clear hE
      go_wp2_with fail
      go_ret
      exact ⟨by rw [HF.out]; rfl, HE.out⟩
    obtain ⟨g, o, cs, rfl, hcf, hcell⟩ := (HV.out.ext hE).atF hlt
    have HSTEP := Lib.hid (fun (h2 : (FM.may1 l[k] && !(FM.last0 false (l.take k) && l[k].kind == 0)) = true) => FM.mayR_take hlt HM.out (Bool.and_eq_true_iff.1 h2).1 (by have := (Bool.and_eq_true_iff.1 h2).2; rwa [Bool.not_eq_true'] at this))
    have HNO := Lib.hid (fun (h2 : (FM.may1 l[k] && !(FM.last0 false (l.take k) && l[k].kind == 0)) = false) => FM.may_no hlt (by
      rcases hb : FM.may1 l[k] with _ | _
      · exact .inl rfl
      · rw [hb] at h2; right; simpa using h2))
    have hk0 : (k = 0 ∧ FM.last0 false (l.take k) = false) ∨ ∃ (j : Nat) (x : Int), k = j + 1 ∧ wr.cell? ⟨g, o + j * 5, none⟩ = some (.int .i64 x) ∧ FM.last0 false (l.take k) = (x == 0) := by
      rcases Nat.eq_zero_or_pos k with rfl | hp
      · left; exact ⟨rfl, rfl⟩
      · right
        obtain ⟨j, rfl⟩ : ∃ j, k = j + 1 := ⟨k - 1, by omega⟩
        have hjl : j < l.length := by omega
        obtain ⟨g', o', cs', he, hcf', hcell'⟩ := (HV.out.ext hE).atF hjl
        injection he with he
        injection he with he1 he2
        subst he1 he2
        obtain ⟨A1, c1, A2, c2, rfl, -⟩ := hcf'.slc2
        exact ⟨j, l[j].kind, rfl, by have := hcell' 0 _ rfl; rwa [Nat.add_zero] at this, FM.last0_take (by omega)⟩
    generalize FM.last0 false (l.take k) = p at HSTEP HNO hk0
    generalize l[k] = f at hcf HSTEP HNO
    obtain ⟨A1, ct, A2, ce, rfl, ht, he⟩ := hcf.slc2
    obtain ⟨kd, gp, cs, tx, es⟩ := f
    rw [may_c] at HSTEP HNO
    dsimp only at ht he hcell
    have d0 := hcell 0 _ rfl
    have d1 := hcell 1 _ rfl
    have d2 := hcell 2 _ rfl
    have d3 := hcell 3 _ rfl
    have d4 := hcell 4 _ rfl
    rw [Nat.add_zero] at d0
    have HM1 := Lib.hid (fun W (hW : Ext wr W) => rmay_any tx _ W (ht.ext hW))
    have HM2 := Lib.hid (fun W (hW : Ext wr W) => rmay_any es _ W (he.ext hW))
    have hbl := World.block_lt_of_cell? _ _ d0
    clear hcell hcf ht he hE
    go_upto_region 5 with fail
    obtain ⟨nb, hnb⟩ : ∃ nb, nb = wr.heap.size := ⟨_, rfl⟩
    have hE4 := (Ext.refl wr).alloc (.cells #[.int .i64 kd, .int .i64 gp, .int .i64 cs, .slice A1 tx.length ct, .slice A2 es.length ce] 82)
    have HF := Lib.hid (heap_alloc_new wr (.cells #[.int .i64 kd, .int .i64 gp, .int .i64 cs, .slice A1 tx.length ct, .slice A2 es.length ce] 82))
    have HX := Lib.hid hE4
    have hk0 : (k = 0 ∧ p = false) ∨ ∃ (j : Nat) (x : Int), k = j + 1 ∧ (wr.alloc (.cells #[.int .i64 kd, .int .i64 gp, .int .i64 cs, .slice A1 tx.length ct, .slice A2 es.length ce] 82)).cell? ⟨g, o + j * 5, none⟩ = some (.int .i64 x) ∧ p = (x == 0) := by
      rcases hk0 with h | ⟨j, x, h1, h2, h3⟩
      · exact .inl h
      · exact .inr ⟨j, x, h1, hE4.cell h2, h3⟩
    rw [← hnb] at HF ⊢
    clear d0 d1 d2 d3 d4 hbl hE4 hnb
    generalize wr.alloc (.cells #[.int .i64 kd, .int .i64 gp, .int .i64 cs, .slice A1 tx.length ct, .slice A2 es.length ce] 82) = w4 at HF HX hk0 ⊢
    have q0 := cell_of_row w4 nb 0 _ _ _ HF.out
    have q1 := cell_of_row w4 nb 1 _ _ _ HF.out
    have q2 := cell_of_row w4 nb 2 _ _ _ HF.out
    have q3 := cell_of_row w4 nb 3 _ _ _ HF.out
    have q4 := cell_of_row w4 nb 4 _ _ _ HF.out
    have HK0 := Lib.hid hk0
    clear hk0
    go_cut [54] (fun s wx => s = .bool (c1 kd gp cs tx es) ∧ wx = w4)
    case first =>
      by_cases h0 : kd < 0
      · have HV := Lib.hid (show c1 kd gp cs tx es = true by unfold c1; rw [decide_eq_true (p := kd < 0) h0]; simp)
        go_wp2_with fail
        go_meet
        exact ⟨by rw [HV.out], rfl⟩
      by_cases h1 : 4 < kd
      · have HV := Lib.hid (show c1 kd gp cs tx es = true by unfold c1; rw [decide_eq_true (p := 4 < kd) h1]; simp)
        go_wp2_with fail
        go_meet
        exact ⟨by rw [HV.out], rfl⟩
      by_cases h2 : gp < 0
      · have HV := Lib.hid (show c1 kd gp cs tx es = true by unfold c1; rw [decide_eq_true (p := gp < 0) h2]; simp)
        go_wp2_with fail
        go_meet
        exact ⟨by rw [HV.out], rfl⟩
      by_cases h3 : 99 < gp
      · have HV := Lib.hid (show c1 kd gp cs tx es = true by unfold c1; rw [decide_eq_true (p := 99 < gp) h3]; simp)
        go_wp2_with fail
        go_meet
        exact ⟨by rw [HV.out], rfl⟩
      by_cases h4 : cs < 0
      · have HV := Lib.hid (show c1 kd gp cs tx es = true by unfold c1; rw [decide_eq_true (p := cs < 0) h4]; simp)
        go_wp2_with fail
        go_meet
        exact ⟨by rw [HV.out], rfl⟩
      by_cases h5 : 5 < cs
      · have HV := Lib.hid (show c1 kd gp cs tx es = true by unfold c1; rw [decide_eq_true (p := 5 < cs) h5]; simp)
        go_wp2_with fail
        go_meet
        exact ⟨by rw [HV.out], rfl⟩
      rcases ht : tx.all RX.isSign with _ | _
      · have HV := Lib.hid (show c1 kd gp cs tx es = true by unfold c1; rw [ht]; simp)
        have HM1 := Lib.hid (fun W hW => ht ▸ HM1.out W hW)
        clear ht
        go_wp2_with (go_at_call 74; go_loud (refine (HM1.out _ HX.out).mono ?_; rintro e w9 ⟨rfl, rfl⟩))
        go_meet
        exact ⟨by rw [HV.out], rfl⟩
      have HM1 := Lib.hid (fun W hW => ht ▸ HM1.out W hW)
      rcases he : es.all RX.isSign with _ | _
      · have HV := Lib.hid (show c1 kd gp cs tx es = true by unfold c1; rw [ht, he]; simp)
        have HM2 := Lib.hid (fun W hW => he ▸ HM2.out W hW)
        clear ht he
        go_wp2_with (go_at_call 74; go_loud ((first | with_reducible refine (HM1.out _ HX.out).mono ?_ | with_reducible refine (HM2.out _ HX.out).mono ?_); rintro e w9 ⟨rfl, rfl⟩))
        go_meet
        exact ⟨by rw [HV.out], rfl⟩
      · have HV := Lib.hid (show c1 kd gp cs tx es = false by unfold c1; rw [ht, he]; simp [h0, h1, h2, h3, h4, h5])
        have HM2 := Lib.hid (fun W hW => he ▸ HM2.out W hW)
        clear ht he
        go_wp2_with (go_at_call 74; go_loud ((first | with_reducible refine (HM1.out _ HX.out).mono ?_ | with_reducible refine (HM2.out _ HX.out).mono ?_); rintro e w9 ⟨rfl, rfl⟩))
        go_meet
        exact ⟨by rw [HV.out], rfl⟩
    case rest =>
      obtain ⟨rfl, rfl⟩ := hcut
      rcases hv1 : c1 kd gp cs tx es with _ | _
      rotate_left
      · have HF := Lib.hid (HNO.out (by rw [hv1]; rfl))
        clear hv1
        go_wp2_with fail
        go_ret
        exact ⟨by rw [HF.out]; rfl, HE.out.trans HX.out⟩
      have HC1 := Lib.hid hv1
      clear hv1
      go_upto_region 7 with fail
      go_cut [91] (fun s wx => s = .bool (c2 p kd gp cs tx) ∧ wx = wc)
      case first =>
        have hk0 := HK0.out
        by_cases h1 : kd = 1
        · have HV := Lib.hid (show c2 p kd gp cs tx = false by simp [c2, h1])
          go_wp2_with fail
          go_meet
          exact ⟨by first | (rw [HV.out]; done) | (rw [HV.out]; simp [h1]; done) | (rw [HV.out]; simp [h1]; omega), rfl⟩
        by_cases hc : cs = 0
        · by_cases h0 : kd = 0
          · by_cases hg : gp = 0
            · by_cases hl : tx.length = 0
              · have HV := Lib.hid (show c2 p kd gp cs tx = true by simp [c2, h0, hc, hg, hl])
                go_wp2_with fail
                go_meet
                exact ⟨by first | (rw [HV.out]; done) | (rw [HV.out]; simp [h0, hc, hg, hl]; done) | (rw [HV.out]; simp [h0, hc, hg, hl]; omega), rfl⟩
              have hlp : 0 < tx.length := by omega
              rcases hk0 with hk0 | ⟨j, x, hj, hcx, hpx⟩
              · have HV := Lib.hid (show c2 p kd gp cs tx = false by rw [hk0.2]; simp [c2, h0, hc, hg, hl])
                have hkz : ¬ (0 : Int) < (k : Int) := by have := hk0.1; omega
                clear hk0
                go_wp2_with fail
                go_meet
                exact ⟨by first | (rw [HV.out]; done) | (rw [HV.out]; simp [hl]; done), rfl⟩
              · have HJ := Lib.hid hj
                have hj1 : (0 : Int) < (k : Int) := by omega
                have hj2 : (k : Int) - 1 = (j : Int) := by omega
                have hj3 : j < l.length := by omega
                by_cases hx : x = 0
                · have HV := Lib.hid (show c2 p kd gp cs tx = true by rw [hpx, hx]; simp [c2, h0, hg, hl])
                  clear hj hpx
                  go_wp2_with fail
                  go_meet
                  exact ⟨by first | (rw [HV.out]; done) | (rw [HV.out]; simp [hl, hx]; done), rfl⟩
                · have HV := Lib.hid (show c2 p kd gp cs tx = false by rw [hpx]; simp [c2, h0, hc, hg, hl, hx])
                  clear hj hpx
                  go_wp2_with fail
                  go_meet
                  exact ⟨by first | (rw [HV.out]; done) | (rw [HV.out]; simp [hx, hl]; done), rfl⟩
            have HV := Lib.hid (show c2 p kd gp cs tx = true by simp [c2, h0, hg])
            go_wp2_with fail
            go_meet
            exact ⟨by first | (rw [HV.out]; done) | (rw [HV.out]; simp [h0, hg]; done) | (rw [HV.out]; simp [h0, hg]; omega), rfl⟩
          have HV := Lib.hid (show c2 p kd gp cs tx = false by simp [c2, h1, hc, h0])
          go_wp2_with fail
          go_meet
          exact ⟨by first | (rw [HV.out]; done) | (rw [HV.out]; simp [h1, hc, h0]; done) | (rw [HV.out]; simp [h1, hc, h0]; omega), rfl⟩
        have HV := Lib.hid (show c2 p kd gp cs tx = true by simp [c2, h1, hc])
        go_wp2_with fail
        go_meet
        exact ⟨by first | (rw [HV.out]; done) | (rw [HV.out]; simp [h1, hc]; done) | (rw [HV.out]; simp [h1, hc]; omega), rfl⟩
      case rest =>
        obtain ⟨rfl, rfl⟩ := hcut
        rcases hv2 : c2 p kd gp cs tx with _ | _
        rotate_left
        · have HF := Lib.hid (HNO.out (by rw [hv2, HC1.out]; rfl))
          clear hv2
          go_wp2_with fail
          go_ret
          exact ⟨by rw [HF.out]; rfl, HE.out.trans HX.out⟩
        have HC2 := Lib.hid hv2
        clear hv2
        go_upto_region 9 with fail
        go_cut [121] (fun s wx => s = .bool (c3 kd tx es) ∧ wx = wc)
        case first =>
          by_cases ht : tx.length = 0
          · by_cases h3 : kd = 3
            · have HV := Lib.hid (show c3 kd tx es = false by simp [c3, h3, ht])
              go_wp2_with fail
              go_meet
              exact ⟨by first | (rw [HV.out]; done) | (rw [HV.out]; simp [h3, ht]; done) | (rw [HV.out]; simp [h3, ht]; omega), rfl⟩
            by_cases h4 : kd = 4
            · have HV := Lib.hid (show c3 kd tx es = false by simp [c3, h4, ht])
              go_wp2_with fail
              go_meet
              exact ⟨by first | (rw [HV.out]; done) | (rw [HV.out]; simp [h4, ht]; done) | (rw [HV.out]; simp [h4, ht]; omega), rfl⟩
            by_cases h1 : kd = 1
            · by_cases he : es.length = 0
              · have HV := Lib.hid (show c3 kd tx es = false by simp [c3, h1, ht, he])
                go_wp2_with fail
                go_meet
                exact ⟨by first | (rw [HV.out]; done) | (rw [HV.out]; simp [h1, ht, he]; done) | (rw [HV.out]; simp [h1, ht, he]; omega), rfl⟩
              have HV := Lib.hid (show c3 kd tx es = true by simp [c3, h1, ht, he])
              go_wp2_with fail
              go_meet
              exact ⟨by first | (rw [HV.out]; done) | (rw [HV.out]; simp; done) | (rw [HV.out]; simp []; omega), rfl⟩
            by_cases he : es.length = 0
            · have HV := Lib.hid (show c3 kd tx es = false by simp [c3, h1, h3, h4, ht, he])
              go_wp2_with fail
              go_meet
              exact ⟨by first | (rw [HV.out]; done) | (rw [HV.out]; simp [h1, h3, h4, ht, he]; done) | (rw [HV.out]; simp [h1, h3, h4, ht, he]; omega), rfl⟩
            have HV := Lib.hid (show c3 kd tx es = true by simp [c3, h1, h3, h4, ht, he])
            go_wp2_with fail
            go_meet
            exact ⟨by first | (rw [HV.out]; done) | (rw [HV.out]; simp [h3, h4]; done) | (rw [HV.out]; simp [h3, h4]; omega), rfl⟩
          by_cases h1 : kd = 1
          · have HV := Lib.hid (show c3 kd tx es = true by simp [c3, h1, ht])
            go_wp2_with fail
            go_meet
            exact ⟨by first | (rw [HV.out]; done) | (rw [HV.out]; simp [h1, ht]; done) | (rw [HV.out]; simp [h1, ht]; omega), rfl⟩
          by_cases h3 : kd = 3
          · have HV := Lib.hid (show c3 kd tx es = true by simp [c3, h3, ht])
            go_wp2_with fail
            go_meet
            exact ⟨by first | (rw [HV.out]; done) | (rw [HV.out]; simp [h3, ht]; done) | (rw [HV.out]; simp [h3, ht]; omega), rfl⟩
          by_cases h4 : kd = 4
          · have HV := Lib.hid (show c3 kd tx es = false by simp [c3, h4])
            go_wp2_with fail
            go_meet
            exact ⟨by first | (rw [HV.out]; done) | (rw [HV.out]; simp [h4]; done) | (rw [HV.out]; simp [h4]; omega), rfl⟩
          by_cases he : es.length = 0
          · have HV := Lib.hid (show c3 kd tx es = false by simp [c3, h1, h3, h4, he])
            go_wp2_with fail
            go_meet
            exact ⟨by first | (rw [HV.out]; done) | (rw [HV.out]; simp [h1, h3, h4, he]; done) | (rw [HV.out]; simp [h1, h3, h4, he]; omega), rfl⟩
          have HV := Lib.hid (show c3 kd tx es = true by simp [c3, h1, h3, h4, he])
          go_wp2_with fail
          go_meet
          exact ⟨by first | (rw [HV.out]; done) | (rw [HV.out]; simp [h3, h4]; done) | (rw [HV.out]; simp [h3, h4]; omega), rfl⟩
        case rest =>
          obtain ⟨rfl, rfl⟩ := hcut
          rcases hv3 : c3 kd tx es with _ | _
          · have HS := Lib.hid (HSTEP.out (by rw [hv3, HC1.out, HC2.out]; rfl))
            clear hv3
            go_wp2_with fail
            go_roundw
            case rel => exact ⟨k + 1, by omega, by go_num, HE.out.trans HX.out, HS.out⟩
            case measure => simp [intOf]; omega
          · have HF := Lib.hid (HNO.out (by rw [hv3, HC1.out, HC2.out]; rfl))
            clear hv3
            go_wp2_with fail
            go_ret
            exact ⟨by rw [HF.out]; rfl, HE.out.trans HX.out⟩
end Go.Proofs.Ytfblkahjefdmaaa
