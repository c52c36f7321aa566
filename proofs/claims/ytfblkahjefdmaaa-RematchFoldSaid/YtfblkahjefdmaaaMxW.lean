/- Walk: the law RematchFold. -/
import Derived.Test.YtfblkahjefdmaaaMd
import Derived.Test.YtfblkahjefdmaaaMxV
import Derived.Laws.OwnMore
namespace Go.Proofs.Ytfblkahjefdmaaa
open Go.RowKit

/-- A slice of truths. -/
abbrev SlBo := @SlR Bool 1 (fun w b o x => w.cell? ⟨b, o, none⟩ = some (.bool x))
theorem own_some {w : World} {B n c : Nat} {A : Option Addr} {xs : List Value} {t : TypeId} (h : w.ownsRow B t 1 (.slice A n c) n xs) (hn : 0 < n) : ∃ g, A = some ⟨g, 0, none⟩ ∧ B ≤ g ∧ g < w.heap.size := by
  rcases h.2 with ⟨-, h0⟩ | ⟨g, cap, cur, hv, hb, hg, -⟩
  · omega
  · injection hv with hv _ _
    exact ⟨g, hv, hb, heap_lt hg⟩
/-- The text so far: below k in letters of either case, from k on as it was. -/
def Turn (s xs : List Int) (k : Nat) : Prop := xs.length = s.length ∧ ∀ (i : Nat) (r : Int), s[i]? = some r → (i < k → xs[i]? = some (RX.upper r) ∨ xs[i]? = some (RX.lower r)) ∧ (k ≤ i → xs[i]? = some r)
theorem Turn.zero (s : List Int) : Turn s s 0 := ⟨rfl, fun i r h => ⟨fun h2 => by omega, fun _ => h⟩⟩
theorem Turn.step {s xs : List Int} {k : Nat} {r q : Int} (h : Turn s xs k) (hr : s[k]? = some r) (hq : q = RX.upper r ∨ q = RX.lower r) : Turn s (xs.set k q) (k + 1) := by
  obtain ⟨hk, -⟩ := List.getElem?_eq_some_iff.1 hr
  refine ⟨by rw [List.length_set]; exact h.1, fun i x hx => ?_⟩
  have h1 := h.1
  rw [List.getElem?_set]
  by_cases he : k = i
  · subst he
    rw [if_pos rfl, if_pos (by omega)]
    rw [hr] at hx
    obtain rfl := Option.some.inj hx
    refine ⟨fun _ => ?_, fun h => by omega⟩
    rcases hq with rfl | rfl
    · exact .inl rfl
    · exact .inr rfl
  · rw [if_neg he]
    have h2 := h.2 i x hx
    exact ⟨fun h3 => h2.1 (by omega), fun h3 => h2.2 (by omega)⟩
theorem Turn.cased {s xs : List Int} {k : Nat} (h : Turn s xs k) (hk : s.length ≤ k) : MX.Cased s xs :=
  ⟨h.1, fun i r hr => (h.2 i r hr).1 (by obtain ⟨h3, -⟩ := List.getElem?_eq_some_iff.1 hr; omega)⟩
set_option maxRecDepth 100000 in
set_option maxHeartbeats 4000000 in
theorem rematchFold_any (ts : List Int) (v : Value) (ups : List Bool) (vu : Value) (w : World) (hv : SlI w v ts) (hu : SlBo w vu ups) : Calls Try.prog 11 #[v, vu] w (Ret (.bool true) w) := by
  obtain ⟨A, c, rfl, hlc, hcm, _⟩ := id hv
  obtain ⟨Au, cu, rfl, hluc, hucm, _⟩ := id hu
  have HU := Lib.hid hu
  have he0 : Ten w w.heap.size (.slice A ts.length c) ts (w.alloc (.cells #[.slice A ts.length c, .int .i64 0] 26)) 0 :=
    ⟨hv, Nat.le_refl _, (Ext.refl w).alloc _, heap_alloc_new w _, Nat.zero_le _⟩
  have HP := Lib.hid (pat_c2 _ _ he0)
  have HE0 := Lib.hid he0
  have hpl := (TP.pat2_ok ts 0 (Nat.zero_le _)).1
  clear he0 hv hu
  go_enter Try.func11, Try.ntmps11
  go_wp2_with fail
  refine HP.out.mono ?_
  rintro e w1 ⟨v1, rfl, hv1, hr1, ho1⟩
  have hT1 := HE0.out.step ho1 hr1 hpl
  have HT1 := Lib.hid hT1
  have htb1 : w.heap.size < w1.heap.size := hT1.tbl
  generalize (TP.pat ts 2 0).2 = j1 at HT1 hT1
  generalize (TP.pat ts 2 0).1 = p at hv1
  obtain ⟨A1, c1, rfl, _⟩ := hv1.form
  have HV1 := Lib.hid hv1.slc
  have HE1 := Lib.hid hT1.ext
  clear hv1 ho1 hr1 hT1 hpl HP HE0
  generalize hgt : w.heap.size = tb at HT1 htb1 ⊢
  have HGT := Lib.hid hgt
  clear hgt
  go_wp2_with fail
  refine (mnew_any p true _ _ HV1.out).mono ?_
  rintro e w2 ⟨hE2, hnew⟩
  have HK := Lib.hid known10_any
  rcases hnew with ⟨hc0, rfl⟩ | ⟨l, t, k, mb, vp, -, -, hmd, hst, hgl, rfl, hmt, hmb, hin⟩
  · obtain ⟨R, hR⟩ : ∃ R, PG.compile p = R := ⟨_, rfl⟩
    rw [hR] at hc0 ⊢
    obtain ⟨l, code, bat⟩ := R
    dsimp only at hc0 ⊢
    have hb : (code != 0) = true := by simpa using hc0
    have hx2 := hE2.trans ((Ext.refl w2).alloc (.cells #[.int .i64 code, .int .i64 bat] 36))
    have HT2 := Lib.hid (HT1.out.extT hx2)
    have f0 : (w2.alloc (.cells #[.int .i64 code, .int .i64 bat] 36)).cell? ⟨w2.heap.size, 0, none⟩ = some (.int .i64 code) := by rw [World.cell?_alloc_new]; rfl
    have hne : tb ≠ w2.heap.size := by have := hE2.size; omega
    clear hx2 hR HT1
    go_upto_region 3 with fail
    generalize w2.alloc _ = w3 at f0 HT2 ⊢
    generalize w2.heap.size = fb at f0 hne ⊢
    go_wp2_with fail
    refine (ttext_any 20 (by omega) w3 j1 HT2.out).mono ?_
    rintro e w4 ⟨v4, j4, rfl, ⟨s, hsl, hsv⟩, hr4, ho4, hj4⟩
    replace f0 := World.grownBy.cell ho4 f0 (by intro e; injection e with e; exact hne e.symm)
    have HE4 := Lib.hid (HT2.out.step ho4 hr4 hj4).ext
    clear hsv hr4 ho4 hj4 HT2
    go_wp2_with (go_at_call 33; go_loud (refine (HK.out _).mono ?_; rintro e w7 ⟨rfl, hE7⟩))
    go_ret
    exact ⟨rfl, HE4.out.trans hE7⟩
  have hx2 := hE2.trans ((Ext.refl w2).alloc (.cells #[.int .i64 0, .int .i64 0] 36))
  have HT2 := Lib.hid (HT1.out.extT hx2)
  have f0 : (w2.alloc (.cells #[.int .i64 0, .int .i64 0] 36)).cell? ⟨w2.heap.size, 0, none⟩ = some (.int .i64 0) := by rw [World.cell?_alloc_new]; rfl
  have hne : tb ≠ w2.heap.size := by have := hE2.size; omega
  have HM2 := Lib.hid (hmt.ext ((Ext.refl w2).alloc (.cells #[.int .i64 0, .int .i64 0] 36)))
  have HI2 := Lib.hid (hin.keep (Ext.keepS ((Ext.refl w2).alloc (.cells #[.int .i64 0, .int .i64 0] 36))))
  have HMD := Lib.hid hmd
  have HST := Lib.hid hst
  have HB := Lib.hid (And.intro htb1 hmb)
  generalize RX.groups t = g at HM2 HMD hgl
  clear hx2 HT1 hmt hin hmd hst hmb htb1
  go_upto_region 3 with fail
  generalize w2.alloc _ = w3 at f0 HT2 HM2 HI2 ⊢
  generalize w2.heap.size = fb at f0 hne ⊢
  go_wp2_with fail
  refine (ttext_any 20 (by omega) w3 j1 HT2.out).mono ?_
  rintro e w4 ⟨v4, j4, rfl, ⟨s, hsl, hsv⟩, hr4, ho4, hj4⟩
  replace f0 := World.grownBy.cell ho4 f0 (by intro e; injection e with e; exact hne e.symm)
  have HE4 := Lib.hid (HT2.out.step ho4 hr4 hj4).ext
  have HM4 := Lib.hid (HM2.out.only HB.out.2 HI2.out ho4 HB.out.1)
  obtain ⟨As, cs, rfl, -, -⟩ := hsv.form
  have HS4 := Lib.hid hsv.slc
  have HSB := Lib.hid hsv
  clear hsv hr4 ho4 hj4 HT2 HM2 HI2 HB hE2 HV1
  have hs1 : s.length ≤ 1000 := by omega
  have HNIL := Lib.hid (OwnB.nil_ (t := 21) (sz := 1) (C := Cc) (base := w4.heap.size) (w := w4))
  go_upto_region 6 with fail
  go_wp2_with (at_builtin; go_loud (refine app_src rfl _ _ rfl w4.heap.size _ (.slice none 0 0) _ [] s HNIL.out rfl rfl HSB.out (by decide) ?hn2 ?hB ?_; (case hn2 => omega); (case hB => exact Nat.le_refl _); intro v5 w5 h1 h2; have hE5 : Ext w4 w5 := (Ext.refl w4).grown h2 (fun k hk => (HNIL.out.lt k hk).1); rw [List.nil_append] at h1; obtain ⟨A5, c5, rfl, -⟩ := h1.form; have HO5 := Lib.hid h1.flat_i32; have HX5 := Lib.hid hE5; clear h1 h2 hE5))
  go_loopw [42] (fun x42 wr => ∃ (k : Nat) (xs : List Int), x42 = .int .i64 (k : Int) ∧ k ≤ s.length ∧ Ext w4 wr ∧ wr.ownsRow w4.heap.size 21 1 (.slice A5 s.length c5) s.length (xs.map (Value.int .i32)) ∧ Turn s xs k) (fun x42 _ => s.length - (intOf x42).toNat)
  case atStart => exact ⟨0, s, rfl, Nat.zero_le _, HX5.out, HO5.out, Turn.zero s⟩
  case round =>
    obtain ⟨k, xs, rfl, hk, hx, hown, hturn⟩ := hrel
    have HX := Lib.hid hx
    have HT := Lib.hid hturn
    have HO := Lib.hid hown
    by_cases hlt : k < s.length
    rotate_left
    · have hd : decide ((k : Int) < (s.length : Int)) = false := by simp; omega
      have hcs := hturn.cased (by omega)
      have HLEN := Lib.hid hcs.1
      have hxl : xs.length ≤ 1000 := by rw [hcs.1]; omega
      have hsx : SlC wr (.slice A5 s.length c5) xs := by
        have h9 : wr.ownsRow w4.heap.size 21 1 (.slice A5 s.length c5) xs.length (xs.map (Value.int .i32)) := by rw [hcs.1]; exact hown
        exact own_sl1 h9
      have HFS := Lib.hid (fun (w' : World) (h : Ext wr w') => mfind_any HMD.out HST.out hgl (HM4.out.ext (hx.trans h)) (HS4.out.ext (hx.trans h)) hs1 0 (Nat.zero_le _))
      have HFU := Lib.hid (fun (w' : World) (h : Ext wr w') => mfind_any HMD.out HST.out hgl (HM4.out.ext (hx.trans h)) (hsx.ext h) hxl 0 (Nat.zero_le _))
      rw [MX.act_case hcs, hcs.1] at HFU
      have HSI := Lib.hid sameInts_any
      have HEX := Lib.hid (HE4.out.trans hx)
      have tok1 : True := trivial
      clear hcs hxl hsx hx hown hturn HT HO hs1
      go_upto_region 14 with fail
      go_wp2_with fail
      refine (HFS.out _ (Ext.refl _)).mono ?_
      rintro e w6 ⟨hE6, r6, hf6, hre6⟩
      have HE6 := Lib.hid hE6
      have HF6 := Lib.hid hf6
      clear hE6 hf6
      cases r6 with
      | none =>
        obtain rfl := hre6
        go_wp2_with fail
        refine (HFU.out _ HE6.out).mono ?_
        rintro e w7 ⟨hE7, r7, hf7, hre7⟩
        obtain rfl := MX.first_one HF6.out hf7
        obtain rfl := hre7
        have HE7 := Lib.hid ((HEX.out.trans HE6.out).trans hE7)
        clear hE7 hf7
        go_wp2_with (first
          | (go_at_call 36; go_loud (refine (HSI.out _ _ [] [] _ SlR.nil_ SlR.nil_).mono ?_; rintro e w8 ⟨rfl, hE8⟩; rw [show eqB [] [] = true from rfl]; have HE8 := Lib.hid (HE7.out.trans hE8); clear hE8))
          | (go_at_call 33; go_loud (refine (HK.out _).mono ?_; rintro e w9 ⟨rfl, hE9⟩)))
        go_ret
        exact ⟨rfl, HE8.out.trans hE9⟩
      | some r =>
        obtain ⟨v6, rfl, hn6⟩ := hre6
        obtain ⟨p0, -, -, hmt, -⟩ := MX.first_match HMD.out HF6.out
        have hrl : r.length ≤ 1000000 := by have := hmt.len; omega
        have HN6 := Lib.hid hn6
        obtain ⟨nb6, rfl, -, -⟩ := hn6
        clear hmt
        go_wp2_with fail
        refine (HFU.out _ HE6.out).mono ?_
        rintro e w7 ⟨hE7, r7, hf7, hre7⟩
        obtain rfl := MX.first_one HF6.out hf7
        obtain ⟨v7, rfl, hn7⟩ := hre7
        have HN7 := Lib.hid (hn7.sli hrl)
        have HN6 := Lib.hid ((HN6.out.ext hE7).sli hrl)
        obtain ⟨nb7, rfl, -, -⟩ := hn7
        have HE7 := Lib.hid ((HEX.out.trans HE6.out).trans hE7)
        clear hE7 hf7
        go_wp2_with (first
          | (go_at_call 36; go_loud (refine (HSI.out _ _ r r _ HN6.out HN7.out).mono ?_; rintro e w8 ⟨rfl, hE8⟩; rw [show eqB r r = true from by simp [eqB]]; have HE8 := Lib.hid (HE7.out.trans hE8); clear hE8))
          | (go_at_call 33; go_loud (refine (HK.out _).mono ?_; rintro e w9 ⟨rfl, hE9⟩)))
        go_ret
        exact ⟨rfl, HE8.out.trans hE9⟩
    have hd : decide ((k : Int) < (s.length : Int)) = true := by simp; omega
    have hki : (k : Int) < (s.length : Int) := by omega
    obtain ⟨ub, rfl, hub, hubl⟩ := own_some hown (by omega)
    obtain ⟨r, hr⟩ : ∃ r, s[k]? = some r := ⟨_, List.getElem?_eq_getElem hlt⟩
    have hq : xs[k]? = some r := (hturn.2 k r hr).2 (Nat.le_refl _)
    have q0 : wr.cell? ⟨ub, k, none⟩ = some (.int .i32 r) := by rw [hown.cellAt k (by omega), List.getElem?_map, hq]; rfl
    have fr := hown.frozenAt k
    have HR := Lib.hid hr
    have HUR := Lib.hid (fun w' => rupper_any r w')
    have HLR := Lib.hid (fun w' => rlower_any r w')
    have hs9 : (k : Int) < 1000 := by omega
    have HUW := Lib.hid (HU.out.mono fun _ _ _ h => (HE4.out.trans hx).cell h)
    clear hr hq hturn hown hx
    by_cases hku : k < ups.length
    · obtain ⟨bv, hbv⟩ : ∃ bv, ups[k]? = some bv := ⟨_, List.getElem?_eq_getElem hku⟩
      obtain ⟨bb, bo, rfl, hcb⟩ := SlR.at_ HUW.out hbv
      rw [Nat.mul_one] at hcb
      have hd2 : decide ((k : Int) < (ups.length : Int)) = true := by simp; omega
      have hku2 : (k : Int) < (ups.length : Int) := by omega
      clear hbv
      cases bv with
      | true =>
        go_wp2_with (first
          | (go_at_call 40; go_loud (refine (HUR.out _).mono ?_; rintro e w8 ⟨rfl, n8, rfl⟩))
          | (go_at_call 41; go_loud (refine (HLR.out _).mono ?_; rintro e w8 ⟨rfl, n8, rfl⟩)))
        go_roundw
        case rel => exact ⟨k + 1, xs.set k (RX.upper r), by go_num, hlt, (HX.out.drewN n8).set (p := ⟨ub, k, none⟩) hub _, by rw [List.map_set]; exact (World.ownsRow.stored (w := wr.drewN n8) HO.out k _).1, HT.out.step HR.out (.inl rfl)⟩
        case measure => simp [intOf]; omega
      | false =>
        go_wp2_with (first
          | (go_at_call 40; go_loud (refine (HUR.out _).mono ?_; rintro e w8 ⟨rfl, n8, rfl⟩))
          | (go_at_call 41; go_loud (refine (HLR.out _).mono ?_; rintro e w8 ⟨rfl, n8, rfl⟩)))
        go_roundw
        case rel => exact ⟨k + 1, xs.set k (RX.lower r), by go_num, hlt, (HX.out.drewN n8).set (p := ⟨ub, k, none⟩) hub _, by rw [List.map_set]; exact (World.ownsRow.stored (w := wr.drewN n8) HO.out k _).1, HT.out.step HR.out (.inr rfl)⟩
        case measure => simp [intOf]; omega
    · have hd2 : decide ((k : Int) < (ups.length : Int)) = false := by simp; omega
      go_wp2_with (first
        | (go_at_call 40; go_loud (refine (HUR.out _).mono ?_; rintro e w8 ⟨rfl, n8, rfl⟩))
        | (go_at_call 41; go_loud (refine (HLR.out _).mono ?_; rintro e w8 ⟨rfl, n8, rfl⟩)))
      go_roundw
      case rel => exact ⟨k + 1, xs.set k (RX.lower r), by go_num, hlt, (HX.out.drewN n8).set (p := ⟨ub, k, none⟩) hub _, by rw [List.map_set]; exact (World.ownsRow.stored (w := wr.drewN n8) HO.out k _).1, HT.out.step HR.out (.inr rfl)⟩
      case measure => simp [intOf]; omega
end Go.Proofs.Ytfblkahjefdmaaa
