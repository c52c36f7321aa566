/- Walk: the law RematchPlain. -/
import Derived.Test.YtfblkahjefdmaaaRcs
import Derived.Test.YtfblkahjefdmaaaMd
import Derived.Test.YtfblkahjefdmaaaSmR
import Derived.Test.YtfblkahjefdmaaaPureB
namespace Go.Proofs.Ytfblkahjefdmaaa
open Go.RowKit

/-- A slice of bytes. -/
abbrev SlY := @SlR Int 1 (fun w b o x => w.cell? ⟨b, o, none⟩ = some (.int .u8 x))
def letters (xs : List Int) : List Int := xs.map fun x => 97 + x % 3
theorem letters_snoc (xs : List Int) (k : Nat) (x : Int) (h : xs[k]? = some x) : letters (xs.take (k + 1)) = letters (xs.take k) ++ [97 + x % 3] := by
  obtain ⟨hk, hx⟩ := List.getElem?_eq_some_iff.1 h
  unfold letters
  rw [List.take_succ_eq_append_getElem hk, List.map_append, hx]
  rfl
theorem letters_low (xs : List Int) : ∀ c ∈ letters xs, 97 ≤ c ∧ c ≤ 99 := by
  intro c hc
  obtain ⟨x, -, rfl⟩ := List.mem_map.1 hc
  omega
theorem letters_len (xs : List Int) : (letters xs).length = xs.length := by simp [letters]
theorem sli_lits {w : World} {g n : Nat} {t : TypeId} (xs : List Int) (hg : g = w.heap.size) (hn : n = xs.length) (hl : xs.length ≤ 1000) : SlI (w.alloc (.cells (xs.map (Value.int .i64)).toArray t)) (.slice (some ⟨g, 0, none⟩) n n) xs := by
  subst hg hn
  refine ⟨_, xs.length, rfl, Nat.le_refl _, by omega, fun k x hx => ⟨w.heap.size, 0, rfl, ?_⟩, by intro h; cases h⟩
  rw [Nat.mul_one, Nat.zero_add]
  show (w.alloc _).cell? _ = _
  rw [World.cell?_alloc_new]
  simp [hx]
theorem SlC.cut3 {w : World} {A : Option Addr} {n c : Nat} {xs : List Int} (h : SlC w (.slice A n c) xs) {i m : Nat} (hi : i ≤ m) (hm : m ≤ xs.length) : SlC w (.slice (cutA A c i 1) (m - i) (c - i)) ((xs.drop i).take (m - i)) := by
  have h2 := h.cut (k := i) (by omega)
  obtain ⟨A', c', hv, hl, hc, hx, hn⟩ := h2
  injection hv with e1 e2 e3
  subst e1 e3
  have hlen : ((xs.drop i).take (m - i)).length = m - i := by rw [List.length_take, List.length_drop]; omega
  refine ⟨cutA A c i 1, c - i, by rw [hlen], by rw [hlen]; rw [List.length_drop] at hl; omega, hc, fun j x hj => ?_, hn⟩
  rw [List.getElem?_take] at hj
  split at hj
  · exact hx j x hj
  · cases hj
theorem caseR_len (how : Int) (s : List Int) : (caseR how s).length = s.length := by simp [caseR]
theorem caseR_up (s : List Int) : MX.Cased s (caseR 1 s) := by
  refine ⟨caseR_len 1 s, fun i r h => .inl ?_⟩
  unfold caseR
  rw [List.getElem?_mapIdx, h]
  rfl
set_option maxRecDepth 100000 in
set_option maxHeartbeats 4000000 in
theorem rematchPlain_any (ws ss : List Int) (vw vs : Value) (from_ : Int) (w : World) (hw : SlY w vw ws) (hs : SlY w vs ss) (hwb : ∀ x ∈ ws, 0 ≤ x ∧ x ≤ 255) (hsb : ∀ x ∈ ss, 0 ≤ x ∧ x ≤ 255) :
    Calls Try.prog 10 #[vw, vs, .int .i64 from_] w (Ret (.bool true) w) := by
  obtain ⟨Aw, cw, rfl, hlw, hcw, -⟩ := id hw
  obtain ⟨As, cs, rfl, hls, hcs, -⟩ := id hs
  have HW := Lib.hid hw
  have HS := Lib.hid hs
  have HWB := Lib.hid hwb
  have HSB := Lib.hid hsb
  clear hw hs hwb hsb
  go_enter Try.func10, Try.ntmps10
  go_upto_block 0 with fail
  go_cut [7] (fun s7 wx => ∃ (pl : List Int) (Ap : Option Addr) (cp : Nat), s7 = .slice Ap pl.length cp ∧ pl.length ≤ 4 ∧ (∀ c ∈ pl, 97 ≤ c ∧ c ≤ 99) ∧ Ext w wx ∧ OwnB 21 1 Cc w.heap.size wx (.slice Ap pl.length cp) pl)
  case first =>
    go_wp2_with fail
    go_loopw [7, 9] (fun x7 x9 wr => ∃ k : Nat, x9 = .int .i64 (k : Int) ∧ k ≤ ws.length ∧ k ≤ 4 ∧ Ext w wr ∧ OwnB 21 1 Cc w.heap.size wr x7 (letters (ws.take k))) (fun _ x9 _ => 5 - (intOf x9).toNat)
    case atStart => exact ⟨0, rfl, Nat.zero_le _, by omega, Ext.refl _, OwnB.nil_⟩
    case round =>
      obtain ⟨k, rfl, hk, hk4, hx, hown⟩ := hrel
      have HX := Lib.hid hx
      have HO := Lib.hid hown
      have hll : (letters (ws.take k)).length ≤ 1000000 := by rw [letters_len, List.length_take]; omega
      obtain ⟨Ao, co, rfl, -, -⟩ := hown.form
      by_cases hlt : k < ws.length ∧ k < 4
      · obtain ⟨hl1, hl2⟩ := hlt
        have d1 : decide ((k : Int) < (ws.length : Int)) = true := by simp; omega
        have d2 : decide ((k : Int) < 4) = true := by simp; omega
        have d3 : decide (k < 4) = true := by simp; omega
        have hki : (k : Int) < (ws.length : Int) := by omega
        obtain ⟨x, hxk⟩ : ∃ x, ws[k]? = some x := ⟨_, List.getElem?_eq_getElem hl1⟩
        have HSN := Lib.hid (letters_snoc ws k x hxk)
        obtain ⟨b, o, rfl, hc⟩ := SlR.at_ HW.out hxk
        rw [Nat.mul_one] at hc
        have hc := hx.cell hc
        have hxb := HWB.out x (List.mem_of_getElem? hxk)
        clear hx hown hxk
        go_wp2_with (at_builtin; go_loud (refine app_i32 rfl _ _ rfl w.heap.size _ _ [97 + x % 3] (OwnB.allocs HO.out) rfl ⟨_, 0, none⟩ 1 1 rfl rfl (one_cells rfl) ?hn ?hll ?hB ?_; (case hn => omega); (case hll => (show 1 ≤ 1000; decide)); (case hB => exact Nat.le_trans HX.out.size (by simp)); intro v' w' h1 h2; have HX1 := Lib.hid ((HX.out.alloc _).grown h2 (fun j hj => (HO.out.lt j hj).1)); rw [← HSN.out] at h1; have HO1 := Lib.hid h1; clear h1 h2))
        go_roundw
        case rel => exact ⟨k + 1, by go_num, by omega, by omega, HX1.out, HO1.out⟩
        case measure => simp [intOf]; omega
      have hpl : (letters (ws.take k)).length ≤ 4 := by rw [letters_len, List.length_take]; omega
      have HLW := Lib.hid (letters_low (ws.take k))
      rcases Nat.lt_or_ge k ws.length with hkl | hkl
      · have d1 : decide ((k : Int) < (ws.length : Int)) = true := by simp; omega
        have d2 : decide ((k : Int) < 4) = false := by simp; omega
        have d3 : decide (k < 4) = false := by simp; omega
        clear hx hown
        go_wp2_with fail
        go_meet
        exact ⟨letters (ws.take k), Ao, co, rfl, hpl, HLW.out, HX.out, HO.out⟩
      · have d1 : decide ((k : Int) < (ws.length : Int)) = false := by simp; omega
        clear hx hown
        go_wp2_with fail
        go_meet
        exact ⟨letters (ws.take k), Ao, co, rfl, hpl, HLW.out, HX.out, HO.out⟩
  case rest =>
  obtain ⟨pl, Ap, cp, rfl, hpl, hlow, hx1, hop⟩ := hcut
  have HPW := Lib.hid hlow
  have HX2 := Lib.hid hx1
  have HP2 := Lib.hid hop.sl
  clear hlow hx1 hop
  generalize wc = w2 at HX2 HP2 ⊢
  go_upto_block 2 with fail
  go_cut [8] (fun s8 wx => ∃ (tl : List Int) (At : Option Addr) (ct : Nat), s8 = .slice At tl.length ct ∧ tl.length ≤ 40 ∧ (∀ c ∈ tl, 97 ≤ c ∧ c ≤ 99) ∧ Ext w2 wx ∧ OwnB 21 1 Cc w2.heap.size wx (.slice At tl.length ct) tl)
  case first =>
    go_wp2_with fail
    go_loopw [8, 10] (fun x7 x9 wr => ∃ k : Nat, x9 = .int .i64 (k : Int) ∧ k ≤ ss.length ∧ k ≤ 40 ∧ Ext w2 wr ∧ OwnB 21 1 Cc w2.heap.size wr x7 (letters (ss.take k))) (fun _ x9 _ => 41 - (intOf x9).toNat)
    case atStart => exact ⟨0, rfl, Nat.zero_le _, by omega, Ext.refl _, OwnB.nil_⟩
    case round =>
      obtain ⟨k, rfl, hk, hk4, hx, hown⟩ := hrel
      have HX := Lib.hid hx
      have HO := Lib.hid hown
      have hll : (letters (ss.take k)).length ≤ 1000000 := by rw [letters_len, List.length_take]; omega
      obtain ⟨Ao, co, rfl, -, -⟩ := hown.form
      by_cases hlt : k < ss.length ∧ k < 40
      · obtain ⟨hl1, hl2⟩ := hlt
        have d1 : decide ((k : Int) < (ss.length : Int)) = true := by simp; omega
        have d2 : decide ((k : Int) < 40) = true := by simp; omega
        have d3 : decide (k < 40) = true := by simp; omega
        have hki : (k : Int) < (ss.length : Int) := by omega
        obtain ⟨x, hxk⟩ : ∃ x, ss[k]? = some x := ⟨_, List.getElem?_eq_getElem hl1⟩
        have HSN := Lib.hid (letters_snoc ss k x hxk)
        obtain ⟨b, o, rfl, hc⟩ := SlR.at_ HS.out hxk
        rw [Nat.mul_one] at hc
        have hc := (HX2.out.trans hx).cell hc
        have hxb := HSB.out x (List.mem_of_getElem? hxk)
        clear hx hown hxk
        go_wp2_with (at_builtin; go_loud (refine app_i32 rfl _ _ rfl w2.heap.size _ _ [97 + x % 3] (OwnB.allocs HO.out) rfl ⟨_, 0, none⟩ 1 1 rfl rfl (one_cells rfl) ?hn ?hll ?hB ?_; (case hn => omega); (case hll => (show 1 ≤ 1000; decide)); (case hB => exact Nat.le_trans HX.out.size (by simp)); intro v' w' h1 h2; have HX1 := Lib.hid ((HX.out.alloc _).grown h2 (fun j hj => (HO.out.lt j hj).1)); rw [← HSN.out] at h1; have HO1 := Lib.hid h1; clear h1 h2))
        go_roundw
        case rel => exact ⟨k + 1, by go_num, by omega, by omega, HX1.out, HO1.out⟩
        case measure => simp [intOf]; omega
      have hpl : (letters (ss.take k)).length ≤ 40 := by rw [letters_len, List.length_take]; omega
      have HLW := Lib.hid (letters_low (ss.take k))
      rcases Nat.lt_or_ge k ss.length with hkl | hkl
      · have d1 : decide ((k : Int) < (ss.length : Int)) = true := by simp; omega
        have d2 : decide ((k : Int) < 40) = false := by simp; omega
        have d3 : decide (k < 40) = false := by simp; omega
        clear hx hown
        go_wp2_with fail
        go_meet
        exact ⟨letters (ss.take k), Ao, co, rfl, hpl, HLW.out, HX.out, HO.out⟩
      · have d1 : decide ((k : Int) < (ss.length : Int)) = false := by simp; omega
        clear hx hown
        go_wp2_with fail
        go_meet
        exact ⟨letters (ss.take k), Ao, co, rfl, hpl, HLW.out, HX.out, HO.out⟩
  case rest =>
  obtain ⟨tl, At, ct, rfl, htl, hlow, hx2, hot⟩ := hcut
  have HTW := Lib.hid hlow
  obtain ⟨Ac, cc, hsf, htc, htm⟩ := hot.form
  injection hsf with e1 _ e3
  subst e1 e3
  have HPC := Lib.hid ((SlB.slc HP2.out).ext hx2)
  have HTC := Lib.hid (SlB.slc hot.sl)
  have HPB := Lib.hid (SlB.keep HP2.out (keeps_c []) (fun _ _ _ h => by cases h) (KeepT.of_ext hx2))
  have HX3 := Lib.hid (HX2.out.trans hx2)
  clear hlow hx2 hot HX2 HP2 HW HS HWB HSB
  generalize wc = w0 at HX3 HPB HPC HTC ⊢
  have hs1 : IntKind.i64.wrap ((tl.length : Int) + 1) = (tl.length : Int) + 1 := IntWalk.i64_in _ (by omega)
  go_upto_region 11 with (go_at_call 18; go_loud (refine (kindex_any _ _ (by omega) (by omega) _).mono ?_; rintro e w3 ⟨⟨fr, hfr, rfl⟩, rfl⟩))
  have hfl : fr ≤ tl.length := by omega
  clear hfr hs1
  go_upto_block 4 with fail
  go_cut [11] (fun s11 wx => ∃ at_ : Nat, s11 = .int .i64 (at_ : Int) ∧ fr ≤ at_ ∧ Ext w3 wx ∧ (∀ q, fr ≤ q → q < at_ → MX.standsL tl pl q = false) ∧ at_ ≤ tl.length + 1 ∧ (at_ + pl.length ≤ tl.length → MX.standsL tl pl at_ = true))
  case first =>
    go_wp2_with fail
    go_loopw [11] (fun x11 wr => ∃ at_ : Nat, x11 = .int .i64 (at_ : Int) ∧ fr ≤ at_ ∧ at_ ≤ tl.length + 1 ∧ Ext w3 wr ∧ ∀ q, fr ≤ q → q < at_ → MX.standsL tl pl q = false) (fun x11 _ => 42 - (intOf x11).toNat)
    case atStart => exact ⟨fr, rfl, Nat.le_refl _, by omega, Ext.refl _, fun q h1 h2 => by omega⟩
    case round =>
      obtain ⟨k, rfl, hk1, hk2, hx, hno⟩ := hrel
      have HX := Lib.hid hx
      have HNO := Lib.hid hno
      have s3 : IntKind.i64.wrap ((tl.length : Int) - (pl.length : Int)) = (tl.length : Int) - (pl.length : Int) := IntWalk.i64_in _ (by omega)
      clear hno
      by_cases hin : k + pl.length ≤ tl.length
      rotate_left
      · have d1 : decide ((k : Int) ≤ (tl.length : Int) - (pl.length : Int)) = false := by simp; omega
        clear hx
        go_wp2_with fail
        go_meet
        exact ⟨k, rfl, hk1, HX.out, HNO.out, hk2, fun h => absurd h hin⟩
      have d1 : decide ((k : Int) ≤ (tl.length : Int) - (pl.length : Int)) = true := by simp; omega
      obtain ⟨i0, hi0, hz0, hz1, hz2⟩ := info_parts info_c
      have hsl := fun W => run_sl_both (P := Try.prog) Try.underlying23 hi0 At (n := tl.length) (c := ct) (k := k) (m := k + pl.length) (Nat.le_add_right _ _) (by omega) W
      rw [hz1] at hsl
      simp only [Int.natCast_add, Nat.add_sub_cancel_left] at hsl
      have hcut := SlC.cut3 (HTC.out.ext hx) (i := k) (m := k + pl.length) (Nat.le_add_right _ _) hin
      rw [Nat.add_sub_cancel_left] at hcut
      have hiff := MX.stands_iff HTW.out pl k HPW.out
      have HSM := Lib.hid (same_any _ _ _ _ wr hcut (HPC.out.ext hx))
      clear hx hcut
      rcases hst : MX.standsL tl pl k with _ | _
      · have HD := Lib.hid (show decide ((tl.drop k).take pl.length = pl) = false from decide_eq_false (fun h => by rw [hiff.2 h] at hst; cases hst))
        have HST := Lib.hid hst
        clear hiff hst
        go_wp2_with (go_at_call 38; go_loud (refine HSM.out.mono ?_; rw [HD.out]; rintro e w6 ⟨rfl, hE6⟩; have HE6 := Lib.hid hE6; clear hE6))
        go_roundw
        case rel => exact ⟨k + 1, by go_num, by omega, by omega, HX.out.trans HE6.out, fun q h1 h2 => by
          rcases Nat.lt_or_ge q k with h | h
          · exact HNO.out q h1 h
          · obtain rfl : q = k := by omega
            exact HST.out⟩
        case measure => simp [intOf]; omega
      · have HD := Lib.hid (show decide ((tl.drop k).take pl.length = pl) = true from decide_eq_true (hiff.1 hst))
        have HST := Lib.hid hst
        clear hiff hst
        go_wp2_with (go_at_call 38; go_loud (refine HSM.out.mono ?_; rw [HD.out]; rintro e w6 ⟨rfl, hE6⟩; have HE6 := Lib.hid hE6; clear hE6))
        go_meet
        exact ⟨k, rfl, hk1, HX.out.trans HE6.out, HNO.out, hk2, fun _ => HST.out⟩
  case rest =>
  obtain ⟨at_, rfl, hat1, hx4, hno, hat2, hyes⟩ := hcut
  have HPC := Lib.hid (HPC.out.ext hx4)
  have HTC := Lib.hid (HTC.out.ext hx4)
  have HPB := Lib.hid (SlB.keep HPB.out (keeps_c []) (fun _ _ _ h => by cases h) (KeepT.of_ext hx4))
  have HX4 := Lib.hid (HX3.out.trans hx4)
  have HNO := Lib.hid hno
  have HYES := Lib.hid hyes
  clear hx4 hno hyes HX3
  generalize wc = w4 at HX4 HPB HPC HTC ⊢
  have HOWN := Lib.hid (lit_c w4 [40] (Nat.le_refl _) (by decide))
  have HSRC := Lib.hid (SlB.keep HPB.out (keeps_c []) (fun _ _ _ h => by cases h) (KeepT.of_ext ((Ext.refl w4).alloc (.cells #[.int .i32 40] 21))))
  have HCO := Lib.hid (MX.compile_word hpl HPW.out)
  obtain ⟨t, htp, htg⟩ := MX.parse_word hpl HPW.out
  have HPA := Lib.hid htp
  have HG := Lib.hid htg
  have HK := Lib.hid known10_any
  have HSI := Lib.hid sameInts_any
  have tok1 : True := trivial
  clear htp htg
  go_upto_region 15 with (first
    | (at_builtin; have _t := tok1; go_loud (refine app_src rfl _ _ rfl w4.heap.size _ (.slice (some ⟨w4.heap.size, 0, none⟩) 1 1) _ [40] pl HOWN.out rfl rfl HSRC.out (by decide) ?hn2 ?hB ?_; (case hn2 => omega); (case hB => (simp; done)); intro v5 w5 h1 h2; have hE5 : Ext w4 w5 := ((Ext.refl w4).alloc _).grown h2 (fun k hk => (HOWN.out.lt k hk).1); generalize hl : ([40] : List Int) ++ pl = o5 at h1; have HL5 := Lib.hid hl; have hl5 : o5.length ≤ 5 := (by rw [← hl, List.length_append]; simp only [List.length_cons, List.length_nil]; omega); obtain ⟨A5, c5, rfl, -⟩ := h1.form; have HO5 := Lib.hid h1; have HE5 := Lib.hid hE5; clear h1 h2 hE5 hl tok1 _t))
    | (at_builtin; go_loud (refine app_i32 rfl _ _ rfl w4.heap.size _ o5 [41] (OwnB.allocs HO5.out) rfl ⟨_, 0, none⟩ 1 1 rfl rfl (one_cells rfl) ?hn ?hll ?hB ?_; (case hn => omega); (case hll => (show 1 ≤ 1000; decide)); (case hB => exact Nat.le_trans HE5.out.size (by simp)); intro v6 w6 h1 h2; have hE6 : Ext w4 w6 := (HE5.out.alloc _).grown h2 (fun k hk => (HO5.out.lt k hk).1); generalize hl : o5 ++ [41] = o6 at h1; have HL6 := Lib.hid hl; obtain ⟨A6, c6, rfl, -⟩ := h1.form; have HO6 := Lib.hid h1; have HE6 := Lib.hid hE6; clear h1 h2 hE6 hl))
    | (go_at_call 31; go_loud (have hin : o6 = MX.inGroup pl := (by rw [← HL6.out, ← HL5.out]; rfl); have hco := HCO.out; have hpa := HPA.out; rw [← hin] at hco hpa; refine (mnew_ok true hco hpa (SlB.slc HO6.out.sl)).mono ?_; rintro e w7 ⟨hE7, k7, mb, vp, hmd, hst, hgl, rfl, hmt⟩; rw [HG.out] at hmd hmt; have HMD := Lib.hid hmd; have HST := Lib.hid hst; have HMT := Lib.hid hmt; have HE7 := Lib.hid (HE6.out.trans hE7); clear hmd hst hgl hmt hE7 hin hco hpa)))
  have hx8 := HE7.out.alloc (.cells #[.int .i64 0, .int .i64 0] 36)
  have f0 : (w7.alloc (.cells #[.int .i64 0, .int .i64 0] 36)).cell? ⟨w7.heap.size, 0, none⟩ = some (.int .i64 0) := by rw [World.cell?_alloc_new]; rfl
  have HM8 := Lib.hid (HMT.out.ext ((Ext.refl w7).alloc (.cells #[.int .i64 0, .int .i64 0] 36)))
  have HT8 := Lib.hid (HTC.out.ext hx8)
  have HX8 := Lib.hid (HX4.out.trans hx8)
  clear hx8
  generalize w7.alloc _ = w8 at f0 HM8 HT8 HX8 ⊢
  generalize w7.heap.size = fb at f0 ⊢
  have HCA := Lib.hid (fun (w' : World) (h : Ext w8 w') => rcase_any 1 (by decide) (by decide) tl _ w' (HT8.out.ext h) (by omega))
  have s3 : IntKind.i64.wrap ((tl.length : Int) - (pl.length : Int)) = (tl.length : Int) - (pl.length : Int) := IntWalk.i64_in _ (by omega)
  have s4 : IntKind.i64.wrap ((at_ : Int) + (pl.length : Int)) = (at_ : Int) + (pl.length : Int) := IntWalk.i64_in _ (by omega)
  by_cases hin : at_ + pl.length ≤ tl.length
  · have d1 : decide ((tl.length : Int) - (pl.length : Int) < (at_ : Int)) = false := by simp; omega
    have hF := MX.word_some (n := tl.length) hat1 (by omega) (HYES.out hin) HNO.out
    have he : ([(at_ : Int), ((at_ + pl.length : Nat) : Int), (at_ : Int), ((at_ + pl.length : Nat) : Int)] : List Int) = [(at_ : Int), (at_ : Int) + (pl.length : Int), (at_ : Int), (at_ : Int) + (pl.length : Int)] := by simp only [Int.natCast_add]
    rw [he] at hF
    have HF := Lib.hid hF
    clear hF he
    have HQ := Lib.hid (show eqB [(at_ : Int), (at_ : Int) + (pl.length : Int), (at_ : Int), (at_ : Int) + (pl.length : Int)] [(at_ : Int), (at_ : Int) + (pl.length : Int), (at_ : Int), (at_ : Int) + (pl.length : Int)] = true from by simp [eqB])
    go_wp2_with fail
    refine (mfind_hit HMD.out HST.out (by decide) HM8.out HT8.out (by omega) fr hfl HF.out).mono ?_
    rintro e w9 ⟨hE9, v9, rfl, hn9⟩
    have HE9 := Lib.hid hE9
    have HN9 := Lib.hid hn9
    obtain ⟨nb9, rfl, -, -⟩ := hn9
    clear hE9
    go_wp2_with fail
    refine (HCA.out _ HE9.out).mono ?_
    rintro e w10 ⟨v10, rfl, ho10, hE10⟩
    have HE10 := Lib.hid (HE9.out.trans hE10)
    have HN10 := Lib.hid (HN9.out.ext hE10)
    have HO10 := Lib.hid (SlB.slc ho10.sl)
    have hcl := caseR_len 1 tl
    obtain ⟨A10, c10, rfl, -⟩ := ho10.form
    clear hE10 ho10
    have hF2 := HF.out
    rw [← MX.act_case (caseR_up tl), ← hcl] at hF2
    have HF2 := Lib.hid hF2
    have HCL := Lib.hid hcl
    clear hF2 hcl
    generalize caseR 1 tl = ul at HF2 HCL HO10 ⊢
    go_wp2_with fail
    refine (mfind_hit HMD.out HST.out (by decide) (HM8.out.ext HE10.out) HO10.out (by have := HCL.out; omega) fr (by have := HCL.out; omega) HF2.out).mono ?_
    rintro e w11 ⟨hE11, v11, rfl, hn11⟩
    have HE11 := Lib.hid (HE10.out.trans hE11)
    have HN11 := Lib.hid ((HN10.out.ext hE11).sli (by simp))
    have HM11 := Lib.hid (hn11.sli (by simp))
    obtain ⟨nb11, rfl, -, -⟩ := hn11
    clear hE11
    have hW := (Ext.refl w11).alloc (.cells ([(at_ : Int), (at_ : Int) + (pl.length : Int), (at_ : Int), (at_ : Int) + (pl.length : Int)].map (Value.int .i64)).toArray 3)
    have HWT := Lib.hid (sli_lits (w := w11) (t := 3) [(at_ : Int), (at_ : Int) + (pl.length : Int), (at_ : Int), (at_ : Int) + (pl.length : Int)] rfl rfl (by simp))
    have HN12 := Lib.hid (SlI.ext HN11.out hW)
    have HM12 := Lib.hid (SlI.ext HM11.out hW)
    have HE12 := Lib.hid (HX8.out.trans (HE11.out.trans hW))
    have tok2 : True := trivial
    clear hW
    go_wp2_with (first
      | (go_at_call 36; have _t := tok2; go_loud (refine (HSI.out _ _ _ _ _ HN12.out HWT.out).mono ?_; rw [HQ.out]; rintro e w13 ⟨rfl, hE13⟩; have HWT := Lib.hid (SlI.ext HWT.out hE13); have HM12 := Lib.hid (SlI.ext HM12.out hE13); have HE13 := Lib.hid (HE12.out.trans hE13); clear hE13 tok2 _t))
      | (go_at_call 36; go_loud (refine (HSI.out _ _ _ _ _ HM12.out HWT.out).mono ?_; rw [HQ.out]; rintro e w14 ⟨rfl, hE14⟩; have HE14 := Lib.hid (HE13.out.trans hE14); clear hE14))
      | (go_at_call 33; go_loud (refine (HK.out _).mono ?_; rintro e w15 ⟨rfl, hE15⟩)))
    go_ret
    exact ⟨rfl, HE14.out.trans hE15⟩
  · have d1 : decide ((tl.length : Int) - (pl.length : Int) < (at_ : Int)) = true := by simp; omega
    have hF := MX.word_none (w := pl) (s := tl) (n := tl.length) (from_ := fr) (fun q h1 h2 => by
      rcases Nat.lt_or_ge q at_ with h | h
      · exact HNO.out q h1 h
      · rcases hst : MX.standsL tl pl q with _ | _
        · rfl
        · have h3 := (MX.stands_iff HTW.out pl q HPW.out).1 hst
          have h4 := congrArg List.length h3
          rw [List.length_take, List.length_drop] at h4
          omega)
    have HF := Lib.hid hF
    clear hF
    go_wp2_with fail
    refine (mfind_miss HMD.out HST.out (by decide) HM8.out HT8.out (by omega) fr hfl HF.out).mono ?_
    rintro e w9 ⟨rfl, hE9⟩
    have HE9 := Lib.hid hE9
    clear hE9
    go_wp2_with fail
    refine (HCA.out _ HE9.out).mono ?_
    rintro e w10 ⟨v10, rfl, ho10, hE10⟩
    have HE10 := Lib.hid (HE9.out.trans hE10)
    have HO10 := Lib.hid (SlB.slc ho10.sl)
    have hcl := caseR_len 1 tl
    obtain ⟨A10, c10, rfl, -⟩ := ho10.form
    clear hE10 ho10
    have hF2 := HF.out
    rw [← MX.act_case (caseR_up tl), ← hcl] at hF2
    have HF2 := Lib.hid hF2
    have HCL := Lib.hid hcl
    clear hF2 hcl
    generalize caseR 1 tl = ul at HF2 HCL HO10 ⊢
    go_wp2_with fail
    refine (mfind_miss HMD.out HST.out (by decide) (HM8.out.ext HE10.out) HO10.out (by have := HCL.out; omega) fr (by have := HCL.out; omega) HF2.out).mono ?_
    rintro e w11 ⟨rfl, hE11⟩
    have HE11 := Lib.hid (HX8.out.trans (HE10.out.trans hE11))
    clear hE11
    go_wp2_with (go_at_call 33; go_loud (refine (HK.out _).mono ?_; rintro e w15 ⟨rfl, hE15⟩))
    go_ret
    exact ⟨rfl, HE11.out.trans hE15⟩
end Go.Proofs.Ytfblkahjefdmaaa
