/- Walk: shifted of the document's own programs. -/
import Derived.Test.YtfblkahjefdmaaaGreatCb
namespace Go.Proofs.YtfblkahjefdmaaaGreat
open Go.RowKit

/-- The call returned instructions; what was there is as it was. -/
def JR (B : Nat) (l : List PG.Inst) (w : World) (e : Ending) (w' : World) : Prop := Ext w w' ∧ ∃ A c, e = .returned (.slice A l.length c) ∧ SlB 72 5 (IcW B) w.heap.size w' (.slice A l.length c) l
set_option maxRecDepth 100000 in
set_option maxHeartbeats 2000000 in
theorem rshift_any {B : Nat} (l : List PG.Inst) (v : Value) (w : World) (k : Int) {base : Nat} (hl : SlB 72 5 (IcW B) base w v l) (hk0 : 0 ≤ k) (hk : k ≤ 1000000) (hm : l.length ≤ 1000000) (ht : PG.Tb 1000000 l) :
    Calls Tryz.prog 39 #[v, .int .i64 k] w (JR B (l.map (PG.moved k)) w) := by
  obtain ⟨A, c, rfl, hlc, hcm⟩ := hl.form
  have HL := Lib.hid hl
  have HT := Lib.hid ht
  have HLM := Lib.hid (show (l.map (PG.moved k)).length = l.length from List.length_map _)
  clear hl ht
  go_enter Tryz.func39, Tryz.ntmps39
  go_upto_region 3 with fail
  go_loopw [5, 6] (fun v5 x wr => ∃ j : Nat, j ≤ l.length ∧ x = .int .i64 j ∧ Ext w wr ∧ OwnJ B w.heap.size wr v5 ((l.take j).map (PG.moved k))) (fun _ x _ => l.length - (intOf x).toNat)
  case atStart => exact ⟨0, Nat.zero_le _, rfl, Ext.refl _, OwnB.nil_⟩
  case round =>
    obtain ⟨j, hj, rfl, hx, ho⟩ := hrel
    have HX := Lib.hid hx
    have HO := Lib.hid ho
    have hws := hx.size
    obtain ⟨xs, hxs⟩ : ∃ xs, (l.take j).map (PG.moved k) = xs := ⟨_, rfl⟩
    rw [hxs] at HO
    have hxl : xs.length ≤ 1000000 := by rw [← hxs, List.length_map, List.length_take]; omega
    obtain ⟨A5, c5, rfl, -⟩ := HO.out.form
    clear hx ho
    by_cases hlt : j < l.length
    · obtain ⟨g, o, cs, rfl, hcr, hcell⟩ := HL.out.at_ hlt
      obtain ⟨vs, rfl, hvs⟩ := hcr
      have htb := HT.out _ (List.getElem_mem hlt)
      have HNX := Lib.hid (show (l.take (j + 1)).map (PG.moved k) = xs ++ [PG.moved k l[j]] by rw [List.take_succ_eq_append_getElem hlt, List.map_append, ← hxs]; rfl)
      obtain ⟨i, hi⟩ : ∃ i, l[j] = i := ⟨_, rfl⟩
      rw [hi] at hcell hvs htb HNX
      obtain ⟨op, ix, iy, neg, set⟩ := i
      obtain ⟨As, cs, rfl, -⟩ := hvs.form
      have HVS := Lib.hid hvs
      have e0 : wr.cell? ⟨g, o + j * 5, none⟩ = _ := HX.out.cell (hcell 0 _ rfl)
      have e1 := HX.out.cell (hcell 1 _ rfl)
      have e2 := HX.out.cell (hcell 2 _ rfl)
      have e3 := HX.out.cell (hcell 3 _ rfl)
      have e4 := HX.out.cell (hcell 4 _ rfl)
      dsimp only at htb e0 e1 e2 e3 e4
      have b1 : (j : Int) < (l.length : Int) := by omega
      have b3 : (0 : Int) ≤ (j : Int) := by omega
      clear hcell hvs hi hxs
      by_cases h4 : op = 4
      · subst h4
        obtain ⟨a1, a2, a3, a4⟩ := htb.1 rfl
        have HM := Lib.hid (show PG.moved k ⟨4, ix, iy, neg, set⟩ = ⟨4, ix + k, iy + k, neg, set⟩ from rfl)
        rw [HM.out] at HNX
        clear htb
        go_wp2_with (at_builtin; go_loud (refine app_one Tryz.underlying45 info_inst rfl (by decide) (by decide) (keeps_icw B) (by simp) rfl _ _ rfl w.heap.size _ xs ⟨4, ix + k, iy + k, neg, set⟩ [.int .i64 4, .int .i64 (ix + k), .int .i64 (iy + k), .bool neg, .slice As set.length cs] 72 (HO.out.ext ((Ext.refl wr).alloc _)) ⟨_, rfl, SlB.keep HVS.out (keeps_c []) (fun _ _ _ h => by cases h) (KeepT.of_ext (HX.out.alloc _))⟩ rfl (by simp [Value.oneCell']) rfl _ rfl (by simp) hxl (by simp; omega) ?_; intro v9 w9 h1 h2; have HX9 := Lib.hid (((HX.out.alloc _).alloc _).grown h2 (fun b hb => (HO.out.lt b hb).1)); have HO9 := Lib.hid h1; clear h1 h2))
        go_roundw
        case rel => exact ⟨j + 1, by omega, by go_num, HX9.out, by rw [HNX.out]; exact HO9.out⟩
        case measure => simp [intOf]; omega
      by_cases h5 : op = 5
      · subst h5
        obtain ⟨a1, a2⟩ := htb.2 rfl
        have HM := Lib.hid (show PG.moved k ⟨5, ix, iy, neg, set⟩ = ⟨5, ix + k, iy, neg, set⟩ from rfl)
        rw [HM.out] at HNX
        clear htb
        go_wp2_with (at_builtin; go_loud (refine app_one Tryz.underlying45 info_inst rfl (by decide) (by decide) (keeps_icw B) (by simp) rfl _ _ rfl w.heap.size _ xs ⟨5, ix + k, iy, neg, set⟩ [.int .i64 5, .int .i64 (ix + k), .int .i64 (iy), .bool neg, .slice As set.length cs] 72 (HO.out.ext ((Ext.refl wr).alloc _)) ⟨_, rfl, SlB.keep HVS.out (keeps_c []) (fun _ _ _ h => by cases h) (KeepT.of_ext (HX.out.alloc _))⟩ rfl (by simp [Value.oneCell']) rfl _ rfl (by simp) hxl (by simp; omega) ?_; intro v9 w9 h1 h2; have HX9 := Lib.hid (((HX.out.alloc _).alloc _).grown h2 (fun b hb => (HO.out.lt b hb).1)); have HO9 := Lib.hid h1; clear h1 h2))
        go_roundw
        case rel => exact ⟨j + 1, by omega, by go_num, HX9.out, by rw [HNX.out]; exact HO9.out⟩
        case measure => simp [intOf]; omega
      have HM := Lib.hid (show PG.moved k ⟨op, ix, iy, neg, set⟩ = ⟨op, ix, iy, neg, set⟩ by unfold PG.moved; rw [if_neg h4, if_neg h5])
      rw [HM.out] at HNX
      have q4 : (op == 4) = false := by simpa using h4
      have q5 : (op == 5) = false := by simpa using h5
      clear htb
      go_wp2_with (at_builtin; go_loud (refine app_one Tryz.underlying45 info_inst rfl (by decide) (by decide) (keeps_icw B) (by simp) rfl _ _ rfl w.heap.size _ xs ⟨op, ix, iy, neg, set⟩ [.int .i64 op, .int .i64 (ix), .int .i64 (iy), .bool neg, .slice As set.length cs] 72 (HO.out.ext ((Ext.refl wr).alloc _)) ⟨_, rfl, SlB.keep HVS.out (keeps_c []) (fun _ _ _ h => by cases h) (KeepT.of_ext (HX.out.alloc _))⟩ rfl (by simp [Value.oneCell']) rfl _ rfl (by simp) hxl (by simp; omega) ?_; intro v9 w9 h1 h2; have HX9 := Lib.hid (((HX.out.alloc _).alloc _).grown h2 (fun b hb => (HO.out.lt b hb).1)); have HO9 := Lib.hid h1; clear h1 h2))
      go_roundw
      case rel => exact ⟨j + 1, by omega, by go_num, HX9.out, by rw [HNX.out]; exact HO9.out⟩
      case measure => simp [intOf]; omega
    · obtain rfl : j = l.length := by omega
      have HN := Lib.hid (show xs = l.map (PG.moved k) by rw [← hxs, List.take_length])
      have HXL := Lib.hid (show xs.length = l.length by rw [HN.out]; exact HLM.out)
      go_wp2_with fail
      go_ret
      rw [← HN.out]
      exact ⟨HX.out, A5, c5, rfl, HO.out.sl⟩
end Go.Proofs.YtfblkahjefdmaaaGreat

/- Walk: split of the document's own programs; words for a row that is laid on. -/
namespace Go.Proofs.YtfblkahjefdmaaaGreat
open Go.RowKit

/-- A row of the call's own that is laid on; all that stood at its entry stands. -/
structure Ly (B : Nat) (w wr : World) (v : Value) (out : List PG.Inst) : Prop where
  ext : Ext w wr
  own : OwnJ B w.heap.size wr v out
section
variable {B : Nat} {w wr w' : World} {v v' : Value} {out out' : List PG.Inst}
theorem Ly.nil_ : Ly B w w (.slice none 0 0) [] := ⟨Ext.refl _, OwnB.nil_⟩
theorem Ly.ext_ (h : Ly B w wr v out) (hx : Ext wr w') : Ly B w w' v out := ⟨h.ext.trans hx, h.own.ext hx⟩
theorem Ly.app (h : Ly B w wr v out) (h1 : OwnJ B w.heap.size w' v' out') (h2 : wr.grownBy w' v.ownBlock) : Ly B w w' v' out' := ⟨h.ext.grown h2 (fun b hb => (h.own.lt b hb).1), h1⟩
theorem Ly.size (h : Ly B w wr v out) : w.heap.size ≤ wr.heap.size := h.ext.size
theorem Ly.ret {A : Option Addr} {c : Nat} (h : Ly B w wr (.slice A out.length c) out) : JR B out w (.returned (.slice A out.length c)) wr := ⟨h.ext, A, c, rfl, h.own.sl⟩
/-- What lies beyond a bound stays, where an own row below it is laid on. -/
theorem Ly.keep (h : Ly B w wr v out) (h2 : wr.grownBy w' v.ownBlock) {base : Nat} {u : Value} {l : List PG.Inst} (hl : SlB 72 5 (IcW B) base wr u l) (hb : ∀ k, v.ownBlock = some k → k < base) : SlB 72 5 (IcW B) base w' u l := by
  have hT : KeepT [21] wr w' := KeepT.of_grown h2 (fun g hg => by
    obtain ⟨cur, hh⟩ := h.own.type g hg
    exact ⟨cur, _, hh, by decide⟩)
  obtain ⟨A, c, hv, h3, h4, h5, h6⟩ := hl
  refine ⟨A, c, hv, h3, h4, h5, fun ad had => ?_⟩
  obtain ⟨g, o, cur, rfl, hg, hh, ho, hx⟩ := h6 ad had
  refine ⟨g, o, cur, rfl, hg, (h2.block g (heap_lt hh) (by intro e; have := hb g e.symm; omega)).trans hh, ho, fun k x hk => ?_⟩
  obtain ⟨cs, h7, h8⟩ := hx k x hk
  exact ⟨cs, keeps_icw B _ _ _ _ hT h7, h8⟩
end
theorem JR.weaken {B : Nat} {l : List PG.Inst} {w w1 : World} {e : Ending} {w' : World} (hx : Ext w w1) (h : JR B l w1 e w') : JR B l w e w' := by
  obtain ⟨h1, A, c, h2, h3⟩ := h
  exact ⟨hx.trans h1, A, c, h2, h3.weaken hx.size⟩
set_option maxRecDepth 100000 in
set_option maxHeartbeats 1000000 in
theorem rsplit_any (kind deep lo hi : Int) (lazy neg : Bool) (sv : Value) (on off : Int) (w : World) :
    Calls Tryz.prog 75 #[.agg #[.int .i64 kind, .int .i64 deep, .int .i64 lo, .int .i64 hi, .bool lazy, .bool neg, sv], .int .i64 on, .int .i64 off] w (Ret (.agg #[.int .i64 (PG.sp2 lazy on off).op, .int .i64 (PG.sp2 lazy on off).x, .int .i64 (PG.sp2 lazy on off).y, .bool (PG.sp2 lazy on off).neg, .slice none 0 0]) w) := by
  cases lazy
  · have HM := Lib.hid (show PG.sp2 false on off = ⟨4, on, off, false, []⟩ from rfl)
    rw [HM.out]
    go_enter Tryz.func75, Tryz.ntmps75
    go_wp2_with fail
    refine bodyPost_ret (v := .agg #[.int .i64 4, .int .i64 on, .int .i64 off, .bool false, .slice none 0 0]) (by simp [results, Tryz.results75, go_sem]) rfl ?_
    exact ⟨rfl, by (focus (repeat (first | with_reducible exact Ext.refl _ | with_reducible apply Ext.alloc | with_reducible apply Ext.set9 | (with_reducible refine Ext.setg ?_ ?_; (simp; done)))))⟩
  · have HM := Lib.hid (show PG.sp2 true on off = ⟨4, off, on, false, []⟩ from rfl)
    rw [HM.out]
    go_enter Tryz.func75, Tryz.ntmps75
    go_wp2_with fail
    refine bodyPost_ret (v := .agg #[.int .i64 4, .int .i64 off, .int .i64 on, .bool false, .slice none 0 0]) (by simp [results, Tryz.results75, go_sem]) rfl ?_
    exact ⟨rfl, by (focus (repeat (first | with_reducible exact Ext.refl _ | with_reducible apply Ext.alloc | with_reducible apply Ext.set9 | (with_reducible refine Ext.setg ?_ ?_; (simp; done)))))⟩
end Go.Proofs.YtfblkahjefdmaaaGreat

/- Walk: repeated of the document's own programs. -/
namespace Go.Proofs.YtfblkahjefdmaaaGreat
open Go.RowKit

theorem sp2_set (lz : Bool) (a b : Int) : (PG.sp2 lz a b).set = [] := by cases lz <;> rfl
set_option maxRecDepth 100000 in
set_option maxHeartbeats 4000000 in
theorem rrep_any {B base : Nat} (kind deep lo hi : Int) (lazy neg : Bool) (sv : Value) (c : List PG.Inst) (v : Value) (w : World) (hc : SlB 72 5 (IcW B) base w v c)
    (hlo0 : 0 ≤ lo) (hlo9 : lo ≤ 9) (hhi9 : hi ≤ 9) (hr : hi < 0 ∨ lo ≤ hi) (hcl : c.length ≤ 50000) (htb : PG.Tb 50000 c) :
    Calls Tryz.prog 61 #[.agg #[.int .i64 kind, .int .i64 deep, .int .i64 lo, .int .i64 hi, .bool lazy, .bool neg, sv], v] w (JR B (PG.repC lo hi lazy c) w) := by
  obtain ⟨A, cp, rfl, -⟩ := hc.form
  obtain ⟨a, rfl⟩ : ∃ a : Nat, lo = a := ⟨lo.toNat, by omega⟩
  have ha9 : a ≤ 9 := by omega
  obtain ⟨R0, hR0⟩ : ∃ R0, PG.rpM c a [] = R0 := ⟨_, rfl⟩
  have HRC := Lib.hid (show PG.repC a hi lazy c = if hi < 0 then R0 ++ [PG.sp2 lazy (R0.length + 1) (R0.length + c.length + 2)] ++ c.map (PG.moved (R0.length + 1 : Nat)) ++ [⟨5, R0.length, 0, false, []⟩] else PG.mayM lazy (R0.length + (hi - a) * (c.length + 1)) c (hi - a).toNat R0 by unfold PG.repC; rw [Int.toNat_natCast, hR0])
  have HR0 := Lib.hid hR0
  obtain ⟨R, hR⟩ : ∃ R, PG.repC a hi lazy c = R := ⟨_, rfl⟩
  rw [hR] at HRC ⊢
  have HTB := Lib.hid (htb.mono (show 50000 ≤ 1000000 by decide))
  obtain ⟨nb, hnb⟩ : ∃ nb, w.heap.size = nb := ⟨_, rfl⟩
  have HC := Lib.hid (SlB.keep hc (keeps_icw B) (KeepT.of_ext ((Ext.refl w).alloc (.cells #[.int .i64 kind, .int .i64 deep, .int .i64 (a : Nat), .int .i64 hi, .bool lazy, .bool neg, sv] 82))) (KeepT.of_ext ((Ext.refl w).alloc (.cells #[.int .i64 kind, .int .i64 deep, .int .i64 (a : Nat), .int .i64 hi, .bool lazy, .bool neg, sv] 82))))
  have HB := Lib.hid (heap_alloc_new w (.cells #[.int .i64 kind, .int .i64 deep, .int .i64 (a : Nat), .int .i64 hi, .bool lazy, .bool neg, sv] 82))
  have HX0 := Lib.hid (show Ext w (w.alloc (.cells #[.int .i64 kind, .int .i64 deep, .int .i64 (a : Nat), .int .i64 hi, .bool lazy, .bool neg, sv] 82)) from (Ext.refl w).alloc _)
  have HSH := Lib.hid (fun w' (k : Int) (h0 : 0 ≤ k) (h1 : k ≤ 1000000) (h : SlB 72 5 (IcW B) base w' (.slice A c.length cp) c) => rshift_any c _ w' k h h0 h1 (by omega) HTB.out)
  rw [hnb] at HB
  clear hc htb hR0 hR
  go_enter Tryz.func61, Tryz.ntmps61
  go_upto_region 3 with fail
  generalize w.alloc (.cells #[.int .i64 kind, .int .i64 deep, .int .i64 (a : Nat), .int .i64 hi, .bool lazy, .bool neg, sv] 82) = w1 at HC HB HX0 ⊢
  clear hnb
  go_loopw [5, 6] (fun v5 x wr => ∃ (k : Nat) (out : List PG.Inst), k ≤ a ∧ x = .int .i64 (k : Nat) ∧ out.length ≤ k * 50000 ∧ PG.rpM c (a - k) out = R0 ∧ Ly B w1 wr v5 out) (fun _ x _ => a - (intOf x).toNat)
  case atStart => exact ⟨0, [], Nat.zero_le _, rfl, by simp, HR0.out, Ly.nil_⟩
  case round =>
    obtain ⟨k, out, hk, rfl, hol, hrp, hly⟩ := hrel
    have HL := Lib.hid hly
    have HRP := Lib.hid hrp
    obtain ⟨A5, c5, rfl, -⟩ := hly.own.form
    have hol2 : out.length ≤ 450000 := by omega
    have c0 := cell_of_row wr nb 0 _ _ _ (hly.ext.heap HB.out)
    have c1 := cell_of_row wr nb 1 _ _ _ (hly.ext.heap HB.out)
    have c2 := cell_of_row wr nb 2 _ _ _ (hly.ext.heap HB.out)
    have c3 := cell_of_row wr nb 3 _ _ _ (hly.ext.heap HB.out)
    have c4 := cell_of_row wr nb 4 _ _ _ (hly.ext.heap HB.out)
    have c5' := cell_of_row wr nb 5 _ _ _ (hly.ext.heap HB.out)
    have c6 := cell_of_row wr nb 6 _ _ _ (hly.ext.heap HB.out)
    have HC1 := Lib.hid (SlB.keep HC.out (keeps_icw B) (KeepT.of_ext hly.ext) (KeepT.of_ext hly.ext))
    clear hly hrp
    by_cases hlt : k < a
    · obtain ⟨cm, hcm⟩ : ∃ cm, c.map (PG.moved (out.length : Int)) = cm := ⟨_, rfl⟩
      have hcml : cm.length ≤ 50000 := by rw [← hcm, List.length_map]; exact hcl
      have HS := Lib.hid (HSH.out wr out.length (by omega) (by omega) HC1.out)
      have HRP2 := Lib.hid (show PG.rpM c (a - (k + 1)) (out ++ cm) = R0 by rw [← HRP.out, show a - k = (a - (k + 1)) + 1 by omega, PG.rpM, hcm])
      rw [hcm] at HS
      clear hcm
      go_wp2_with (first
        | (go_at_call 39; go_loud (refine (HS.out).mono ?_; rintro e w2 ⟨hx2, A2, c2, rfl, hs2⟩; have HS2 := Lib.hid hs2; have HX2 := Lib.hid hx2; clear hs2 hx2))
        | (at_builtin; go_loud (refine app_rows Tryz.underlying45 info_inst rfl (by decide) (by decide) (keeps_icw B) (by decide) icw_one rfl _ _ rfl w1.heap.size _ _ _ out cm (Ly.ext_ HL.out HX2.out).own HS2.out rfl rfl (by omega) (Ly.ext_ HL.out HX2.out).size ?_; intro v3 w3 h1 h2; obtain ⟨o3, ho3⟩ : ∃ z, out ++ cm = z := ⟨_, rfl⟩; rw [ho3] at h1; obtain ⟨A3, c3, rfl, -⟩ := h1.form; have HL3 := Lib.hid (Ly.app (Ly.ext_ HL.out HX2.out) h1 h2); have hl3 : o3.length ≤ out.length + cm.length := (by rw [← ho3]; simp); have HO3 := Lib.hid ho3; clear h1 h2 ho3)))
      go_roundw
      case rel => exact ⟨k + 1, o3, by omega, by go_num, by omega, by rw [← HO3.out]; exact HRP2.out, HL3.out⟩
      case measure => simp [intOf]; omega
    · obtain rfl : k = a := by omega
      have HR0' := Lib.hid (show out = R0 by rw [← HRP.out, Nat.sub_self]; rfl)
      have HRC2 := HRC.out
      rw [← HR0'.out] at HRC2
      by_cases hneg : hi < 0
      · rw [if_pos hneg] at HRC2
        obtain ⟨i, hi2⟩ : ∃ i, PG.sp2 lazy ((out.length : Int) + 1) (out.length + c.length + 2) = i := ⟨_, rfl⟩
        rw [hi2] at HRC2
        have HIS := Lib.hid (show i.set = [] by rw [← hi2]; exact sp2_set _ _ _)
        have HSP := Lib.hid (fun W => rsplit_any kind deep k hi lazy neg sv ((out.length : Int) + 1) (out.length + c.length + 2) W)
        rw [hi2] at HSP
        obtain ⟨cm, hcm⟩ : ∃ cm, c.map (PG.moved (out.length + 1 : Nat)) = cm := ⟨_, rfl⟩
        have hcml : cm.length ≤ 50000 := by rw [← hcm, List.length_map]; exact hcl
        rw [hcm] at HRC2
        have HRC3 := Lib.hid HRC2
        have HSS := Lib.hid (fun w' (h : SlB 72 5 (IcW B) base w' (.slice A c.length cp) c) => (show Calls Tryz.prog 39 #[.slice A c.length cp, .int .i64 ((out.length : Int) + 1)] w' (JR B cm w') from by have := HSH.out w' ((out.length : Int) + 1) (by omega) (by omega) h; rw [← hcm]; exact this))
        clear hi2 hcm HRC2
        go_upto_region 9 with (first
          | (go_at_call 75; go_loud (refine (HSP.out _).mono ?_; rintro e w2 ⟨rfl, hx2⟩; have HLA := Lib.hid (Ly.ext_ HL.out hx2); clear hx2))
          | (at_builtin; go_loud (refine app_one Tryz.underlying45 info_inst rfl (by decide) (by decide) (keeps_icw B) (by simp) rfl _ _ rfl w1.heap.size _ out i [.int .i64 i.op, .int .i64 i.x, .int .i64 i.y, .bool i.neg, .slice none 0 0] 72 HLA.out.own ⟨_, rfl, (by rw [HIS.out]; exact SlB.nil_)⟩ rfl (by simp [Value.oneCell']) rfl _ rfl (by simp) (by omega) HLA.out.size ?_; intro v3 w3 h1 h2; obtain ⟨o3, ho3⟩ : ∃ z, out ++ [i] = z := ⟨_, rfl⟩; rw [ho3] at h1; obtain ⟨A3, c3, rfl, -⟩ := h1.form; have HL3 := Lib.hid (Ly.app (Ly.ext_ HLA.out ((Ext.refl _).alloc _)) h1 h2); have HH3 := Lib.hid h2; have hl3 : o3.length ≤ out.length + 1 := (by rw [← ho3]; simp); have HO3 := Lib.hid ho3; clear h1 h2 ho3)))
        have HC3 := Lib.hid (SlB.keep HC.out (keeps_icw B) (KeepT.of_ext HL3.out.ext) (KeepT.of_ext HL3.out.ext))
        go_upto_region 10 with (first
          | (go_at_call 39; go_loud (refine (HSS.out _ HC3.out).mono ?_; rintro e w4 ⟨hx4, A4, c4, rfl, hs4⟩; have HS4 := Lib.hid hs4; have HX4 := Lib.hid hx4; clear hs4 hx4))
          | (at_builtin; go_loud (refine app_rows Tryz.underlying45 info_inst rfl (by decide) (by decide) (keeps_icw B) (by decide) icw_one rfl _ _ rfl w1.heap.size _ _ _ o3 cm (Ly.ext_ HL3.out HX4.out).own HS4.out rfl rfl (by omega) (Ly.ext_ HL3.out HX4.out).size ?_; intro v5 w5 h1 h2; obtain ⟨o5, ho5⟩ : ∃ z, o3 ++ cm = z := ⟨_, rfl⟩; rw [ho5] at h1; obtain ⟨A5, c5, rfl, -⟩ := h1.form; have HL5 := Lib.hid (Ly.app (Ly.ext_ HL3.out HX4.out) h1 h2); have hl5 : o5.length ≤ o3.length + cm.length := (by rw [← ho5]; simp); have HO5 := Lib.hid ho5; clear h1 h2 ho5)))
        go_wp2_with (at_builtin; go_loud (refine app_one Tryz.underlying45 info_inst rfl (by decide) (by decide) (keeps_icw B) (by simp) rfl _ _ rfl w1.heap.size _ o5 ⟨5, out.length, 0, false, []⟩ [.int .i64 5, .int .i64 out.length, .int .i64 0, .bool false, .slice none 0 0] 72 HL5.out.own ⟨_, rfl, SlB.nil_⟩ rfl (by simp [Value.oneCell']) rfl _ rfl (by simp) (by omega) HL5.out.size ?_; intro v6 w6 h1 h2; obtain ⟨o6, ho6⟩ : ∃ z, o5 ++ [⟨5, out.length, 0, false, []⟩] = z := ⟨_, rfl⟩; rw [ho6] at h1; obtain ⟨A6, c6, rfl, -⟩ := h1.form; have HL6 := Lib.hid (Ly.app (Ly.ext_ HL5.out ((Ext.refl _).alloc _)) h1 h2); have HH6 := Lib.hid h2; have hl6 : o6.length ≤ o5.length + 1 := (by rw [← ho6]; simp); have HO6 := Lib.hid ho6; clear h1 h2 ho6))
        go_ret
        have HN : o6 = R := by rw [← HO6.out, ← HO5.out, ← HO3.out, HRC3.out]
        rw [← HN]
        exact JR.weaken HX0.out HL6.out.ret
      · rw [if_neg hneg] at HRC2
        have hr2 : (k : Int) ≤ hi := by omega
        obtain ⟨d, hd⟩ : ∃ d : Nat, hi = k + d := ⟨(hi - k).toNat, by omega⟩
        subst hd
        have hd9 : k + d ≤ 9 := by omega
        have p3 : 0 ≤ ((k : Int) + (d : Int) - (k : Int)) * ((c.length : Int) + 1) := Int.mul_nonneg (by omega) (by omega)
        have p4 : ((k : Int) + (d : Int) - (k : Int)) * ((c.length : Int) + 1) ≤ 500000 := Int.le_trans (Int.mul_le_mul (show (k : Int) + (d : Int) - k ≤ 9 by omega) (show (c.length : Int) + 1 ≤ 50001 by omega) (by omega) (by omega)) (by omega)
        obtain ⟨all, hall⟩ : ∃ all : Int, (out.length : Int) + ((k : Int) + (d : Int) - (k : Int)) * ((c.length : Int) + 1) = all := ⟨_, rfl⟩
        rw [hall, show ((k : Int) + (d : Int) - k).toNat = d by omega] at HRC2
        have hall0 : 0 ≤ all := by omega
        have hall1 : all ≤ 1000000 := by omega
        have HRC3 := Lib.hid HRC2
        have HALL := Lib.hid hall
        clear hall HRC2
        go_upto_region 12 with fail
        rw [HALL.out]
        clear p3 p4
        go_upto_region 13 with fail
        go_loopw [5, 9] (fun v5 x w2 => ∃ (m : Nat) (o : List PG.Inst), m ≤ d ∧ x = .int .i64 ((k + m : Nat) : Int) ∧ o.length ≤ 450000 + m * 50001 ∧ PG.mayM lazy all c (d - m) o = R ∧ Ly B w1 w2 v5 o) (fun _ x _ => k + d - (intOf x).toNat)
        case atStart => exact ⟨0, out, Nat.zero_le _, by go_num, by omega, HRC3.out.symm, HL.out⟩
        case round =>
          obtain ⟨m, o, hm, rfl, hol, hrp, hly⟩ := hrel
          have HL := Lib.hid hly
          have HRP := Lib.hid hrp
          obtain ⟨A5, c5, rfl, -⟩ := hly.own.form
          have hol2 : o.length ≤ 950000 := by omega
          have c0 := cell_of_row wr nb 0 _ _ _ (hly.ext.heap HB.out)
          have c1 := cell_of_row wr nb 1 _ _ _ (hly.ext.heap HB.out)
          have c2 := cell_of_row wr nb 2 _ _ _ (hly.ext.heap HB.out)
          have c3 := cell_of_row wr nb 3 _ _ _ (hly.ext.heap HB.out)
          have c4 := cell_of_row wr nb 4 _ _ _ (hly.ext.heap HB.out)
          have c5' := cell_of_row wr nb 5 _ _ _ (hly.ext.heap HB.out)
          have c6 := cell_of_row wr nb 6 _ _ _ (hly.ext.heap HB.out)
          clear hly hrp
          by_cases hlt : m < d
          · obtain ⟨i, hi2⟩ : ∃ i, PG.sp2 lazy ((o.length : Int) + 1) all = i := ⟨_, rfl⟩
            have HIS := Lib.hid (show i.set = [] by rw [← hi2]; exact sp2_set _ _ _)
            have HSP := Lib.hid (fun W => rsplit_any kind deep k (k + d) lazy neg sv ((o.length : Int) + 1) all W)
            rw [hi2] at HSP
            have HI2 := Lib.hid hi2
            clear hi2
            go_upto_region 16 with (first
              | (go_at_call 75; go_loud (refine (HSP.out _).mono ?_; rintro e w2 ⟨rfl, hx2⟩; have HLA := Lib.hid (Ly.ext_ HL.out hx2); clear hx2))
              | (at_builtin; go_loud (refine app_one Tryz.underlying45 info_inst rfl (by decide) (by decide) (keeps_icw B) (by simp) rfl _ _ rfl w1.heap.size _ o i [.int .i64 i.op, .int .i64 i.x, .int .i64 i.y, .bool i.neg, .slice none 0 0] 72 HLA.out.own ⟨_, rfl, (by rw [HIS.out]; exact SlB.nil_)⟩ rfl (by simp [Value.oneCell']) rfl _ rfl (by simp) (by omega) HLA.out.size ?_; intro v3 w3 h1 h2; obtain ⟨o3, ho3⟩ : ∃ z, o ++ [i] = z := ⟨_, rfl⟩; rw [ho3] at h1; obtain ⟨A3, c3, rfl, -⟩ := h1.form; have HL3 := Lib.hid (Ly.app (Ly.ext_ HLA.out ((Ext.refl _).alloc _)) h1 h2); have HH3 := Lib.hid h2; have hl3 : o3.length ≤ o.length + 1 := (by rw [← ho3]; simp); have HO3 := Lib.hid ho3; clear h1 h2 ho3)))
            have HC3 := Lib.hid (SlB.keep HC.out (keeps_icw B) (KeepT.of_ext HL3.out.ext) (KeepT.of_ext HL3.out.ext))
            obtain ⟨cm, hcm⟩ : ∃ cm, c.map (PG.moved (o3.length : Int)) = cm := ⟨_, rfl⟩
            have hcml : cm.length ≤ 50000 := by rw [← hcm, List.length_map]; exact hcl
            have HSS := Lib.hid (HSH.out _ (o3.length : Int) (by omega) (by omega) HC3.out)
            have HRP2 := Lib.hid (show PG.mayM lazy all c (d - (m + 1)) (o3 ++ cm) = R by
              have h3 : o3.length = o.length + 1 := by rw [← HO3.out]; simp
              rw [← HRP.out, show d - m = (d - (m + 1)) + 1 by omega, PG.mayM, HI2.out, HO3.out, ← hcm, h3])
            rw [hcm] at HSS
            clear hcm
            go_wp2_with (first
              | (go_at_call 39; go_loud (refine (HSS.out).mono ?_; rintro e w4 ⟨hx4, A4, c4, rfl, hs4⟩; have HS4 := Lib.hid hs4; have HX4 := Lib.hid hx4; clear hs4 hx4))
              | (at_builtin; go_loud (refine app_rows Tryz.underlying45 info_inst rfl (by decide) (by decide) (keeps_icw B) (by decide) icw_one rfl _ _ rfl w1.heap.size _ _ _ o3 cm (Ly.ext_ HL3.out HX4.out).own HS4.out rfl rfl (by omega) (Ly.ext_ HL3.out HX4.out).size ?_; intro v5 w5 h1 h2; obtain ⟨o5, ho5⟩ : ∃ z, o3 ++ cm = z := ⟨_, rfl⟩; rw [ho5] at h1; obtain ⟨A5, c5, rfl, -⟩ := h1.form; have HL5 := Lib.hid (Ly.app (Ly.ext_ HL3.out HX4.out) h1 h2); have hl5 : o5.length ≤ o3.length + cm.length := (by rw [← ho5]; simp); have HO5 := Lib.hid ho5; clear h1 h2 ho5)))
            go_roundw
            case rel => exact ⟨m + 1, o5, by omega, by go_num, by omega, by rw [← HO5.out]; exact HRP2.out, HL5.out⟩
            case measure => simp [intOf]; omega
          · obtain rfl : m = d := by omega
            have HN := Lib.hid (show o = R by rw [← HRP.out, Nat.sub_self]; rfl)
            go_wp2_with fail
            go_ret
            rw [← HN.out]
            exact JR.weaken HX0.out HL.out.ret
end Go.Proofs.YtfblkahjefdmaaaGreat
