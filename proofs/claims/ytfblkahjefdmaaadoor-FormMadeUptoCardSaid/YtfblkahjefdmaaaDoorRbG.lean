/- Walk: turned. -/
import Derived.Test.YtfblkahjefdmaaaDoorRbF
namespace Go.Proofs.YtfblkahjefdmaaaDoor
open Go.RowKit

theorem and_low7 (n : Int) : bits .and .i64 n 7 = n % 8 := by
  have h7 : (BitVec.ofInt 64 7).toNat = 2 ^ 3 - 1 := by decide
  have key : (BitVec.ofInt 64 n &&& BitVec.ofInt 64 7).toNat = (n % ((2 ^ 64 : Nat) : Int)).toNat % 2 ^ 3 := by
    rw [BitVec.toNat_and, BitVec.toNat_ofInt, h7, Nat.and_two_pow_sub_one_eq_mod]
  show IntKind.i64.wrap ((BitVec.ofInt 64 n &&& BitVec.ofInt 64 7).toNat : Nat) = n % 8
  rw [key, IntKind.wrap_i64]
  omega
theorem szs_append : ∀ (a b : List FM.Form), FM.szs (a ++ b) = FM.szs a + FM.szs b
  | [], b => by simp [FM.szs]
  | f :: r, b => by simp only [List.cons_append, FM.szs, szs_append r b]; omega
theorem szs_get : ∀ {l : List FM.Form} {k : Nat} (h : k < l.length), FM.sz l[k] ≤ FM.szs l
  | [], k, h => by simp at h
  | f :: r, 0, _ => by simp [FM.szs]
  | f :: r, k + 1, h => by
    have := szs_get (l := r) (k := k) (by simpa using h)
    simp only [List.getElem_cons_succ, FM.szs]; omega
theorem szs_put : ∀ (l : List FM.Form) (k : Nat) (f : FM.Form), FM.szs (l.set k f) ≤ FM.szs l + FM.sz f
  | [], k, f => by simp [FM.szs]
  | g :: r, 0, f => by simp [FM.szs]; omega
  | g :: r, k + 1, f => by
    have := szs_put r k f
    simp only [List.set_cons_succ, FM.szs]; omega
theorem szs_set {l : List FM.Form} {k : Nat} {f x : FM.Form} (hk : k < l.length) (h : FM.sz f ≤ FM.sz l[k] + FM.sz x) : FM.szs (l.set k f) ≤ 2 * FM.szs l + FM.sz x := by
  have h1 := szs_put l k f
  have h2 := szs_get hk
  omega
/-- Some parts, not many. -/
def TurnP (l : List FM.Form) (x : FM.Form) (w : World) (e : Ending) (w' : World) : Prop := ∃ v' l', e = .returned v' ∧ Ext w w' ∧ SlF w' v' l' ∧ l'.length ≤ l.length + 1 ∧ FM.szs l' ≤ 2 * FM.szs l + FM.sz x
set_option maxRecDepth 100000 in
set_option maxHeartbeats 4000000 in
theorem turned_any (l : List FM.Form) (v : Value) (a how : Int) (x : FM.Form) (vt ve : Value) (w : World) (hv : SlF w v l) (hn : l.length ≤ 1000000) (ht : SlC w vt x.text) (he : SlC w ve x.els) :
    Calls Tryd.prog 13 #[v, .int .i64 a, .int .i64 how, .agg #[.int .i64 x.kind, .int .i64 x.group, .int .i64 x.cas, vt, ve]] w (TurnP l x w) := by
  obtain ⟨A, ca, rfl, hlc, hcm⟩ := hv.form2
  have HV := Lib.hid hv
  have HXT := Lib.hid ht
  have HXE := Lib.hid he
  obtain ⟨At, ct, rfl, -⟩ := ht
  obtain ⟨Ae, ce, rfl, -⟩ := he
  obtain ⟨nb, hnb⟩ : ∃ nb, nb = w.heap.size := ⟨_, rfl⟩
  have HNB := Lib.hid hnb
  clear hv hnb
  go_enter Tryd.func13, Tryd.ntmps13
  go_upto_region 1 with fail
  have hE1 := (Ext.refl w).alloc (.cells #[.int .i64 x.kind, .int .i64 x.group, .int .i64 x.cas, .slice At x.text.length ct, .slice Ae x.els.length ce] 34)
  have HX := Lib.hid (heap_alloc_new w (.cells #[.int .i64 x.kind, .int .i64 x.group, .int .i64 x.cas, .slice At x.text.length ct, .slice Ae x.els.length ce] 34))
  have HV1 := Lib.hid (HV.out.ext hE1)
  have HE1 := Lib.hid hE1
  clear hE1
  generalize w.alloc (.cells #[.int .i64 x.kind, .int .i64 x.group, .int .i64 x.cas, .slice At x.text.length ct, .slice Ae x.els.length ce] 34) = w1 at HX HV1 HE1 ⊢
  rw [← HNB.out] at HX ⊢
  go_upto_region 2 with (at_builtin; go_loud (refine app_forms rfl _ _ rfl _ l rfl rfl HV1.out (by omega) ?_; intro v2 w2 css ho2 hf2 hg2; have hE2 : Ext w1 w2 := (Ext.refl w1).grown hg2 (fun k hk => by cases hk); obtain ⟨A2, c2, rfl, -⟩ := ho2.form; have HO2 := Lib.hid ho2; have HF2 := Lib.hid hf2; have HE12 := Lib.hid hE2; clear ho2 hf2 hg2 hE2))
  have HCL := Lib.hid HF2.out.1
  by_cases h0 : l.length = 0
  · have hcl : css.length = 0 := by rw [HCL.out, h0]
    have hx2 := HE12.out.heap HX.out
    have d0 := cell_of_row w2 nb 0 _ _ _ hx2
    have d1 := cell_of_row w2 nb 1 _ _ _ hx2
    have d2 := cell_of_row w2 nb 2 _ _ _ hx2
    have d3 := cell_of_row w2 nb 3 _ _ _ hx2
    have d4 := cell_of_row w2 nb 4 _ _ _ hx2
    have hbs := heap_lt hx2
    clear hx2
    go_wp2_with fail
    go_ret
    have hE9 : Ext w (w2.alloc (.cells #[.int .i64 x.kind, .int .i64 x.group, .int .i64 x.cas, .slice At x.text.length ct, .slice Ae x.els.length ce] 34)) := (HE1.out.trans HE12.out).alloc _
    have ho : OwnB 34 5 Raw w2.heap.size (w2.alloc (.cells #[.int .i64 x.kind, .int .i64 x.group, .int .i64 x.cas, .slice At x.text.length ct, .slice Ae x.els.length ce] 34)) (.slice (some ⟨w2.heap.size, 0, none⟩) 1 1) [[.int .i64 x.kind, .int .i64 x.group, .int .i64 x.cas, .slice At x.text.length ct, .slice Ae x.els.length ce]] :=
      OwnB.lit (w := w2) _ _ _ _ rfl rfl (Nat.le_refl _) (by simp) rfl fun k y hy => by
        match k, hy with
        | 0, hy =>
          simp at hy; subst hy
          exact ⟨_, ⟨rfl, rfl⟩, rfl, fun i u hu => by simpa using hu⟩
    have hfit : FitC w [[.int .i64 x.kind, .int .i64 x.group, .int .i64 x.cas, .slice At x.text.length ct, .slice Ae x.els.length ce]] [x] := ⟨rfl, fun k cs f h1 h2 => by
      match k, h1, h2 with
      | 0, h1, h2 =>
        simp at h1 h2
        subst h1 h2
        exact ⟨_, _, rfl, HXT.out, HXE.out⟩⟩
    exact ⟨_, [x], rfl, hE9, ho.slfC (hfit.ext hE9), by simp, by simp [FM.szs]⟩
  have hcl : ¬ css.length = 0 := by rw [HCL.out]; exact h0
  have hcb : css.length ≤ 1000000 := by rw [HCL.out]; exact hn
  have HI := Lib.hid (fun W => kidx_any a (css.length : Int) W (by omega))
  have hkl := kidx_lt a (n := css.length) (by omega)
  rw [Int.toNat_natCast] at HI
  generalize kidx a css.length = kk at HI hkl
  go_upto_region 5 with (go_at_call 9; go_loud (refine (HI.out _).mono ?_; rintro e w3 ⟨rfl, hE3⟩; have HE3 := Lib.hid hE3; clear hE3))
  have HO3 := Lib.hid (show OwnB 34 5 Raw w1.heap.size w3 (.slice A2 css.length c2) css from HO2.out.keepG (fun _ _ hc => hc) (fun _ _ _ hg => HE3.out.heap hg))
  obtain ⟨g, cur, rfl, hgb, hh, hcells, hset⟩ := HO3.out.atRaw hkl
  have HSET := Lib.hid hset
  have HH2 := Lib.hid hh
  have HG1 := Lib.hid hgb
  have HE23 := Lib.hid (HE12.out.trans HE3.out)
  have HGB := Lib.hid (show w.heap.size ≤ g from Nat.le_trans HE1.out.size HG1.out)
  have HE2 := Lib.hid ((HE1.out.trans HE12.out).trans HE3.out)
  have HL := Lib.hid (show kk < l.length by rw [← HCL.out]; exact hkl)
  have hck : css[kk]? = some css[kk] := List.getElem?_eq_getElem hkl
  have hlk : l[kk]? = some l[kk] := List.getElem?_eq_getElem HL.out
  obtain ⟨B1, b1, B2, b2, hcs, htx, hex⟩ := (HF2.out.2 kk _ _ hck hlk).slc2
  have HTX := Lib.hid htx
  have HEX := Lib.hid hex
  have HCS := Lib.hid hcs
  have p0 := cell_of_row w3 g (kk * 5) _ _ _ hh
  rw [show cur[kk * 5]? = _ from hcells 0 _ (by rw [hcs]; rfl)] at p0
  have p1 := cell_of_row w3 g (kk * 5 + 1) _ _ _ hh
  rw [hcells 1 _ (by rw [hcs]; rfl)] at p1
  have p2 := cell_of_row w3 g (kk * 5 + 2) _ _ _ hh
  rw [hcells 2 _ (by rw [hcs]; rfl)] at p2
  have p3 := cell_of_row w3 g (kk * 5 + 3) _ _ _ hh
  rw [hcells 3 _ (by rw [hcs]; rfl)] at p3
  have p4 := cell_of_row w3 g (kk * 5 + 4) _ _ _ hh
  rw [hcells 4 _ (by rw [hcs]; rfl)] at p4
  have r0 := frozen_of_row w3 g (kk * 5) _ _ hh
  have r1 := frozen_of_row w3 g (kk * 5 + 1) _ _ hh
  have r2 := frozen_of_row w3 g (kk * 5 + 2) _ _ hh
  have r3 := frozen_of_row w3 g (kk * 5 + 3) _ _ hh
  have r4 := frozen_of_row w3 g (kk * 5 + 4) _ _ hh
  have hx3 := (HE12.out.trans HE3.out).heap HX.out
  have d0 := cell_of_row w3 nb 0 _ _ _ hx3
  have d1 := cell_of_row w3 nb 1 _ _ _ hx3
  have d2 := cell_of_row w3 nb 2 _ _ _ hx3
  have d3 := cell_of_row w3 nb 3 _ _ _ hx3
  have d4 := cell_of_row w3 nb 4 _ _ _ hx3
  have hgs := heap_lt hh
  have hki : (kk : Int) < css.length := by omega
  have hb7 := and_low7 how
  have hKb : 0 ≤ how % 8 ∧ how % 8 < 8 := by omega
  generalize how % 8 = K at hb7 hKb
  clear hset hh hcells hck hlk htx hex hcs hx3 hgb
  have HK5 := Lib.hid (fun W => kidx_any x.kind 5 W (by omega))
  have HC7 := Lib.hid (fun W => kidx_any x.cas 7 W (by omega))
  have hcases : K = 0 ∨ K = 1 ∨ K = 2 ∨ K = 3 ∨ K = 4 ∨ K = 5 ∨ K = 6 ∨ K = 7 := by omega
  clear hKb
  have HXC := Lib.hid (show SlC w1 (.slice At x.text.length ct) x.text from HXT.out.ext HE1.out)
  have HXD := Lib.hid (show SlC w1 (.slice Ae x.els.length ce) x.els from HXE.out.ext HE1.out)
  rcases hcases with hK | hK | hK | hK | hK | hK | hK | hK
  · subst hK
    go_wp2_with fail
    go_ret
    have ho9 := HSET.out (w3.setCell ⟨g, kk * 5, none⟩ (.int .i64 x.kind)) (.int .i64 x.kind) 0 (by decide) (heap_set HH2.out)
    have hE9 : Ext w (w3.setCell ⟨g, kk * 5, none⟩ (.int .i64 x.kind)) := Ext.set (p := ⟨g, kk * 5, none⟩) HE2.out HGB.out _
    have hE8 : Ext w1 (w3.setCell ⟨g, kk * 5, none⟩ (.int .i64 x.kind)) := Ext.set (p := ⟨g, kk * 5, none⟩) HE23.out HG1.out _
    have hc9 : CFC w1 (css[kk].set 0 (.int .i64 x.kind)) { l[kk] with kind := x.kind } := by rw [HCS.out]; exact ⟨_, _, rfl, HTX.out, HEX.out⟩
    exact ⟨_, l.set kk { l[kk] with kind := x.kind }, rfl, hE9, ho9.slfC ((HF2.out.set kk hc9).ext hE8), by simp, szs_set HL.out (by unfold FM.sz; dsimp only; omega)⟩
  · subst hK
    go_wp2_with (go_at_call 9; go_loud (refine (HK5.out _).mono ?_; rintro e w4 ⟨rfl, hx4⟩; have hh4 := hx4.heap HH2.out; have p9 := hx4.cell p0; have r9 := frozen_of_row w4 g (kk * 5) _ _ hh4; have hgs4 := heap_lt hh4; have HH4 := Lib.hid hh4; have HX4 := Lib.hid hx4; clear hh4 hx4))
    go_ret
    have ho9 := HSET.out (w4.setCell ⟨g, kk * 5, none⟩ (.int .i64 (kidx x.kind 5 : Nat))) (.int .i64 (kidx x.kind 5 : Nat)) 0 (by decide) (heap_set HH4.out)
    have hE9 : Ext w (w4.setCell ⟨g, kk * 5, none⟩ (.int .i64 (kidx x.kind 5 : Nat))) := Ext.set (p := ⟨g, kk * 5, none⟩) (HE2.out.trans HX4.out) HGB.out _
    have hE8 : Ext w1 (w4.setCell ⟨g, kk * 5, none⟩ (.int .i64 (kidx x.kind 5 : Nat))) := Ext.set (p := ⟨g, kk * 5, none⟩) (HE23.out.trans HX4.out) HG1.out _
    have hc9 : CFC w1 (css[kk].set 0 (.int .i64 (kidx x.kind 5 : Nat))) { l[kk] with kind := (kidx x.kind 5 : Nat) } := by rw [HCS.out]; exact ⟨_, _, rfl, HTX.out, HEX.out⟩
    exact ⟨_, l.set kk { l[kk] with kind := (kidx x.kind 5 : Nat) }, rfl, hE9, ho9.slfC ((HF2.out.set kk hc9).ext hE8), by simp, szs_set HL.out (by unfold FM.sz; dsimp only; omega)⟩
  · subst hK
    go_wp2_with fail
    go_ret
    have ho9 := HSET.out (w3.setCell ⟨g, kk * 5 + 1, none⟩ (.int .i64 x.group)) (.int .i64 x.group) 1 (by decide) (heap_set HH2.out)
    have hE9 : Ext w (w3.setCell ⟨g, kk * 5 + 1, none⟩ (.int .i64 x.group)) := Ext.set (p := ⟨g, kk * 5 + 1, none⟩) HE2.out HGB.out _
    have hE8 : Ext w1 (w3.setCell ⟨g, kk * 5 + 1, none⟩ (.int .i64 x.group)) := Ext.set (p := ⟨g, kk * 5 + 1, none⟩) HE23.out HG1.out _
    have hc9 : CFC w1 (css[kk].set 1 (.int .i64 x.group)) { l[kk] with group := x.group } := by rw [HCS.out]; exact ⟨_, _, rfl, HTX.out, HEX.out⟩
    exact ⟨_, l.set kk { l[kk] with group := x.group }, rfl, hE9, ho9.slfC ((HF2.out.set kk hc9).ext hE8), by simp, szs_set HL.out (by unfold FM.sz; dsimp only; omega)⟩
  · subst hK
    go_wp2_with (go_at_call 9; go_loud (refine (HC7.out _).mono ?_; rintro e w4 ⟨rfl, hx4⟩; have hh4 := hx4.heap HH2.out; have p9 := hx4.cell p2; have r9 := frozen_of_row w4 g (kk * 5 + 2) _ _ hh4; have hgs4 := heap_lt hh4; have HH4 := Lib.hid hh4; have HX4 := Lib.hid hx4; clear hh4 hx4))
    go_ret
    have ho9 := HSET.out (w4.setCell ⟨g, kk * 5 + 2, none⟩ (.int .i64 (kidx x.cas 7 : Nat))) (.int .i64 (kidx x.cas 7 : Nat)) 2 (by decide) (heap_set HH4.out)
    have hE9 : Ext w (w4.setCell ⟨g, kk * 5 + 2, none⟩ (.int .i64 (kidx x.cas 7 : Nat))) := Ext.set (p := ⟨g, kk * 5 + 2, none⟩) (HE2.out.trans HX4.out) HGB.out _
    have hE8 : Ext w1 (w4.setCell ⟨g, kk * 5 + 2, none⟩ (.int .i64 (kidx x.cas 7 : Nat))) := Ext.set (p := ⟨g, kk * 5 + 2, none⟩) (HE23.out.trans HX4.out) HG1.out _
    have hc9 : CFC w1 (css[kk].set 2 (.int .i64 (kidx x.cas 7 : Nat))) { l[kk] with cas := (kidx x.cas 7 : Nat) } := by rw [HCS.out]; exact ⟨_, _, rfl, HTX.out, HEX.out⟩
    exact ⟨_, l.set kk { l[kk] with cas := (kidx x.cas 7 : Nat) }, rfl, hE9, ho9.slfC ((HF2.out.set kk hc9).ext hE8), by simp, szs_set HL.out (by unfold FM.sz; dsimp only; omega)⟩
  · subst hK
    go_wp2_with fail
    go_ret
    have ho9 := HSET.out (w3.setCell ⟨g, kk * 5 + 3, none⟩ (.slice At x.text.length ct)) (.slice At x.text.length ct) 3 (by decide) (heap_set HH2.out)
    have hE9 : Ext w (w3.setCell ⟨g, kk * 5 + 3, none⟩ (.slice At x.text.length ct)) := Ext.set (p := ⟨g, kk * 5 + 3, none⟩) HE2.out HGB.out _
    have hE8 : Ext w1 (w3.setCell ⟨g, kk * 5 + 3, none⟩ (.slice At x.text.length ct)) := Ext.set (p := ⟨g, kk * 5 + 3, none⟩) HE23.out HG1.out _
    have hc9 : CFC w1 (css[kk].set 3 (.slice At x.text.length ct)) { l[kk] with text := x.text } := by rw [HCS.out]; exact ⟨_, _, rfl, HXC.out, HEX.out⟩
    exact ⟨_, l.set kk { l[kk] with text := x.text }, rfl, hE9, ho9.slfC ((HF2.out.set kk hc9).ext hE8), by simp, szs_set HL.out (by unfold FM.sz; dsimp only; omega)⟩
  · subst hK
    go_wp2_with fail
    go_ret
    have ho9 := HSET.out (w3.setCell ⟨g, kk * 5 + 4, none⟩ (.slice Ae x.els.length ce)) (.slice Ae x.els.length ce) 4 (by decide) (heap_set HH2.out)
    have hE9 : Ext w (w3.setCell ⟨g, kk * 5 + 4, none⟩ (.slice Ae x.els.length ce)) := Ext.set (p := ⟨g, kk * 5 + 4, none⟩) HE2.out HGB.out _
    have hE8 : Ext w1 (w3.setCell ⟨g, kk * 5 + 4, none⟩ (.slice Ae x.els.length ce)) := Ext.set (p := ⟨g, kk * 5 + 4, none⟩) HE23.out HG1.out _
    have hc9 : CFC w1 (css[kk].set 4 (.slice Ae x.els.length ce)) { l[kk] with els := x.els } := by rw [HCS.out]; exact ⟨_, _, rfl, HTX.out, HXD.out⟩
    exact ⟨_, l.set kk { l[kk] with els := x.els }, rfl, hE9, ho9.slfC ((HF2.out.set kk hc9).ext hE8), by simp, szs_set HL.out (by unfold FM.sz; dsimp only; omega)⟩
  · subst hK
    have HCB := Lib.hid (show css.length ≤ 1000000000 by omega)
    go_wp2_with (at_builtin; go_loud (refine app_lit Tryd.underlying32 info_form rfl (by decide) (by decide) (keeps_raw []) (by simp) rfl _ _ rfl w1.heap.size _ css [.int .i64 l[kk].kind, .int .i64 l[kk].group, .int .i64 l[kk].cas, .slice B1 l[kk].text.length b1, .slice B2 l[kk].els.length b2] [.int .i64 l[kk].kind, .int .i64 l[kk].group, .int .i64 l[kk].cas, .slice B1 l[kk].text.length b1, .slice B2 l[kk].els.length b2] 34 HO3.out ⟨rfl, rfl⟩ rfl (by simp [Value.oneCell']) rfl w3.heap.size rfl rfl HCB.out HE23.out.size ?_; intro gg cap w5 h1 h2; have HF5 := Lib.hid (And.intro h1 h2); clear h1 h2))
    go_ret
    have hE8 : Ext w1 w5 := (HE23.out.alloc _).grown HF5.out.2 (fun k hk => (HO3.out.lt k hk).1)
    have hE9 : Ext w w5 := HE1.out.trans hE8
    have hc9 : CFC w1 [.int .i64 l[kk].kind, .int .i64 l[kk].group, .int .i64 l[kk].cas, .slice B1 l[kk].text.length b1, .slice B2 l[kk].els.length b2] l[kk] := ⟨_, _, rfl, HTX.out, HEX.out⟩
    exact ⟨_, l ++ [l[kk]], rfl, hE9, HF5.out.1.slfC ((HF2.out.snoc hc9).ext hE8), by simp, by rw [szs_append]; have := szs_get HL.out; simp only [FM.szs]; omega⟩
  · subst hK
    have HCB := Lib.hid (show css.length ≤ 1000000000 by omega)
    go_wp2_with (at_builtin; go_loud (refine app_lit Tryd.underlying32 info_form rfl (by decide) (by decide) (keeps_raw []) (by simp) rfl _ _ rfl w1.heap.size _ css [.int .i64 l[kk].kind, .int .i64 l[kk].group, .int .i64 l[kk].cas, .slice B1 l[kk].text.length b1, .slice B2 l[kk].els.length b2] [.int .i64 l[kk].kind, .int .i64 l[kk].group, .int .i64 l[kk].cas, .slice B1 l[kk].text.length b1, .slice B2 l[kk].els.length b2] 34 HO3.out ⟨rfl, rfl⟩ rfl (by simp [Value.oneCell']) rfl w3.heap.size rfl rfl HCB.out HE23.out.size ?_; intro gg cap w5 h1 h2; have HF5 := Lib.hid (And.intro h1 h2); clear h1 h2))
    go_ret
    have hE8 : Ext w1 w5 := (HE23.out.alloc _).grown HF5.out.2 (fun k hk => (HO3.out.lt k hk).1)
    have hE9 : Ext w w5 := HE1.out.trans hE8
    have hc9 : CFC w1 [.int .i64 l[kk].kind, .int .i64 l[kk].group, .int .i64 l[kk].cas, .slice B1 l[kk].text.length b1, .slice B2 l[kk].els.length b2] l[kk] := ⟨_, _, rfl, HTX.out, HEX.out⟩
    exact ⟨_, l ++ [l[kk]], rfl, hE9, HF5.out.1.slfC ((HF2.out.snoc hc9).ext hE8), by simp, by rw [szs_append]; have := szs_get HL.out; simp only [FM.szs]; omega⟩
end Go.Proofs.YtfblkahjefdmaaaDoor
