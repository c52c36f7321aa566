/- Walk: what every program answers that transforms texts. -/
import Derived.Test.YtfblkahjefdmaaaTrI
import Derived.Test.YtfblkahjefdmaaaPureA
namespace Go.Proofs.Ytfblkahjefdmaaa
open Go.RowKit

namespace TR
def upF : FM.Form := ⟨1, 0, 1, [], []⟩
def k12 : List PG.Inst := [⟨3, 0, 0, false, []⟩, ⟨0, 0, 0, false, [98, 98]⟩, ⟨3, 1, 0, false, []⟩, ⟨6, 0, 0, false, []⟩]
def t12 : List RX.ReN := [⟨0, 0, 0, 0, false, false, []⟩, ⟨2, 1, 0, 0, false, false, [98, 98]⟩]
theorem compile_k12 : PG.compile [98] = (k12, 0, 0) := by kernel_rfl
theorem parse_k12 : RX.parse [98] = (t12, 0, 0) := by kernel_rfl
theorem groups_k12 : RX.groups t12 = 0 := rfl
theorem first_k12 : MX.First (MX.act k12 false [97, 98]) 2 (MX.blank 0) 0 (some [1, 2]) :=
  ⟨1, by decide, by decide, MX.reck_tries (f := 20) (by kernel_rfl), fun q _ hq => by
    obtain rfl : q = 0 := by omega
    exact MX.reck_tries (f := 20) (by kernel_rfl)⟩
theorem go_k12 : goR [97, 98] [upF] [[1, 2]] [] 0 = some [97, 66] := by kernel_rfl
theorem run_k1 {text : List Int} {code bat : Int} (h : RunQ [97, 98] [98] [upF] false false text code bat) : text = [97, 66] ∧ code = 0 ∧ bat = 0 := by
  unfold RunQ at h
  rw [if_pos (by decide)] at h
  rcases h with ⟨c, b, h1, h2, -⟩ | ⟨l, t, k, L, h1, h2, -, h3, h4⟩
  · rw [compile_k12] at h1
    injection h1 with h1 _
    cases h1
  · rw [compile_k12] at h1
    rw [parse_k12] at h2
    injection h1 with h1 _
    injection h2 with h2 _
    subst h1 h2
    rw [groups_k12] at h3
    have hL : L = [[1, 2]] := by
      rcases h3 with ⟨h, -⟩ | ⟨-, ⟨h, -⟩ | ⟨r, h, rfl⟩⟩
      · cases h
      · cases MX.first_one first_k12 h
      · have := MX.first_one first_k12 h
        injection this with this
        rw [← this]
    subst hL
    rw [go_k12] at h4
    rcases h4 with ⟨h, -⟩ | ⟨h, h5, h6⟩
    · cases h
    · injection h with h
      exact ⟨h.symm, h5, h6⟩
theorem compile_k12b : PG.compile [40] = ([], 5, 1) := by kernel_rfl
theorem run_k2 {text : List Int} {code bat : Int} (h : RunQ [] [40] [] true false text code bat) : text = [] ∧ code = 5 ∧ bat = 1 := by
  unfold RunQ at h
  rw [if_pos (by decide)] at h
  rcases h with ⟨c, b, h1, h2, h3, rfl, rfl⟩ | ⟨l, t, k, L, h1, -⟩
  · rw [compile_k12b] at h1
    injection h1 with _ h1
    injection h1 with e1 e2
    exact ⟨h3, e1.symm, e2.symm⟩
  · rw [compile_k12b] at h1
    injection h1 with _ h1
    injection h1 with h1 _
    cases h1
theorem run_k3 {text : List Int} {code bat : Int} (h : RunQ [-1] [] [] false false text code bat) : text = [] ∧ code = 1 ∧ bat = 0 := by
  unfold RunQ at h
  rw [if_neg (by decide)] at h
  exact h
theorem fill_k : (if FM.may [upF] = true then fillL [upF] (grp [[120]]) else []) = [88] := by kernel_rfl
end TR
theorem slf_up {w : World} {g n : Nat} (hg : g = w.heap.size) (hn : n = 1) : SlF (w.alloc (.cells #[.int .i64 1, .int .i64 0, .int .i64 1, .slice none 0 0, .slice none 0 0] 82)) (.slice (some ⟨g, 0, none⟩) n n) [TR.upF] := by
  subst hg hn
  refine ⟨_, 1, rfl, Nat.le_refl _, by omega, fun k x hk => ⟨w.heap.size, 0, rfl, ?_⟩, by intro h; cases h⟩
  match k, hk with
  | 0, hk =>
    simp at hk
    subst hk
    exact ⟨_, ⟨.slice none 0 0, .slice none 0 0, rfl, SlR.nil_, SlR.nil_⟩, fun i u hu => by
      rw [Nat.zero_mul, Nat.add_zero, Nat.zero_add, World.cell?_alloc_new]
      have hu : ([.int .i64 1, .int .i64 0, .int .i64 1, .slice none 0 0, .slice none 0 0] : List Value)[i]? = some u := hu
      simpa using hu⟩
theorem slg_one {w : World} {g n : Nat} {va : Value} {xs : List Int} (hg : g = w.heap.size) (hn : n = 1) (ha : SlC w va xs) : SlG (w.alloc (.cells #[va] 23)) (.slice (some ⟨g, 0, none⟩) n n) [xs] := by
  subst hg hn
  have hx := (Ext.refl w).alloc (.cells #[va] 23)
  refine ⟨_, 1, rfl, Nat.le_refl _, by omega, fun k x hk => ⟨w.heap.size, 0, rfl, ?_⟩, by intro h; cases h⟩
  rw [Nat.mul_one, Nat.zero_add]
  match k, hk with
  | 0, hk => simp at hk; subst hk; exact ⟨va, by rw [World.cell?_alloc_new]; rfl, ha.ext hx⟩
set_option maxRecDepth 100000 in
set_option maxHeartbeats 4000000 in
theorem known12_any (w : World) : Calls Try.prog 47 #[] w (Ret (.bool true) w) := by
  have HU0 := Lib.hid (slf_up (w := w) rfl rfl)
  have HE0 := Lib.hid ((Ext.refl w).alloc (.cells #[.int .i64 1, .int .i64 0, .int .i64 1, .slice none 0 0, .slice none 0 0] 82))
  go_enter Try.func47, Try.ntmps47
  go_upto_region 2 with fail
  generalize w.alloc _ = w0 at HU0 HE0 ⊢
  generalize w.heap.size = ub at HU0 ⊢
  go_wp2_with fail
  refine (trun_any [97, 98] [98] [TR.upF] _ _ _ false false _ ?h1 ?h2 ?h3).mono ?_
  case h1 => exact SlC.ext (SlB.slc (c_lit (B := 0) w0 [97, 98] _ _ rfl rfl (Nat.zero_le _) (by decide))) ((Ext.refl _).alloc _)
  case h2 => exact SlB.slc (c_lit (B := 0) _ [98] _ _ (by simp) rfl (Nat.zero_le _) (by decide))
  case h3 => exact SlF.ext HU0.out (((Ext.refl _).alloc _).alloc _)
  rintro e w1 ⟨hE1, v1, text, code, bat, rfl, ho1, hq1⟩
  obtain ⟨rfl, rfl, rfl⟩ := TR.run_k1 hq1
  have hx1 := (((Ext.refl w0).alloc (.cells #[.int .i32 97, .int .i32 98] 21)).alloc (.cells #[.int .i32 98] 21)).trans hE1
  have hy1 := hx1.alloc (.cells #[.int .i64 0, .int .i64 0] 36)
  have f3 : (w1.alloc (.cells #[.int .i64 0, .int .i64 0] 36)).cell? ⟨w1.heap.size, 0, none⟩ = some (.int .i64 0) := by rw [World.cell?_alloc_new]; rfl
  have HV1 := Lib.hid (SlC.ext (SlB.slc ho1.sl) ((Ext.refl w1).alloc (.cells #[.int .i64 0, .int .i64 0] 36)))
  have HU1 := Lib.hid (SlF.ext HU0.out hy1)
  have HE1 := Lib.hid (HE0.out.trans hy1)
  obtain ⟨A1, c1, rfl, -⟩ := ho1.form
  clear hE1 ho1 hq1 hx1 hy1 HU0 HE0
  go_upto_region 3 with fail
  generalize w1.alloc _ = w2 at f3 HV1 HU1 HE1 ⊢
  generalize w1.heap.size = b3 at f3 ⊢
  go_wp2_with fail
  refine (trun_any [] [40] [] _ _ _ true false _ SlR.nil_ ?h4 SlR.nil_).mono ?_
  case h4 => exact SlB.slc (c_lit (B := 0) _ [40] _ _ (by simp) rfl (Nat.zero_le _) (by decide))
  rintro e w3 ⟨hE3, v3, text, code, bat, rfl, ho3, hq3⟩
  obtain ⟨rfl, rfl, rfl⟩ := TR.run_k2 hq3
  have hx3 := ((Ext.refl w2).alloc (.cells #[.int .i32 40] 21)).trans hE3
  have hy3 := hx3.alloc (.cells #[.int .i64 5, .int .i64 1] 36)
  have f5 : (w3.alloc (.cells #[.int .i64 5, .int .i64 1] 36)).cell? ⟨w3.heap.size, 0, none⟩ = some (.int .i64 5) := by rw [World.cell?_alloc_new]; rfl
  have g5 : (w3.alloc (.cells #[.int .i64 5, .int .i64 1] 36)).cell? ⟨w3.heap.size, 1, none⟩ = some (.int .i64 1) := by rw [World.cell?_alloc_new]; rfl
  replace f3 := hy3.cell f3
  have HV3 := Lib.hid (SlC.ext HV1.out hy3)
  have HU3 := Lib.hid (SlF.ext HU1.out hy3)
  have HE3 := Lib.hid (HE1.out.trans hy3)
  obtain ⟨A3, c3, rfl, -⟩ := ho3.form
  clear hE3 ho3 hq3 hx3 hy3 HU1 HE1 HV1
  go_upto_region 4 with fail
  generalize w3.alloc _ = w4 at f3 f5 g5 HV3 HU3 HE3 ⊢
  generalize w3.heap.size = b5 at f5 g5 ⊢
  go_wp2_with fail
  refine (trun_any [-1] [] [] _ _ _ false false _ ?h5 SlR.nil_ SlR.nil_).mono ?_
  case h5 => exact SlB.slc (c_lit (B := 0) _ [-1] _ _ (by simp) rfl (Nat.zero_le _) (by decide))
  rintro e w5 ⟨hE5, v5, text, code, bat, rfl, ho5, hq5⟩
  obtain ⟨rfl, rfl, rfl⟩ := TR.run_k3 hq5
  have hx5 := ((Ext.refl w4).alloc (.cells #[.int .i32 (-1)] 21)).trans hE5
  have hy5 := hx5.alloc (.cells #[.int .i64 1, .int .i64 0] 36)
  have f7 : (w5.alloc (.cells #[.int .i64 1, .int .i64 0] 36)).cell? ⟨w5.heap.size, 0, none⟩ = some (.int .i64 1) := by rw [World.cell?_alloc_new]; rfl
  replace f3 := hy5.cell f3
  replace f5 := hy5.cell f5
  replace g5 := hy5.cell g5
  have HV5 := Lib.hid (SlC.ext HV3.out hy5)
  have HU5 := Lib.hid (SlF.ext HU3.out hy5)
  have HE5 := Lib.hid (HE3.out.trans hy5)
  obtain ⟨A5, c5, rfl, -⟩ := ho5.form
  clear hE5 ho5 hq5 hx5 hy5 HU3 HE3 HV3
  go_upto_region 5 with fail
  generalize w5.alloc _ = w6 at f3 f5 g5 f7 HV5 HU5 HE5 ⊢
  generalize w5.heap.size = b7 at f7 ⊢
  have HSM := Lib.hid same_any
  have HFK := Lib.hid TR.fill_k
  have tok1 : True := trivial
  go_wp2_with (first
    | (go_at_call 38; have _t := tok1; go_loud (refine (HSM.out _ _ [97, 66] [97, 66] _ (SlC.ext HV5.out ((Ext.refl _).alloc _)) (SlB.slc (c_lit (B := 0) _ [97, 66] _ _ (by simp) rfl (Nat.zero_le _) (by decide)))).mono ?_; rw [show decide (([97, 66] : List Int) = [97, 66]) = true from by decide]; rintro e w7 ⟨rfl, hE7⟩; have hx7 := ((Ext.refl w6).alloc (.cells #[.int .i32 97, .int .i32 66] 21)).trans hE7; have f3 := hx7.cell f3; have f5 := hx7.cell f5; have g5 := hx7.cell g5; have f7 := hx7.cell f7; have HU7 := Lib.hid (SlF.ext HU5.out hx7); have HE7 := Lib.hid (HE5.out.trans hx7); clear hE7 hx7 tok1 _t))
    | (go_at_call 44; go_loud (refine (tfill_any [TR.upF] _ [[120]] _ _ (SlF.ext HU7.out (((Ext.refl _).alloc _).alloc _)) (slg_one (by simp) rfl (SlB.slc (c_lit (B := 0) w7 [120] _ _ rfl rfl (Nat.zero_le _) (by decide)))) (by simp) (by decide)).mono ?_; rw [HFK.out]; rintro e w8 ⟨v8, rfl, ho8, hE8⟩; have HV8 := Lib.hid (SlB.slc ho8.sl); obtain ⟨A8, c8, rfl, -⟩ := ho8.form; have HE8 := Lib.hid (HE7.out.trans ((((Ext.refl w7).alloc _).alloc _).trans hE8)); clear ho8 hE8))
    | (go_at_call 38; go_loud (refine (HSM.out _ _ [88] [88] _ (SlC.ext HV8.out ((Ext.refl _).alloc _)) (SlB.slc (c_lit (B := 0) _ [88] _ _ (by simp) rfl (Nat.zero_le _) (by decide)))).mono ?_; rw [show decide (([88] : List Int) = [88]) = true from by decide]; rintro e w9 ⟨rfl, hE9⟩; have HE9 := Lib.hid (HE8.out.trans (((Ext.refl w8).alloc _).trans hE9)); clear hE9)))
  go_ret
  exact ⟨rfl, HE9.out⟩
end Go.Proofs.Ytfblkahjefdmaaa
