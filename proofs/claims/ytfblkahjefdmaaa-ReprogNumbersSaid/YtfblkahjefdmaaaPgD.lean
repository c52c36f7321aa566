/- Walk: what every program answers that makes programs of regular texts. -/
import Derived.Test.YtfblkahjefdmaaaPc
import Derived.Test.YtfblkahjefdmaaaKn8
namespace Go.Proofs.Ytfblkahjefdmaaa
open Go.RowKit

theorem pcompile_lit {s : List Int} {L : List PG.Inst} {c a : Int} {v : Value} {w : World} (h : PG.compile s = (L, c, a)) (hv : SlC w v s) :
    Calls Try.prog 29 #[v] w (fun e w' => Ext w w' ∧ ∃ A cp, e = .returned (.tuple #[.slice A L.length cp, .agg #[.int .i64 c, .int .i64 a]]) ∧ SlX w.heap.size w' (.slice A L.length cp) L) := by
  refine (pcompile_any s v w hv).mono ?_
  rintro e w' ⟨hx, x, rfl, h1⟩
  rw [h] at h1 ⊢
  obtain ⟨A, cp, rfl, -⟩ := h1.form
  exact ⟨hx, A, cp, rfl, h1⟩
def k9a : List PG.Inst := [⟨3, 0, 0, false, []⟩, ⟨4, 2, 4, false, []⟩, ⟨0, 0, 0, false, [97, 97]⟩, ⟨5, 1, 0, false, []⟩, ⟨3, 1, 0, false, []⟩, ⟨6, 0, 0, false, []⟩]
def k9b : List PG.Inst := [⟨3, 0, 0, false, []⟩, ⟨4, 4, 2, false, []⟩, ⟨0, 0, 0, false, [97, 97]⟩, ⟨5, 1, 0, false, []⟩, ⟨3, 1, 0, false, []⟩, ⟨6, 0, 0, false, []⟩]
theorem compile_k1 : PG.compile [97, 42] = (k9a, 0, 0) := by kernel_rfl
theorem compile_k2 : PG.compile [97, 42, 63] = (k9b, 0, 0) := by kernel_rfl
theorem compile_k3 : PG.compile [40] = ([], 5, 1) := by kernel_rfl
theorem k9a_len : k9a.length = 6 := rfl
theorem k9b_len : k9b.length = 6 := rfl
set_option maxRecDepth 100000 in
set_option maxHeartbeats 4000000 in
theorem known9_any (w : World) : Calls Try.prog 28 #[] w (Ret (.bool true) w) := by
  go_enter Try.func28, Try.ntmps28
  go_wp2_with fail
  refine (pcompile_lit compile_k1 (SlB.slc (lit_c w [97, 42] (Nat.le_refl _) (by decide)).sl)).mono ?_
  rintro e w1 ⟨hE1, A, c, rfl, hX1⟩
  obtain ⟨g, o, v0, rfl, -, -, -, h0⟩ := hX1.atX (k := 0) (by decide)
  obtain ⟨g1, o1, v1, he, -, -, -, h1⟩ := hX1.atX (k := 1) (by decide)
  injection he with he; injection he with e1 e2; subst e1 e2
  obtain ⟨g1, o1, v2, he, -, -, -, h2⟩ := hX1.atX (k := 2) (by decide)
  injection he with he; injection he with e1 e2; subst e1 e2
  obtain ⟨g1, o1, v3, he, -, -, -, h3⟩ := hX1.atX (k := 3) (by decide)
  injection he with he; injection he with e1 e2; subst e1 e2
  obtain ⟨g1, o1, v4, he, -, -, -, h4⟩ := hX1.atX (k := 4) (by decide)
  injection he with he; injection he with e1 e2; subst e1 e2
  obtain ⟨g1, o1, v5, he, -, -, -, h5⟩ := hX1.atX (k := 5) (by decide)
  injection he with he; injection he with e1 e2; subst e1 e2
  have q00 : w1.cell? ⟨g, o + 0 * 5 + 0, none⟩ = some (.int .i64 3) := h0 0 _ rfl
  have q10 : w1.cell? ⟨g, o + 1 * 5 + 0, none⟩ = some (.int .i64 4) := h1 0 _ rfl
  have q11 : w1.cell? ⟨g, o + 1 * 5 + 1, none⟩ = some (.int .i64 2) := h1 1 _ rfl
  have q12 : w1.cell? ⟨g, o + 1 * 5 + 2, none⟩ = some (.int .i64 4) := h1 2 _ rfl
  have q20 : w1.cell? ⟨g, o + 2 * 5 + 0, none⟩ = some (.int .i64 0) := h2 0 _ rfl
  have q30 : w1.cell? ⟨g, o + 3 * 5 + 0, none⟩ = some (.int .i64 5) := h3 0 _ rfl
  have q31 : w1.cell? ⟨g, o + 3 * 5 + 1, none⟩ = some (.int .i64 1) := h3 1 _ rfl
  have q41 : w1.cell? ⟨g, o + 4 * 5 + 1, none⟩ = some (.int .i64 1) := h4 1 _ rfl
  have q50 : w1.cell? ⟨g, o + 5 * 5 + 0, none⟩ = some (.int .i64 6) := h5 0 _ rfl
  simp only [Nat.reduceMul, Nat.add_zero, Nat.zero_mul, Nat.one_mul] at q00 q10 q11 q12 q20 q30 q31 q41 q50
  have HE1 := Lib.hid (((Ext.refl w).alloc _).trans hE1)
  clear h0 h1 h2 h3 h4 h5 hX1 hE1
  rw [k9a_len]
  go_wp2_with fail
  refine (pcompile_lit compile_k2 ?ha).mono ?_
  case ha => exact SlB.slc (c_lit (B := 0) _ [97, 42, 63] _ _ (by simp) rfl (Nat.zero_le _) (by decide))
  rintro e w2 ⟨hE2, A2, c2, rfl, hX2⟩
  obtain ⟨g2, o2, u1, rfl, -, -, -, h1⟩ := hX2.atX (k := 1) (by decide)
  have p11 : w2.cell? ⟨g2, o2 + 1 * 5 + 1, none⟩ = some (.int .i64 4) := h1 1 _ rfl
  have p12 : w2.cell? ⟨g2, o2 + 1 * 5 + 2, none⟩ = some (.int .i64 2) := h1 2 _ rfl
  simp only [Nat.one_mul] at p11 p12
  have hX : Ext w1 w2 := (((Ext.refl w1).alloc _).alloc _).trans hE2
  have f0 : w2.cell? ⟨w1.heap.size, 0, none⟩ = some (.int .i64 0) := hE2.cell (((Ext.refl _).alloc _).cell (by rw [World.cell?_alloc_new]; rfl))
  have hz : w1.heap.size < w2.heap.size := World.block_lt_of_cell? w2 _ f0
  replace q00 := hX.cell q00
  replace q10 := hX.cell q10
  replace q11 := hX.cell q11
  replace q12 := hX.cell q12
  replace q20 := hX.cell q20
  replace q30 := hX.cell q30
  replace q31 := hX.cell q31
  replace q41 := hX.cell q41
  replace q50 := hX.cell q50
  have HE2 := Lib.hid (HE1.out.trans hX)
  clear hX hE2 h1 hX2
  rw [k9b_len]
  go_wp2_with fail
  refine (pcompile_lit compile_k3 ?hb).mono ?_
  case hb => exact SlB.slc (c_lit (B := 0) _ [40] _ _ (by simp) rfl (Nat.zero_le _) (by decide))
  rintro e w3 ⟨hE3, A3, c3, rfl, -⟩
  have hX : Ext w2 w3 := (((Ext.refl w2).alloc _).alloc _).trans hE3
  replace q00 := hX.cell q00
  replace q10 := hX.cell q10
  replace q11 := hX.cell q11
  replace q12 := hX.cell q12
  replace q20 := hX.cell q20
  replace q30 := hX.cell q30
  replace q31 := hX.cell q31
  replace q41 := hX.cell q41
  replace q50 := hX.cell q50
  replace p11 := hX.cell p11
  replace p12 := hX.cell p12
  replace f0 := hX.cell f0
  have HE3 := Lib.hid (HE2.out.trans hX)
  clear hX hE3
  have hY : Ext w3 (w3.alloc (.cells #[.int .i64 5, .int .i64 1] 36)) := (Ext.refl w3).alloc _
  replace q00 := hY.cell q00
  replace q10 := hY.cell q10
  replace q11 := hY.cell q11
  replace q12 := hY.cell q12
  replace q20 := hY.cell q20
  replace q30 := hY.cell q30
  replace q31 := hY.cell q31
  replace q41 := hY.cell q41
  replace q50 := hY.cell q50
  replace p11 := hY.cell p11
  replace p12 := hY.cell p12
  replace f0 := hY.cell f0
  clear hY
  go_wp2_with fail
  go_ret
  exact ⟨rfl, HE3.out.alloc _⟩
end Go.Proofs.Ytfblkahjefdmaaa
