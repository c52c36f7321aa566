/- Walks: moved, split, jump, save of package reprog. -/
import Derived.Test.YtfblkahjefdmaaaPgM
namespace Go.Proofs.Ytfblkahjefdmaaa
open Go.RowKit

/-- An instruction that may be moved. -/
def MovOk (i : PG.Inst) : Prop := (i.op = 4 → -1000 ≤ i.x ∧ i.x ≤ 1000 ∧ -1000 ≤ i.y ∧ i.y ≤ 1000) ∧ (i.op = 5 → -1000 ≤ i.x ∧ i.x ≤ 1000)
def InstR (i : PG.Inst) (vs : Value) (w : World) (e : Ending) (w' : World) : Prop := Ext w w' ∧ e = .returned (.agg #[.int .i64 i.op, .int .i64 i.x, .int .i64 i.y, .bool i.neg, vs])
set_option maxHeartbeats 1000000 in
theorem moved_any (i : PG.Inst) (k : Int) (A : Option Addr) (n c : Nat) (w : World) (hm : MovOk i) (hk : 0 ≤ k ∧ k ≤ 1000) :
    Calls Try.prog 98 #[.agg #[.int .i64 i.op, .int .i64 i.x, .int .i64 i.y, .bool i.neg, .slice A n c], .int .i64 k] w (InstR (PG.moved k i) (.slice A n c) w) := by
  obtain ⟨op, x, y, neg, set⟩ := i
  obtain ⟨h4, h5⟩ := hm
  obtain ⟨hk0, hk1⟩ := hk
  dsimp only at h4 h5 ⊢
  have hE : ∀ W, Ext w W → Ext w W := fun _ h => h
  by_cases o4 : op = 4
  · subst o4
    obtain ⟨a1, a2, a3, a4⟩ := h4 rfl
    have HM := Lib.hid (show PG.moved k ⟨4, x, y, neg, set⟩ = ⟨4, x + k, y + k, neg, set⟩ from rfl)
    rw [HM.out]
    clear h4 h5
    go_enter Try.func98, Try.ntmps98
    go_wp2_with fail
    refine bodyPost_ret (v := .agg #[.int .i64 4, .int .i64 (x + k), .int .i64 (y + k), .bool neg, .slice A n c]) (by simp [results, Try.results98, go_sem]) rfl ?_
    exact ⟨by (focus (repeat (first | with_reducible exact Ext.refl _ | with_reducible apply Ext.alloc | with_reducible apply Ext.set9 | (with_reducible refine Ext.setg ?_ ?_; (simp; done))))), rfl⟩
  · by_cases o5 : op = 5
    · subst o5
      obtain ⟨a1, a2⟩ := h5 rfl
      have HM := Lib.hid (show PG.moved k ⟨5, x, y, neg, set⟩ = ⟨5, x + k, y, neg, set⟩ from rfl)
      rw [HM.out]
      clear h4 h5
      go_enter Try.func98, Try.ntmps98
      go_wp2_with fail
      refine bodyPost_ret (v := .agg #[.int .i64 5, .int .i64 (x + k), .int .i64 y, .bool neg, .slice A n c]) (by simp [results, Try.results98, go_sem]) rfl ?_
      exact ⟨by (focus (repeat (first | with_reducible exact Ext.refl _ | with_reducible apply Ext.alloc | with_reducible apply Ext.set9 | (with_reducible refine Ext.setg ?_ ?_; (simp; done))))), rfl⟩
    · have HM := Lib.hid (show PG.moved k ⟨op, x, y, neg, set⟩ = ⟨op, x, y, neg, set⟩ by unfold PG.moved; rw [if_neg o4, if_neg o5])
      rw [HM.out]
      clear h4 h5
      go_enter Try.func98, Try.ntmps98
      go_wp2_with fail
      refine bodyPost_ret (v := .agg #[.int .i64 op, .int .i64 x, .int .i64 y, .bool neg, .slice A n c]) (by simp [results, Try.results98, go_sem]) rfl ?_
      exact ⟨by (focus (repeat (first | with_reducible exact Ext.refl _ | with_reducible apply Ext.alloc | with_reducible apply Ext.set9 | (with_reducible refine Ext.setg ?_ ?_; (simp; done))))), rfl⟩
end Go.Proofs.Ytfblkahjefdmaaa
