/- Walks: marks, Trip, Asks, Depth. -/
import Derived.Test.YtdhhoicngldfmaaDoorFaultE
namespace Go.Proofs.YtdhhoicngldfmaaDoor
open Go.RowKit

set_option maxHeartbeats 400000 in
theorem as_nil (p : Nat) (t : TypeId) (w : World) : Calls Tryd.prog 18 #[.nilIface, .iface t (.pointer (some ⟨p, 0, none⟩))] w (Ret (.bool false) w) := by
  go_enter Tryd.func18, Tryd.ntmps18
  go_wp2_with fail
  go_ret
  exact ⟨rfl, Ext.refl w⟩

theorem Only.cell_ne {w w' : World} {p : Nat} (h : Only w w' p) {a : Addr} {v : Value} (hc : w.cell? a = some v) (hne : a.block ≠ p) : w'.cell? a = some v := h.cell hc (by intro e; injection e with e; exact hne e)

/-- A chain of which each block lies below B is kept where only block p from B on is written. -/
theorem Chain.only {w w' : World} {p : Nat} (h : Only w w' p) (w0 : World) (h0 : Ext w0 w) (hp : w0.heap.size ≤ p) {c : Int} {r : List Int} {e : Value} (hc : Chain w0 e c r) : Chain w' e c r :=
  Chain.ext (h0.grown h (by intro q hq; injection hq with hq; omega)) r e hc

set_option maxHeartbeats 2000000 in
theorem marks_any (c : Int) (r0 : List Int) (e0 : Value) (w : World) (hL : Laid w) (hch0 : Chain w e0 c r0) (hn : r0.length ≤ 1000) :
    Calls Tryd.prog 15 #[e0] w (RetP (fun w' v => OwnI w' (w.heap.size + 1) 3 v r0) w) := by
  obtain ⟨t0, b0, rfl⟩ := hch0.iface
  have HC := Lib.hid hch0
  clear hch0
  have HL := Lib.hid hL
  clear hL
  go_enter Tryd.func15, Tryd.ntmps15
  go_wp2_with fail
  go_loopg [0, 3] r0.length (fun k e v wr => ∃ pre r, pre ++ r = r0 ∧ r.length = k ∧ Chain w e c r ∧ OwnI wr (w.heap.size + 1) 3 v pre ∧ Ext w wr ∧ w.heap.size < wr.heap.size ∧ ∃ u, wr.heap[w.heap.size]? = some (.cells #[u] 43 (0, 0)))
  case atStart => exact ⟨[], r0, rfl, rfl, HC.out, World.ownsRow_nil _ _ _ _, (Ext.refl w).alloc _, by simp, _, heap_alloc_new w _⟩
  case round =>
    obtain ⟨pre, r, hpre, hr, hch, hown, hE, hsz, u, hu⟩ := hrel
    have HP := Lib.hid hpre
    have hpl : pre.length ≤ 1000 := by have := congrArg List.length hpre; simp at this; omega
    clear hpre
    cases r with
    | nil =>
      obtain ⟨b, rfl, hb⟩ := hch
      have H := Lib.hid (asTop_w 40 b w.heap.size wr (HL.out.ext hE) hsz (fun bb w' => bb = false ∧ Ext wr w')
        (fun w' g hE' _ hg => (as_w0 b w.heap.size g w').mono fun e w2 ⟨bb, he, h1, h2⟩ => ⟨bb, he, h1, hE'.trans h2⟩))
      clear hu hb hr
      go_wp2_with fail
      refine H.out.mono ?_
      rintro e w1 ⟨bb, rfl, rfl, hE1⟩
      go_wp2_with fail
      go_ret
      have HP' := HP.out
      rw [List.append_nil] at HP'
      exact ⟨_, rfl, by rw [← HP']; exact hE1.own hown, hE.trans hE1⟩
    | cons m r =>
      obtain ⟨b, e', rfl, hb, hch'⟩ := hch
      obtain ⟨t', b', rfl⟩ := hch'.iface
      have hbl : b < w.heap.size := by
        have hc : w.cell? ⟨b, 0, none⟩ = some (.int .i64 m) := cell_of_row w b 0 _ _ _ hb
        exact World.block_lt_of_cell? w _ hc
      have H := Lib.hid (asTop_w 43 b w.heap.size wr (HL.out.ext hE) hsz (fun bb w' => bb = true ∧ Only wr w' w.heap.size ∧ w'.heap[w.heap.size]? = some (.cells #[.pointer (some ⟨b, 0, none⟩)] 43 (0, 0)))
        (fun w' g hE' _ hg => (as_w1 b w.heap.size g u w' (hE'.heap hu) hg).mono fun e w2 ⟨bb, he, h1, h2, h3⟩ => ⟨bb, he, h1, Only.trans_ext hE' h2, h3⟩))
      have HB := Lib.hid hb
      have HCH := Lib.hid hch'
      have hrl : r.length < gk := by simp at hr; omega
      clear hu hr hch' hb
      go_wp2_with fail
      refine H.out.mono ?_
      rintro e w1 ⟨bb, rfl, rfl, hO, hp⟩
      have hw1 : Ext w w1 := hE.grown hO (by intro q hq; injection hq with hq; omega)
      have hc0 : w1.cell? ⟨w.heap.size, 0, none⟩ = some (.pointer (some ⟨b, 0, none⟩)) := cell_of_row _ _ 0 _ _ _ hp
      have hb1 : w1.cell? ⟨b, 0, none⟩ = some (.int .i64 m) := cell_of_row _ _ 0 _ _ _ (hw1.heap HB.out)
      have hb2 : w1.cell? ⟨b, 1, none⟩ = some (.iface t' (.pointer (some ⟨b', 0, none⟩))) := cell_of_row _ _ 1 _ _ _ (hw1.heap HB.out)
      have hown1 : OwnI w1 (w.heap.size + 1) 3 _ pre := World.ownsRow.kept hown hO (by
        rcases hq : Value.ownBlock _ with _ | q
        · exact .inl rfl
        · right; intro e; injection e with e; have := (hown.lt q hq).1; omega)
      have hsz1 : w.heap.size + 1 ≤ w1.heap.size := by have := hO.size; omega
      have HPP := Lib.hid hp
      clear hp
      go_wp2_with (at_builtin; refine app_int rfl _ _ rfl (w.heap.size + 1) _ _ _ _ hown1 rfl rfl (by omega) hsz1 ?_)
      intro v' w2 h1 h2
      have hE2 : Ext w1 w2 ∨ True := .inr trivial
      have hlow : ∀ q, q ≤ w.heap.size → w2.heap[q]? = w1.heap[q]? := fun q hq =>
        (h2.block q (by simp; omega) (by intro e; have := (hown1.lt q e.symm).1; omega)).trans (Below.heap_alloc w1 _ q (by omega))
      have hE12 : Ext w w2 := (hw1.alloc _).grown h2 (fun q hq => by have := (hown1.lt q hq).1; omega)
      have hc0' : w2.cell? ⟨w.heap.size, 0, none⟩ = some (.pointer (some ⟨b, 0, none⟩)) := (World.cell?_of_block (hlow _ (Nat.le_refl _))).trans hc0
      have hb2' : w2.cell? ⟨b, 1, none⟩ = some (.iface t' (.pointer (some ⟨b', 0, none⟩))) := (World.cell?_of_block (hlow _ (by show b ≤ _; omega))).trans hb2
      have HU := Lib.hid ((hlow _ (Nat.le_refl _)).trans HPP.out)
      have hsz2 : w.heap.size < w2.heap.size := by have := h2.size; simp at this; omega
      clear hE2 hlow h2 hc0 hb1 hb2 hown1 hown hO hw1
      go_wp2_with fail
      go_roundg r.length
      case measure => exact hrl
      case rel => exact ⟨pre ++ [m], r, by rw [← HP.out]; simp, rfl, HCH.out, h1, hE12, hsz2, _, HU.out⟩
end Go.Proofs.YtdhhoicngldfmaaDoor
