/- Boxes that hold a node; rows of one row of nodes. -/
import Derived.Test.YtfblkahjefdmaaaRng
namespace Go.Proofs.Ytfblkahjefdmaaa
open Go.RowKit

/-- A node that lies in a block of its own. -/
def BX (nb : Nat) (w : World) (cs : List Value) : Prop := w.heap[nb]? = some (.cells cs.toArray 40 (0, 0))
theorem BX.c {nb : Nat} {w : World} {cs : List Value} (h : BX nb w cs) (i : Nat) (u : Value) (hu : cs[i]? = some u) : w.cell? ⟨nb, i, none⟩ = some u :=
  (cell_of_row w nb i _ _ _ h).trans (by simpa using hu)
theorem BX.fr {nb : Nat} {w : World} {cs : List Value} (h : BX nb w cs) (o : Nat) : w.frozen? ⟨nb, o, none⟩ = false := frozen_of_row w nb o _ _ h
theorem BX.only {nb rb : Nat} {w w' : World} {cs : List Value} (h : BX nb w cs) (ho : Only w w' rb) (hne : rb < nb) : BX nb w' cs := (ho.block nb (heap_lt h) (by intro e; injection e with e; omega)).trans h
theorem BX.setrb {nb rb o : Nat} {w : World} {u : Value} {cs : List Value} (hne : rb < nb) (h : BX nb w cs) : BX nb (w.setCell ⟨rb, o, none⟩ u) cs := h.only ((Only.refl w rb).set u) hne
theorem BX.drewN {nb n : Nat} {w : World} {cs : List Value} (h : BX nb w cs) : BX nb (w.drewN n) cs := h
theorem BX.alloc {nb : Nat} {w : World} {o : Obj} {cs : List Value} (h : BX nb w cs) : BX nb (w.alloc o) cs := ((Ext.refl w).alloc o).heap h
theorem BX.new {nb : Nat} {w : World} {cs : List Value} (hnb : nb = w.heap.size) : BX nb (w.alloc (.cells cs.toArray 40)) cs := hnb ▸ heap_alloc_new w _
theorem Only.setNew {a w : World} {p nb o : Nat} {u : Value} (hn : a.heap.size ≤ nb) (h : Only a w p) : Only a (w.setCell ⟨nb, o, none⟩ u) p :=
  ⟨h.os, h.tape, h.output, by simpa using h.size, fun i hi hne => (Below.heap_setCell w ⟨nb, o, none⟩ u i (by rintro rfl; exact Nat.lt_irrefl _ (Nat.lt_of_lt_of_le hi hn))).trans (h.block i hi hne)⟩
theorem RS.setbox {rb nb o : Nat} {u : Value} {sv : Value} {w : World} {st : RX.St} (h : RS rb sv w st) (hn : rb < nb) : RS rb sv (w.setCell ⟨nb, o, none⟩ u) st :=
  (Below.heap_setCell w ⟨nb, o, none⟩ u rb (by rintro rfl; exact Nat.lt_irrefl _ hn)).trans h
theorem Env.setbox {w0 : World} {rb nb o : Nat} {u : Value} {sv : Value} {s : List Int} {w : World} {st : RX.St} (hn : rb < nb) (h : Env w0 rb sv s w st) : Env w0 rb sv s (w.setCell ⟨nb, o, none⟩ u) st :=
  ⟨h.1, h.2.1, h.2.2.1, h.2.2.2.1.only ((Only.refl w nb).set u) (Nat.le_trans h.2.1 (Nat.le_of_lt hn)), h.rs.setbox hn⟩
theorem l_lit {B nb : Nat} {w : World} {va : Value} {l : List RX.ReN} (hnb : nb = w.heap.size) (hb : B ≤ w.heap.size) (h : SlRe B B w va l) :
    SlB 33 1 (CL B) B (w.alloc (.cells #[va] 33)) (.slice (some ⟨nb, 0, none⟩) 1 1) [l] := by
  refine OwnB.sl (OwnB.lit _ [l] _ _ hnb rfl hb (by simp) (by simp) ?_)
  intro k y hy
  match k, hy with
  | 0, hy =>
    simp at hy; subst hy
    exact ⟨[va], ⟨va, rfl, h.keep (keeps_re B) (KeepT.of_ext ((Ext.refl w).alloc _)) (KeepT.of_ext ((Ext.refl w).alloc _))⟩, rfl, fun i u hu => by simpa using hu⟩
end Go.Proofs.Ytfblkahjefdmaaa
