/- Words on memory for a try of the document's own matcher. -/
import Derived.Test.YtfblkahjefdmaaaGreatRmA
import Derived.Test.YtfblkahjefdmaaaGreatMxE
namespace Go.Proofs.YtfblkahjefdmaaaGreat
open Go.RowKit

theorem info_way : (Tryz.prog.info? 97).map (fun i => (i.zero, i.size, i.bytes)) = some (some (.agg #[.bool false, .int .i64 0, .int .i64 0]), 3, 24) := by kernel_rfl
/-- A try's cells: the seen states in sb, the notes in nb, the ways left. -/
structure Trj (w : World) (sb nb : Nat) (vw : Value) (m n : Nat) (c : MX.Cf) (wr : World) : Prop where
  ext : Ext w wr
  los : w.heap.size ≤ sb
  lon : w.heap.size ≤ nb
  seen : wr.heap[sb]? = some (.cells ((MX.seenL m n c.seen).map Value.bool).toArray 4 (0, 0))
  notes : wr.heap[nb]? = some (.cells (c.notes.map (Value.int .i64)).toArray 3 (0, 0))
  ways : OwnB 97 3 Cw w.heap.size wr vw c.ways.reverse
section
variable {w wr w' : World} {sb nb m n : Nat} {vw vw' : Value} {c : MX.Cf}
theorem Trj.ext_ (h : Trj w sb nb vw m n c wr) (hx : Ext wr w') : Trj w sb nb vw m n c w' :=
  ⟨h.ext.trans hx, h.los, h.lon, hx.heap h.seen, hx.heap h.notes, h.ways.keepP (fun _ _ hc => hc) (fun _ _ _ hg => hx.heap hg)⟩
theorem Trj.fs (h : Trj w sb nb vw m n c wr) (o : Nat) : wr.frozen? ⟨sb, o, none⟩ = false := frozen_of_row wr sb o _ _ h.seen
theorem Trj.fn (h : Trj w sb nb vw m n c wr) (o : Nat) : wr.frozen? ⟨nb, o, none⟩ = false := frozen_of_row wr nb o _ _ h.notes
theorem Trj.sn (h : Trj w sb nb vw m n c wr) : sb ≠ nb := types_ne h.seen h.notes (by decide)
theorem Trj.see (h : Trj w sb nb vw m n c wr) {pc at_ : Nat} (hp : pc < m) (ha : at_ < n) : wr.cell? ⟨sb, pc * n + at_, none⟩ = some (.bool (c.seen pc at_)) := by
  rw [cell_of_row wr sb _ _ _ _ h.seen]
  have := MX.seenL_at c.seen hp ha
  simp [this]
theorem Trj.nt (h : Trj w sb nb vw m n c wr) {x : Nat} (hx : x < c.notes.length) : wr.cell? ⟨nb, x, none⟩ = some (.int .i64 (c.notes.getD x (-1))) := by
  rw [cell_of_row wr nb _ _ _ _ h.notes]
  simp [List.getElem?_eq_getElem hx]
theorem Trj.far (h : Trj w sb nb vw m n c wr) : ∀ g cur, vw.ownBlock = some g → wr.heap[g]? = some (.cells cur 97 (0, 0)) → g ≠ sb ∧ g ≠ nb :=
  fun _ _ _ hg => ⟨types_ne hg h.seen (by decide), types_ne hg h.notes (by decide)⟩
/-- A state is marked. -/
theorem Trj.mark (h : Trj w sb nb vw m n c wr) {pc at_ : Nat} (hp : pc < m) (ha : at_ < n) : Trj w sb nb vw m n ⟨MX.mark c.seen pc at_, c.ways, c.notes⟩ (wr.setCell ⟨sb, pc * n + at_, none⟩ (.bool true)) := by
  refine ⟨h.ext.set (p := ⟨sb, pc * n + at_, none⟩) h.los _, h.los, h.lon, ?_, (heap_off h.sn.symm).trans h.notes, h.ways.keepP (fun _ _ hc => hc) (fun g cur hg hh => ?_)⟩
  · have := heap_set (o := pc * n + at_) (u := .bool true) h.seen
    rw [this]
    congr 2
    show _ = ((MX.seenL m n (MX.mark c.seen pc at_)).map Value.bool).toArray
    rw [← MX.seenL_mark c.seen hp ha, List.map_set]
    simp
  · rw [heap_off (h.far g cur hg hh).1]; exact hh
/-- A note is set. -/
theorem Trj.note (h : Trj w sb nb vw m n c wr) {x : Nat} {v : Int} : Trj w sb nb vw m n ⟨c.seen, c.ways, c.notes.set x v⟩ (wr.setCell ⟨nb, x, none⟩ (.int .i64 v)) := by
  refine ⟨h.ext.set (p := ⟨nb, x, none⟩) h.lon _, h.los, h.lon, (heap_off h.sn).trans h.seen, ?_, h.ways.keepP (fun _ _ hc => hc) (fun g cur hg hh => ?_)⟩
  · have := heap_set (o := x) (u := .int .i64 v) h.notes
    rw [this]
    congr 2
    show _ = ((c.notes.set x v).map (Value.int .i64)).toArray
    rw [List.map_set]
    simp
  · rw [heap_off (h.far g cur hg hh).2]; exact hh
theorem Trj.other (h : Trj w sb nb vw m n c wr) (h2 : wr.grownBy w' vw.ownBlock) {b : Nat} {cs : Array Value} {t : TypeId} (hb : wr.heap[b]? = some (.cells cs t (0, 0))) (ht : 97 ≠ t) : w'.heap[b]? = some (.cells cs t (0, 0)) :=
  (h2.block b (heap_lt hb) (by intro e; obtain ⟨cur, hh⟩ := h.ways.type b e.symm; exact types_ne hh hb ht rfl)).trans hb
/-- A way is left: behind the append. -/
theorem Trj.push (h : Trj w sb nb vw m n c wr) {x : MX.W} (h1 : OwnB 97 3 Cw w.heap.size w' vw' (c.ways.reverse ++ [x])) (h2 : wr.grownBy w' vw.ownBlock) : Trj w sb nb vw' m n ⟨c.seen, x :: c.ways, c.notes⟩ w' := by
  have hlt := fun k hk => (h.ways.lt k hk).1
  refine ⟨h.ext.grown h2 (fun k hk => hlt k hk), h.los, h.lon, h.other h2 h.seen (by decide), h.other h2 h.notes (by decide), ?_⟩
  rw [show (x :: c.ways).reverse = c.ways.reverse ++ [x] from List.reverse_cons]
  exact h1
/-- A way is taken. -/
theorem Trj.pop {S : MX.Seen} {x : MX.W} {r : List MX.W} {nt : List Int} {A : Option Addr} {k cap : Nat} (h : Trj w sb nb (.slice A k cap) m n ⟨S, x :: r, nt⟩ wr) : Trj w sb nb (.slice A r.length cap) m n ⟨S, r, nt⟩ wr := by
  have hw := h.ways
  rw [show (x :: r).reverse = r.reverse ++ [x] from List.reverse_cons] at hw
  have hp := hw.pop
  rw [List.length_reverse] at hp
  exact ⟨h.ext, h.los, h.lon, h.seen, h.notes, hp⟩
theorem Trj.top {S : MX.Seen} {x : MX.W} {r : List MX.W} {nt : List Int} {A : Option Addr} {k cap : Nat} (h : Trj w sb nb (.slice A k cap) m n ⟨S, x :: r, nt⟩ wr) :
    ∃ g, A = some ⟨g, 0, none⟩ ∧ k = r.length + 1 ∧ ∀ i u, (wayV x)[i]? = some u → wr.cell? ⟨g, r.length * 3 + i, none⟩ = some u := by
  have hw := h.ways
  rw [show (x :: r).reverse = r.reverse ++ [x] from List.reverse_cons] at hw
  obtain ⟨g, cs, h1, h2, h3, h4⟩ := hw.last
  have h3 : cs = wayV x := h3
  subst h3
  rw [List.length_reverse] at h2 h4
  exact ⟨g, h1, h2, h4⟩
theorem Trj.formW (h : Trj w sb nb vw m n c wr) : ∃ A cap, vw = .slice A c.ways.length cap ∧ c.ways.length ≤ cap ∧ cap ≤ 9223372036854775807 := by
  obtain ⟨A, cap, hv, h1, h2⟩ := h.ways.form
  rw [List.length_reverse] at hv h1
  exact ⟨A, cap, hv, h1, h2⟩
/-- The beginning of a try: one way is left. -/
theorem Trj.renew {S : MX.Seen} {W0 : List MX.W} {nt : List Int} (h : Trj w sb nb vw m n ⟨S, W0, nt⟩ wr) (a : Nat) :
    Trj w sb nb (.slice (some ⟨wr.heap.size, 0, none⟩) 1 1) m n ⟨S, [.fwd 0 a], nt⟩ (wr.alloc (.cells #[.bool false, .int .i64 0, .int .i64 (a : Int)] 97)) := by
  have hT := h.ext_ ((Ext.refl wr).alloc (.cells #[.bool false, .int .i64 0, .int .i64 (a : Int)] 97))
  refine ⟨hT.ext, h.los, h.lon, hT.seen, hT.notes, ?_⟩
  exact OwnB.lit _ [MX.W.fwd 0 a] _ _ rfl rfl h.ext.size (by simp) rfl fun k x hx => by
      match k, hx with
      | 0, hx =>
        simp at hx
        subst hx
        refine ⟨wayV (.fwd 0 a), rfl, rfl, fun i u hu => ?_⟩
        match i, hu with
        | 0, hu => simpa [wayV] using hu
        | 1, hu => simpa [wayV] using hu
        | 2, hu => simpa [wayV] using hu
        | i + 3, hu => simp [wayV] at hu
end
/-- What a try of the document's matcher returns. -/
def TryR (w : World) (sb m n : Nat) (S' : MX.Seen) (r : Option (List Int)) (e : Ending) (w' : World) : Prop :=
  Ext w w' ∧ match r with
  | some r' => ∃ nb, e = .returned (.tuple #[.slice (some ⟨nb, 0, none⟩) r'.length r'.length, .bool true]) ∧ w.heap.size ≤ nb ∧ w'.heap[nb]? = some (.cells (r'.map (Value.int .i64)).toArray 3 (0, 0))
  | none => e = .returned (.tuple #[.slice none 0 0, .bool false]) ∧ w'.heap[sb]? = some (.cells ((MX.seenL m n S').map Value.bool).toArray 4 (0, 0))
end Go.Proofs.YtfblkahjefdmaaaGreat
