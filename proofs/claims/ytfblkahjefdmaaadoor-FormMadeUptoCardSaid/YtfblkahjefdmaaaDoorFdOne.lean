/- Walks: one of some texts; a row that is made of the tape. -/
import Derived.Test.YtfblkahjefdmaaaDoorFdTap
import Derived.Test.YtfblkahjefdmaaaDoorFmT
namespace Go.Proofs.YtfblkahjefdmaaaDoor
open Go.RowKit

section
variable {w0 : World} {tb : Nat} {sv : Value} {ts : List Int} {w wr w' : World} {i j : Nat}
theorem strs_cell {bs : List ByteArray} {t : TypeId} {k : Nat} (hk : k < bs.length) : (w.alloc (.cells (bs.map Value.string).toArray t)).cell? ⟨w.heap.size, k, none⟩ = some (.string bs[k]) := by
  rw [World.cell?_alloc_new]; simp [hk]

set_option maxHeartbeats 1000000 in
theorem one_any (bs : List ByteArray) (g : Nat) (w : World) (i : Nat) (he : Ten w0 tb sv ts w i) (hg : tb < g) (hb1 : 1 ≤ bs.length) (hb2 : bs.length ≤ 100) (hsz : ∀ b ∈ bs, b.size ≤ 100) (hgl : g < w.heap.size)
    (hc : ∀ k (hk : k < bs.length), w.cell? ⟨g, k, none⟩ = some (.string bs[k])) :
    Calls Tryd.prog 25 #[.pointer (some ⟨tb, 0, none⟩), .slice (some ⟨g, 0, none⟩) bs.length bs.length] w (PostTV (fun w' v => SlB 21 1 Cc (tb + 1) w' v (TP.one ts i (bs.map signs)).1) tb sv w (TP.one ts i (bs.map signs)).2) := by
  have hlt := TP.next_lt ts i hb1
  have HN := Lib.hid (show TP.one ts i (bs.map signs) = (signs bs[(TP.next ts i bs.length).1], (TP.next ts i bs.length).2) by
    unfold TP.one; rw [List.length_map, List.getD_eq_getElem?_getD, List.getElem?_eq_getElem (by simpa using hlt)]; simp)
  have hx : bs[(TP.next ts i bs.length).1].size ≤ 1000000 := by have := hsz _ (List.getElem_mem hlt); omega
  have HT := Lib.hid (tnext_any (bs.length : Int) w i he (by omega))
  have HC := Lib.hid (hc _ hlt)
  have htb := he.tbl
  clear he hsz hc
  go_enter Tryd.func25, Tryd.ntmps25
  go_wp2_with fail
  have HT2 := HT.out
  rw [Int.toNat_natCast] at HT2
  generalize TP.next ts i bs.length = nx at *
  obtain ⟨q, j⟩ := nx
  dsimp only at *
  refine HT2.mono ?_
  rintro e w' ⟨rfl, hr, ho⟩
  have hcell : w'.cell? ⟨g, q, none⟩ = some (.string bs[q]) := by
    have h0 := HC.out
    rw [← h0]
    unfold World.cell?
    rw [ho.block g hgl (by intro e; injection e with e; omega)]
  have HO := Lib.hid ho
  have HR := Lib.hid hr
  clear hr ho HT2
  generalize bs[q] = x at hcell hx HN ⊢
  go_wp2_with (go_at_call 23; refine (plain_any x _ hx).mono ?_; rintro e w2 ⟨v, rfl, hv, hE⟩)
  go_ret
  rw [HN.out]
  exact ⟨_, rfl, SlB.weaken hv.sl (Nat.le_trans htb (World.grownBy.size HO.out)), hE.heap HR.out, HO.out.trans (Only.of_ext hE tb)⟩
theorem one_lit (bs : List ByteArray) (n : Nat) (l : List (List Int)) (a : List Int × Nat) (w : World) (i : Nat) (he : Ten w0 tb sv ts w i) (hb1 : 1 ≤ bs.length) (hb2 : bs.length ≤ 100) (hsz : ∀ b ∈ bs, b.size ≤ 100) (hn : n = bs.length) (hl : l = bs.map signs) (ha : TP.one ts i l = a) :
    Calls Tryd.prog 25 #[.pointer (some ⟨tb, 0, none⟩), .slice (some ⟨w.heap.size, 0, none⟩) n n] (w.alloc (.cells (bs.map Value.string).toArray 9)) (PostTV (fun w' v => SlB 21 1 Cc (tb + 1) w' v a.1) tb sv (w.alloc (.cells (bs.map Value.string).toArray 9)) a.2) := by
  subst hn hl ha
  exact one_any bs w.heap.size _ i he.alloc he.tbl hb1 hb2 hsz (by simp) fun k hk => strs_cell hk
theorem next4 (a : Nat × Nat) (w : World) (i : Nat) (he : Ten w0 tb sv ts w i) (ha : TP.next ts i 4 = a) : Calls Tryd.prog 24 #[.pointer (some ⟨tb, 0, none⟩), .int .i64 4] w (PostT (.int .i64 (a.1 : Nat)) tb sv w a.2) := by
  subst ha; exact tnext_any 4 w i he (by decide)

/-- Inside of a text of the tape's: the tape; the signs so far. -/
structure Tps (w0 : World) (tb : Nat) (sv : Value) (ts : List Int) (w : World) (i : Nat) (v : Value) (out : List Int) (wr : World) : Prop where
  ten : Ten w0 tb sv ts wr i
  only : Only w wr tb
  own : OwnB 21 1 Cc w.heap.size wr v out
  le : tb + 1 ≤ w.heap.size
variable {v v' : Value} {out out' : List Int}
theorem Tps.drewN {n : Nat} (h : Tps w0 tb sv ts w i v out wr) : Tps w0 tb sv ts w i v out (wr.drewN n) := ⟨h.ten.drewN, h.only.drewN n, h.own.drewN, h.le⟩
theorem Tps.alloc {o : Obj} (h : Tps w0 tb sv ts w i v out wr) : Tps w0 tb sv ts w i v out (wr.alloc o) := ⟨h.ten.alloc, h.only.alloc o, h.own.allocs, h.le⟩
theorem Tps.call (h : Tps w0 tb sv ts w i v out wr) (hr : TS tb sv w' j) (ho : Only wr w' tb) (hj : j ≤ ts.length) : Tps w0 tb sv ts w j v out w' :=
  ⟨h.ten.step ho hr hj, h.only.trans ho, h.own.low ho (by have := h.le; omega), h.le⟩
theorem Tps.app (h : Tps w0 tb sv ts w i v out wr) (h1 : OwnB 21 1 Cc w.heap.size w' v' out') (h2 : wr.grownBy w' v.ownBlock) : Tps w0 tb sv ts w i v' out' w' :=
  ⟨⟨h.ten.sl, h.ten.lo, h.ten.ext.grown h2 (fun k hk => Nat.le_trans h.ten.lo (Nat.le_trans (Nat.le_of_lt h.le) (h.own.lt k hk).1)), (h2.block tb h.ten.tbl (by intro e; have := (h.own.lt tb e.symm).1; have := h.le; omega)).trans h.ten.st, h.ten.le⟩,
    Only.own (nb := w.heap.size) h.only h2 (fun k hk => (h.own.lt k hk).1) (Nat.le_refl _), h1, h.le⟩
theorem Tps.start (he : Ten w0 tb sv ts w i) : Tps w0 tb sv ts w i (.slice none 0 0) [] w := ⟨he, Only.refl w tb, OwnB.nil_, he.tbl⟩

end
end Go.Proofs.YtfblkahjefdmaaaDoor
