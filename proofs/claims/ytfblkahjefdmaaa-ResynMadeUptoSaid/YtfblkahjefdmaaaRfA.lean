/- Walks: the document's own reader of patterns: its block; next, ok, bad; nodes put lower. -/
import Derived.Test.YtfblkahjefdmaaaRcl
import Derived.Test.YtfblkahjefdmaaaRcs
import Derived.Test.YtfblkahjefdmaaaKn8
import Derived.Test.YtfblkahjefdmaaaTap
namespace Go.Proofs.Ytfblkahjefdmaaa
open Go.RowKit

/-- The reader's block. -/
def QS (rb : Nat) (sv : Value) (w : World) (st : RX.St) : Prop :=
  w.heap[rb]? = some (.cells #[sv, .int .i64 st.at_, .int .i64 st.caps, .int .i64 st.op, .int .i64 st.code, .int .i64 st.bat] 130 (0, 0))
/-- The reader's text, known at an elder world; its block, now. -/
structure Qn (w0 : World) (rb : Nat) (sv : Value) (s : List Int) (w : World) (st : RX.St) : Prop where
  sl : SlC w0 sv s
  lo : w0.heap.size ≤ rb
  len : s.length ≤ 60
  pos : ∀ x ∈ s, 0 ≤ x
  ext : Ext w0 w
  blk : QS rb sv w st
section
variable {w0 w w' : World} {rb : Nat} {sv : Value} {s : List Int} {st st' : RX.St}
theorem QS.c0 (h : QS rb sv w st) : w.cell? ⟨rb, 0, none⟩ = some sv := cell_of_row w rb 0 _ _ _ h
theorem QS.c1 (h : QS rb sv w st) : w.cell? ⟨rb, 1, none⟩ = some (.int .i64 st.at_) := cell_of_row w rb 1 _ _ _ h
theorem QS.c2 (h : QS rb sv w st) : w.cell? ⟨rb, 2, none⟩ = some (.int .i64 st.caps) := cell_of_row w rb 2 _ _ _ h
theorem QS.c3 (h : QS rb sv w st) : w.cell? ⟨rb, 3, none⟩ = some (.int .i64 st.op) := cell_of_row w rb 3 _ _ _ h
theorem QS.c4 (h : QS rb sv w st) : w.cell? ⟨rb, 4, none⟩ = some (.int .i64 st.code) := cell_of_row w rb 4 _ _ _ h
theorem QS.c5 (h : QS rb sv w st) : w.cell? ⟨rb, 5, none⟩ = some (.int .i64 st.bat) := cell_of_row w rb 5 _ _ _ h
theorem QS.fr (h : QS rb sv w st) (o : Nat) : w.frozen? ⟨rb, o, none⟩ = false := frozen_of_row w rb o _ _ h
theorem QS.set1 (h : QS rb sv w st) (n : Nat) : QS rb sv (w.setCell ⟨rb, 1, none⟩ (.int .i64 n)) { st with at_ := n } := heap_set h
theorem QS.set2 (h : QS rb sv w st) (n : Nat) : QS rb sv (w.setCell ⟨rb, 2, none⟩ (.int .i64 n)) { st with caps := n } := heap_set h
theorem QS.set3 (h : QS rb sv w st) (n : Nat) : QS rb sv (w.setCell ⟨rb, 3, none⟩ (.int .i64 n)) { st with op := n } := heap_set h
theorem QS.set45 (h : QS rb sv w st) (c b : Int) : QS rb sv ((w.setCell ⟨rb, 4, none⟩ (.int .i64 c)).setCell ⟨rb, 5, none⟩ (.int .i64 b)) { st with code := c, bat := b } := heap_set (heap_set h)
theorem Qn.step (h : Qn w0 rb sv s w st) (ho : Only w w' rb) (hr : QS rb sv w' st') : Qn w0 rb sv s w' st' := ⟨h.sl, h.lo, h.len, h.pos, h.ext.only ho h.lo, hr⟩
theorem Qn.ex (h : Qn w0 rb sv s w st) (hx : Ext w w') : Qn w0 rb sv s w' st := ⟨h.sl, h.lo, h.len, h.pos, h.ext.trans hx, hx.heap h.blk⟩
theorem Qn.rbl (h : Qn w0 rb sv s w st) : rb < w.heap.size := heap_lt h.blk
theorem Qn.bump (h : Qn w0 rb sv s w st) (n : Nat) : Qn w0 rb sv s (w.setCell ⟨rb, 1, none⟩ (.int .i64 ((st.at_ + n : Nat) : Int))) (st.bump n) := h.step ((Only.refl w rb).set _) (h.blk.set1 _)
theorem Qn.setcaps (h : Qn w0 rb sv s w st) (n : Nat) : Qn w0 rb sv s (w.setCell ⟨rb, 2, none⟩ (.int .i64 (n : Nat))) { st with caps := n } := h.step ((Only.refl w rb).set _) (h.blk.set2 _)
theorem Qn.setop (h : Qn w0 rb sv s w st) (n : Nat) : Qn w0 rb sv s (w.setCell ⟨rb, 3, none⟩ (.int .i64 (n : Nat))) { st with op := n } := h.step ((Only.refl w rb).set _) (h.blk.set3 _)
/-- Behind a call that only tells something. -/
def RetE (v : Value) (w : World) (e : Ending) (w' : World) : Prop := e = .returned v ∧ Ext w w'
/-- Behind a call that moves the reader on. -/
def QV (v : Value) (rb : Nat) (sv : Value) (w : World) (st' : RX.St) (e : Ending) (w' : World) : Prop := e = .returned v ∧ QS rb sv w' st' ∧ Only w w' rb
set_option maxHeartbeats 400000 in
theorem qnext_any (w : World) (st : RX.St) (he : Qn w0 rb sv s w st) :
    Calls Try.prog 116 #[.pointer (some ⟨rb, 0, none⟩)] w (RetE (.int .i32 (RX.nxt s st 0)) w) := by
  have c0 := he.blk.c0
  have c1 := he.blk.c1
  have HS := Lib.hid (he.sl.ext he.ext)
  obtain ⟨A, ca, rfl, hlx, hcx, _⟩ := he.sl
  clear he
  by_cases h : s.length ≤ st.at_
  · have HN := Lib.hid (show RX.nxt s st 0 = -1 by unfold RX.nxt; rw [List.getElem?_eq_none (by omega)]; rfl)
    have hd : decide ((s.length : Int) ≤ st.at_) = true := by simp; omega
    go_enter Try.func116, Try.ntmps116
    go_wp2_with fail
    go_quiet (fail)
    go_wp2_with fail
    go_ret
    exact ⟨ret_congr (by rw [HN.out]; rfl), (Ext.refl _).drewN _⟩
  · obtain ⟨b, o, rfl, hc⟩ := HS.out.at_ (k := st.at_) (by omega)
    have HN := Lib.hid (show RX.nxt s st 0 = s[st.at_] by unfold RX.nxt; rw [List.getElem?_eq_getElem (show st.at_ + 0 < s.length by omega)]; rfl)
    generalize s[st.at_] = x at HN hc
    have hd : decide ((s.length : Int) ≤ st.at_) = false := by simp; omega
    have h1 : st.at_ < s.length := by omega
    have h1i : (st.at_ : Int) < (s.length : Int) := by omega
    go_enter Try.func116, Try.ntmps116
    go_wp2_with fail
    go_quiet (fail)
    go_wp2_with fail
    go_quiet (fail)
    go_wp2_with fail
    go_ret
    refine ⟨ret_congr (by rw [HN.out]; rfl), ?_⟩
    first | exact (Ext.refl _).drewN _ | exact ((Ext.refl _).drewN _).drewN _
set_option maxHeartbeats 400000 in
theorem qok_any (w : World) (st : RX.St) (he : Qn w0 rb sv s w st) :
    Calls Try.prog 88 #[.pointer (some ⟨rb, 0, none⟩)] w (RetE (.bool st.ok) w) := by
  have c4 := he.blk.c4
  clear he
  go_enter Try.func88, Try.ntmps88
  go_wp2_with fail
  go_ret
  exact ⟨rfl, Ext.refl _⟩
set_option maxHeartbeats 400000 in
theorem qbad_any (w : World) (st : RX.St) (c b : Int) (he : Qn w0 rb sv s w st) :
    Calls Try.prog 89 #[.pointer (some ⟨rb, 0, none⟩), .int .i64 c, .int .i64 b] w (QV (.tuple #[]) rb sv w (st.fail c b)) := by
  have c4 := he.blk.c4
  have c5 := he.blk.c5
  have f4 := he.blk.fr 4
  have f5 := he.blk.fr 5
  have HR := Lib.hid he.blk
  clear he
  by_cases h : st.code = 0
  · have HF := Lib.hid (show st.fail c b = { st with code := c, bat := b } by simp [RX.St.fail, h])
    have hb : (st.code == 0) = true := by simp [h]
    clear h
    go_enter Try.func89, Try.ntmps89
    go_wp2_with fail
    go_end0
    refine ⟨rfl, ?_, ?_⟩
    · rw [HF.out]; exact HR.out.set45 c b
    · exact ((Only.refl w rb).set _).set _
  · have HF := Lib.hid (show st.fail c b = st by simp [RX.St.fail, h])
    have hb : (st.code == 0) = false := by simpa using h
    clear h
    go_enter Try.func89, Try.ntmps89
    go_wp2_with fail
    go_end0
    refine ⟨rfl, ?_, Only.refl w rb⟩
    rw [HF.out]; exact HR.out
end
section
variable {α : Type} {P : Program} {w : World} {ops : Array Oper} {rest : List Oper} {o : Oper} {a : Act} {Q : Exit → Act → World → Prop}
/-- As app_one: the row stays where it is, or lies in a new block. -/
theorem app_oneF {t te sz bytes : Nat} {z : Value} (ht : P.underlying t = some (.slice te)) (hinf : (P.info? te).map (fun i => (i.zero, i.size, i.bytes)) = some (some z, sz, bytes)) (hzs : z.cells.size = sz) (hsz : 0 < sz) (hby : bytes ≤ 1000)
    {T : List TypeId} {C : World → List Value → α → Prop} (hC : Keeps T C) (hT : te ∉ T)
    (hgd : o.guard = none) (s x : Operand) (ho : o.op = .call { callee := .builtin .append, args := #[s, x], argTypes := #[t, t] })
    (B : Nat) (v : Value) (xs : List α) (y : α) (cs : List Value) (tb : TypeId) (hown : OwnB te sz C B w v xs) (hne : 0 < xs.length) (hy : C w cs y) (hcs : cs.length = sz) (h1 : ∀ u ∈ cs, u.oneCell' = true)
    (hs : a.eval s = v) (nb : Nat) (hx : a.eval x = .slice (some ⟨nb, 0, none⟩) 1 1) (hnb : nb = w.heap.size) (hn : xs.length ≤ 1000000) (hB : B ≤ w.heap.size)
    (h : ∀ v' w', OwnB te sz C B w' v' (xs ++ [y]) → (w.alloc (.cells cs.toArray tb)).grownBy w' v.ownBlock → (v'.ownBlock = v.ownBlock ∨ v'.ownBlock = some (w.heap.size + 1)) → wpList P ops Q rest (a.put o.dst v') w') :
    wpList P ops Q (o :: rest) a (w.alloc (.cells cs.toArray tb)) := by
  subst hnb
  obtain ⟨i0, hi, hz0, hz1, hz2⟩ := info_parts hinf
  obtain ⟨flat, hr, h2⟩ := hown
  have hr' := World.ownsRow.alloc hr (.cells cs.toArray tb)
  have hm : xs.length + 1 ≤ maxLen := by unfold maxLen; omega
  have hbb : (xs.length + 1) * bytes ≤ 140737488355328 := Nat.le_trans (Nat.mul_le_mul (show xs.length + 1 ≤ 1000001 by omega) hby) (by omega)
  obtain ⟨v', w', hrun, h3, h4, -⟩ := run_append_own (P := P) (w.alloc (.cells cs.toArray tb)) B t o.type te i0 z sz bytes ht hi hz0 hz1 hz2 hzs hsz v xs.length flat hr' ⟨w.heap.size, 0, none⟩ 1 1 cs (by omega) (news_all _ _ _) h1 hm hbb (by simp; omega)
  have h5 : v'.ownBlock = v.ownBlock ∨ v'.ownBlock = some (w.heap.size + 1) := by
    rcases hr'.2 with ⟨-, h0⟩ | ⟨g, cap, cur, rfl, hbg, hg, hnc, hcm, hcs2, htake⟩
    · omega
    · by_cases hroom : xs.length + 1 ≤ cap
      · have hfit : xs.length * i0.size + cs.length ≤ cur.size := by rw [hz1, hcs, hcs2]; have := Nat.mul_le_mul_right sz hroom; rw [Nat.add_mul] at this; omega
        have hr2 := run_append_room (P := P) (w.alloc (.cells cs.toArray tb)) t o.type te i0 ht hi g xs.length cap cur hg ⟨w.heap.size, 0, none⟩ 1 1 cs (by rw [hz1]; omega) (news_all _ _ _) h1 hroom hfit
        rw [hrun] at hr2
        injection hr2 with e1 _
        left; rw [e1]; rfl
      · have holds : ∀ j u, flat[j]? = some u → (w.alloc (.cells cs.toArray tb)).cell? ((⟨g, 0, none⟩ : Addr).add j) = some u := hr'.cells (g := g) rfl
        have hr2 := run_append_grow (P := P) (w.alloc (.cells cs.toArray tb)) t o.type te i0 z ht hi hz0 ⟨g, 0, none⟩ xs.length cap flat (by rw [hz1]; exact hr.1) holds ⟨w.heap.size, 0, none⟩ 1 1 cs (by rw [hz1]; omega) (news_all _ _ _) (by unfold maxLen at hm; omega) (by omega) (growslice_fits (by omega) (by rw [hz2]; exact hbb))
        rw [hrun] at hr2
        injection hr2 with e1 _
        right; rw [e1]
        simp [Value.ownBlock]
  refine wpList_plain hgd fun _ hK => ?_
  unfold Oper.wp execOp
  simp only [ho, resolve, invoke, builtin, Sem.run_bind, Sem.run_pure, Result.andThen_ok, List.map_toArray, List.map_cons, List.map_nil, hs, hx, hrun]
  refine hK _ _ (h v' w' (OwnB.snoc h2 hr.1 hC ?_ hy hcs h3) h4 h5)
  refine (KeepT.of_ext ((Ext.refl w).alloc _)).trans (KeepT.of_grown h4 (fun g hg => ?_))
  obtain ⟨cur, hh⟩ := own_type hr g hg
  exact ⟨cur, te, ((Ext.refl w).alloc _).heap hh, hT⟩
end
end Go.Proofs.Ytfblkahjefdmaaa
