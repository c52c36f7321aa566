/- Walks: the document's own reader of patterns: its block; next, ok, bad; nodes put lower. -/
import Derived.Test.YtfblkahjefdmaaaGreatQh
import Derived.Test.YtfblkahjefdmaaaGreatWc
import Derived.Test.YtfblkahjefdmaaaGreatTap
namespace Go.Proofs.YtfblkahjefdmaaaGreat
open Go.RowKit

/-- The reader's block. -/
def QS (rb : Nat) (sv : Value) (w : World) (st : RX.St) : Prop :=
  w.heap[rb]? = some (.cells #[sv, .int .i64 st.at_, .int .i64 st.caps, .int .i64 st.op, .int .i64 st.code, .int .i64 st.bat] 88 (0, 0))
/-- The reader's text, known at an elder world; its block, now. -/
structure Qn (w0 : World) (rb : Nat) (sv : Value) (s : List Int) (w : World) (st : RX.St) : Prop where
  sl : SlC w0 sv s
  lo : w0.heap.size ≤ rb
  len : s.length ≤ 60
  pos : ∀ x ∈ s, 0 ≤ x
  ext : Ext w0 w
  blk : QS rb sv w st
section
variable {w0 w w' : World} {rb : Nat} {sv : Value} {s : List Int} {st st' : RX.St}
theorem QS.c0 (h : QS rb sv w st) : w.cell? ⟨rb, 0, none⟩ = some sv := cell_of_row w rb 0 _ _ _ h
theorem QS.c1 (h : QS rb sv w st) : w.cell? ⟨rb, 1, none⟩ = some (.int .i64 st.at_) := cell_of_row w rb 1 _ _ _ h
theorem QS.c2 (h : QS rb sv w st) : w.cell? ⟨rb, 2, none⟩ = some (.int .i64 st.caps) := cell_of_row w rb 2 _ _ _ h
theorem QS.c3 (h : QS rb sv w st) : w.cell? ⟨rb, 3, none⟩ = some (.int .i64 st.op) := cell_of_row w rb 3 _ _ _ h
theorem QS.c4 (h : QS rb sv w st) : w.cell? ⟨rb, 4, none⟩ = some (.int .i64 st.code) := cell_of_row w rb 4 _ _ _ h
theorem QS.c5 (h : QS rb sv w st) : w.cell? ⟨rb, 5, none⟩ = some (.int .i64 st.bat) := cell_of_row w rb 5 _ _ _ h
theorem QS.fr (h : QS rb sv w st) (o : Nat) : w.frozen? ⟨rb, o, none⟩ = false := frozen_of_row w rb o _ _ h
theorem QS.set1 (h : QS rb sv w st) (n : Nat) : QS rb sv (w.setCell ⟨rb, 1, none⟩ (.int .i64 n)) { st with at_ := n } := heap_set h
theorem QS.set2 (h : QS rb sv w st) (n : Nat) : QS rb sv (w.setCell ⟨rb, 2, none⟩ (.int .i64 n)) { st with caps := n } := heap_set h
theorem QS.set3 (h : QS rb sv w st) (n : Nat) : QS rb sv (w.setCell ⟨rb, 3, none⟩ (.int .i64 n)) { st with op := n } := heap_set h
theorem QS.set45 (h : QS rb sv w st) (c b : Int) : QS rb sv ((w.setCell ⟨rb, 4, none⟩ (.int .i64 c)).setCell ⟨rb, 5, none⟩ (.int .i64 b)) { st with code := c, bat := b } := heap_set (heap_set h)
theorem Qn.step (h : Qn w0 rb sv s w st) (ho : Only w w' rb) (hr : QS rb sv w' st') : Qn w0 rb sv s w' st' := ⟨h.sl, h.lo, h.len, h.pos, h.ext.only ho h.lo, hr⟩
theorem Qn.ex (h : Qn w0 rb sv s w st) (hx : Ext w w') : Qn w0 rb sv s w' st := ⟨h.sl, h.lo, h.len, h.pos, h.ext.trans hx, hx.heap h.blk⟩
theorem Qn.rbl (h : Qn w0 rb sv s w st) : rb < w.heap.size := heap_lt h.blk
theorem Qn.bump (h : Qn w0 rb sv s w st) (n : Nat) : Qn w0 rb sv s (w.setCell ⟨rb, 1, none⟩ (.int .i64 ((st.at_ + n : Nat) : Int))) (st.bump n) := h.step ((Only.refl w rb).set _) (h.blk.set1 _)
theorem Qn.setcaps (h : Qn w0 rb sv s w st) (n : Nat) : Qn w0 rb sv s (w.setCell ⟨rb, 2, none⟩ (.int .i64 (n : Nat))) { st with caps := n } := h.step ((Only.refl w rb).set _) (h.blk.set2 _)
theorem Qn.setop (h : Qn w0 rb sv s w st) (n : Nat) : Qn w0 rb sv s (w.setCell ⟨rb, 3, none⟩ (.int .i64 (n : Nat))) { st with op := n } := h.step ((Only.refl w rb).set _) (h.blk.set3 _)
/-- Behind a call that only tells something. -/
def RetE (v : Value) (w : World) (e : Ending) (w' : World) : Prop := e = .returned v ∧ Ext w w'
/-- Behind a call that moves the reader on. -/
def QV (v : Value) (rb : Nat) (sv : Value) (w : World) (st' : RX.St) (e : Ending) (w' : World) : Prop := e = .returned v ∧ QS rb sv w' st' ∧ Only w w' rb
set_option maxHeartbeats 400000 in
theorem qnext_any (w : World) (st : RX.St) (he : Qn w0 rb sv s w st) :
    Calls Tryz.prog 63 #[.pointer (some ⟨rb, 0, none⟩)] w (RetE (.int .i32 (RX.nxt s st 0)) w) := by
  have c0 := he.blk.c0
  have c1 := he.blk.c1
  have HS := Lib.hid (he.sl.ext he.ext)
  obtain ⟨A, ca, rfl, hlx, hcx, _⟩ := he.sl
  clear he
  by_cases h : s.length ≤ st.at_
  · have HN := Lib.hid (show RX.nxt s st 0 = -1 by unfold RX.nxt; rw [List.getElem?_eq_none (by omega)]; rfl)
    have hd : decide ((s.length : Int) ≤ st.at_) = true := by simp; omega
    go_enter Tryz.func63, Tryz.ntmps63
    go_wp2_with fail
    go_quiet (fail)
    go_wp2_with fail
    go_ret
    exact ⟨ret_congr (by rw [HN.out]; rfl), (Ext.refl _).drewN _⟩
  · obtain ⟨b, o, rfl, hc⟩ := HS.out.at_ (k := st.at_) (by omega)
    have HN := Lib.hid (show RX.nxt s st 0 = s[st.at_] by unfold RX.nxt; rw [List.getElem?_eq_getElem (show st.at_ + 0 < s.length by omega)]; rfl)
    generalize s[st.at_] = x at HN hc
    have hd : decide ((s.length : Int) ≤ st.at_) = false := by simp; omega
    have h1 : st.at_ < s.length := by omega
    have h1i : (st.at_ : Int) < (s.length : Int) := by omega
    go_enter Tryz.func63, Tryz.ntmps63
    go_wp2_with fail
    go_quiet (fail)
    go_wp2_with fail
    go_quiet (fail)
    go_wp2_with fail
    go_ret
    refine ⟨ret_congr (by rw [HN.out]; rfl), ?_⟩
    first | exact (Ext.refl _).drewN _ | exact ((Ext.refl _).drewN _).drewN _
set_option maxHeartbeats 400000 in
theorem qok_any (w : World) (st : RX.St) (he : Qn w0 rb sv s w st) :
    Calls Tryz.prog 43 #[.pointer (some ⟨rb, 0, none⟩)] w (RetE (.bool st.ok) w) := by
  have c4 := he.blk.c4
  clear he
  go_enter Tryz.func43, Tryz.ntmps43
  go_wp2_with fail
  go_ret
  exact ⟨rfl, Ext.refl _⟩
set_option maxHeartbeats 400000 in
theorem qbad_any (w : World) (st : RX.St) (c b : Int) (he : Qn w0 rb sv s w st) :
    Calls Tryz.prog 44 #[.pointer (some ⟨rb, 0, none⟩), .int .i64 c, .int .i64 b] w (QV (.tuple #[]) rb sv w (st.fail c b)) := by
  have c4 := he.blk.c4
  have c5 := he.blk.c5
  have f4 := he.blk.fr 4
  have f5 := he.blk.fr 5
  have HR := Lib.hid he.blk
  clear he
  by_cases h : st.code = 0
  · have HF := Lib.hid (show st.fail c b = { st with code := c, bat := b } by simp [RX.St.fail, h])
    have hb : (st.code == 0) = true := by simp [h]
    clear h
    go_enter Tryz.func44, Tryz.ntmps44
    go_wp2_with fail
    go_end0
    refine ⟨rfl, ?_, ?_⟩
    · rw [HF.out]; exact HR.out.set45 c b
    · exact ((Only.refl w rb).set _).set _
  · have HF := Lib.hid (show st.fail c b = st by simp [RX.St.fail, h])
    have hb : (st.code == 0) = false := by simpa using h
    clear h
    go_enter Tryz.func44, Tryz.ntmps44
    go_wp2_with fail
    go_end0
    refine ⟨rfl, ?_, Only.refl w rb⟩
    rw [HF.out]; exact HR.out
end
section
variable {α : Type} {P : Program} {w : World} {ops : Array Oper} {rest : List Oper} {o : Oper} {a : Act} {Q : Exit → Act → World → Prop}
/-- As app_one: the row stays where it is, or lies in a new block. -/
theorem app_oneF {t te sz bytes : Nat} {z : Value} (ht : P.underlying t = some (.slice te)) (hinf : (P.info? te).map (fun i => (i.zero, i.size, i.bytes)) = some (some z, sz, bytes)) (hzs : z.cells.size = sz) (hsz : 0 < sz) (hby : bytes ≤ 1000)
    {T : List TypeId} {C : World → List Value → α → Prop} (hC : Keeps T C) (hT : te ∉ T)
    (hgd : o.guard = none) (s x : Operand) (ho : o.op = .call { callee := .builtin .append, args := #[s, x], argTypes := #[t, t] })
    (B : Nat) (v : Value) (xs : List α) (y : α) (cs : List Value) (tb : TypeId) (hown : OwnB te sz C B w v xs) (hne : 0 < xs.length) (hy : C w cs y) (hcs : cs.length = sz) (h1 : ∀ u ∈ cs, u.oneCell' = true)
    (hs : a.eval s = v) (nb : Nat) (hx : a.eval x = .slice (some ⟨nb, 0, none⟩) 1 1) (hnb : nb = w.heap.size) (hn : xs.length ≤ 1000000) (hB : B ≤ w.heap.size)
    (h : ∀ v' w', OwnB te sz C B w' v' (xs ++ [y]) → (w.alloc (.cells cs.toArray tb)).grownBy w' v.ownBlock → (v'.ownBlock = v.ownBlock ∨ v'.ownBlock = some (w.heap.size + 1)) → wpList P ops Q rest (a.put o.dst v') w') :
    wpList P ops Q (o :: rest) a (w.alloc (.cells cs.toArray tb)) := by
  subst hnb
  obtain ⟨i0, hi, hz0, hz1, hz2⟩ := info_parts hinf
  obtain ⟨flat, hr, h2⟩ := hown
  have hr' := World.ownsRow.alloc hr (.cells cs.toArray tb)
  have hm : xs.length + 1 ≤ maxLen := by unfold maxLen; omega
  have hbb : (xs.length + 1) * bytes ≤ 140737488355328 := Nat.le_trans (Nat.mul_le_mul (show xs.length + 1 ≤ 1000001 by omega) hby) (by omega)
  obtain ⟨v', w', hrun, h3, h4, -⟩ := run_append_own (P := P) (w.alloc (.cells cs.toArray tb)) B t o.type te i0 z sz bytes ht hi hz0 hz1 hz2 hzs hsz v xs.length flat hr' ⟨w.heap.size, 0, none⟩ 1 1 cs (by omega) (news_all _ _ _) h1 hm hbb (by simp; omega)
  have h5 : v'.ownBlock = v.ownBlock ∨ v'.ownBlock = some (w.heap.size + 1) := by
    rcases hr'.2 with ⟨-, h0⟩ | ⟨g, cap, cur, rfl, hbg, hg, hnc, hcm, hcs2, htake⟩
    · omega
    · by_cases hroom : xs.length + 1 ≤ cap
      · have hfit : xs.length * i0.size + cs.length ≤ cur.size := by rw [hz1, hcs, hcs2]; have := Nat.mul_le_mul_right sz hroom; rw [Nat.add_mul] at this; omega
        have hr2 := run_append_room (P := P) (w.alloc (.cells cs.toArray tb)) t o.type te i0 ht hi g xs.length cap cur hg ⟨w.heap.size, 0, none⟩ 1 1 cs (by rw [hz1]; omega) (news_all _ _ _) h1 hroom hfit
        rw [hrun] at hr2
        injection hr2 with e1 _
        left; rw [e1]; rfl
      · have holds : ∀ j u, flat[j]? = some u → (w.alloc (.cells cs.toArray tb)).cell? ((⟨g, 0, none⟩ : Addr).add j) = some u := hr'.cells (g := g) rfl
        have hr2 := run_append_grow (P := P) (w.alloc (.cells cs.toArray tb)) t o.type te i0 z ht hi hz0 ⟨g, 0, none⟩ xs.length cap flat (by rw [hz1]; exact hr.1) holds ⟨w.heap.size, 0, none⟩ 1 1 cs (by rw [hz1]; omega) (news_all _ _ _) (by unfold maxLen at hm; omega) (by omega) (growslice_fits (by omega) (by rw [hz2]; exact hbb))
        rw [hrun] at hr2
        injection hr2 with e1 _
        right; rw [e1]
        simp [Value.ownBlock]
  refine wpList_plain hgd fun _ hK => ?_
  unfold Oper.wp execOp
  simp only [ho, resolve, invoke, builtin, Sem.run_bind, Sem.run_pure, Result.andThen_ok, List.map_toArray, List.map_cons, List.map_nil, hs, hx, hrun]
  refine hK _ _ (h v' w' (OwnB.snoc h2 hr.1 hC ?_ hy hcs h3) h4 h5)
  refine (KeepT.of_ext ((Ext.refl w).alloc _)).trans (KeepT.of_grown h4 (fun g hg => ?_))
  obtain ⟨cur, hh⟩ := own_type hr g hg
  exact ⟨cur, te, ((Ext.refl w).alloc _).heap hh, hT⟩
end
end Go.Proofs.YtfblkahjefdmaaaGreat

/- Walks: nodes put lower; has, digit, set of the document's own reader. -/
namespace Go.Proofs.YtfblkahjefdmaaaGreat
open Go.RowKit

theorem grown_cell {w w' : World} {row : Option Nat} (h : w.grownBy w' row) {a : Addr} {v : Value} (hc : w.cell? a = some v) (hne : row ≠ some a.block) : w'.cell? a = some v := World.grownBy.cell h hc (fun e => hne e.symm)
set_option maxRecDepth 100000 in
set_option maxHeartbeats 2000000 in
theorem qlower_any (B base b2 : Nat) (l more : List RX.ReN) (vl vm : Value) (w : World) (hl : OwnRe B base w vl l) (hm : SlRe B b2 w vm more) (hne : 0 < l.length) (hdis : ∀ g o n c, vm = .slice (some ⟨g, o, none⟩) n c → vl.ownBlock ≠ some g) (hb : base ≤ w.heap.size)
    (hn : l.length + more.length ≤ 100000) (hd : ∀ x ∈ more, 0 ≤ x.deep ∧ x.deep ≤ 1000) :
    Calls Tryz.prog 64 #[vl, vm] w (fun e w' => ∃ v', e = .returned v' ∧ OwnRe B base w' v' (l ++ more.map RX.ReN.down) ∧ w.grownBy w' vl.ownBlock) := by
  have HL := Lib.hid hl
  have HM := Lib.hid hm
  have HD := Lib.hid hd
  have HDIS := Lib.hid hdis
  have HTY := Lib.hid hl.type
  have HLT := Lib.hid hl.lt
  obtain ⟨Am, cm, rfl, hlm, hcm⟩ := hm.form
  obtain ⟨Al, cl, rfl, hll, hcl⟩ := hl.form
  obtain ⟨ob, hob⟩ : ∃ ob, (Value.slice Al l.length cl).ownBlock = ob := ⟨_, rfl⟩
  have HOB := Lib.hid hob
  have HLN := Lib.hid (And.intro hne hn)
  clear hl hm hd hdis hob hne hn
  go_enter Tryz.func64, Tryz.ntmps64
  go_wp2_with fail
  go_loopw [0, 5] (fun v i wr => ∃ q : Nat, q ≤ more.length ∧ i = .int .i64 (q : Int) ∧ OwnRe B base wr v (l ++ (more.take q).map RX.ReN.down) ∧ w.grownBy wr ob ∧ (v.ownBlock = ob ∨ ∃ g, v.ownBlock = some g ∧ w.heap.size ≤ g)) (fun _ i _ => more.length - (intOf i).toNat)
  case atStart => exact ⟨0, Nat.zero_le _, rfl, by rw [List.take_zero]; simpa using HL.out, World.grownBy.refl _ _, .inl HOB.out⟩
  case round =>
    obtain ⟨q, hq, rfl, hown, hgr, hfr⟩ := hrel
    by_cases hlt : q < more.length
    rotate_left
    · have hdd : decide ((q : Int) < (more.length : Int)) = false := by simp; omega
      rw [List.take_of_length_le (by omega)] at hown
      have HO := Lib.hid hown
      have HG := Lib.hid hgr
      clear hown hgr hfr
      go_wp2_with fail
      go_ret
      exact ⟨_, rfl, HO.out, by rw [HOB.out]; exact HG.out⟩
    have hdd : decide ((q : Int) < (more.length : Int)) = true := by simp; omega
    have hqi : (q : Int) < (more.length : Int) := by omega
    obtain ⟨g, o, cs, rfl, hcr0, hcell0⟩ := HM.out.at_ hlt
    have hgne : ob ≠ some g := by rw [← HOB.out]; exact HDIS.out g o _ _ rfl
    have hkt : KeepT [21] w wr := KeepT.of_grown hgr (fun g' hg' => by
      obtain ⟨cur, hc⟩ := HTY.out g' (by rw [HOB.out]; exact hg')
      exact ⟨cur, _, hc, by decide⟩)
    have hcr := keeps_re B _ _ _ _ hkt hcr0
    have hcell := fun i u hu => grown_cell hgr (hcell0 i u hu) (by exact hgne)
    have HSn := Lib.hid (take_map_snoc l more q hlt)
    have hdp := HD.out more[q] (List.getElem_mem hlt)
    generalize more[q] = x at hcr HSn hdp
    have hln : (l ++ (more.take q).map RX.ReN.down).length ≤ 1000000 := by
      have := HLN.out.2
      rw [List.length_append, List.length_map, List.length_take]; omega
    have hlp : 0 < (l ++ (more.take q).map RX.ReN.down).length := by
      have := HLN.out.1
      rw [List.length_append]; omega
    generalize l ++ (more.take q).map RX.ReN.down = acc at HSn hown hln hlp
    obtain ⟨acc', hac⟩ : ∃ a, a = l ++ (more.take (q + 1)).map RX.ReN.down := ⟨_, rfl⟩
    rw [← hac] at HSn
    have HAC := Lib.hid hac
    obtain ⟨Ax, cx, rfl⟩ := hcr.cells
    have c0 := hcell 0 _ rfl
    have c1 := hcell 1 _ rfl
    have c2 := hcell 2 _ rfl
    have c3 := hcell 3 _ rfl
    have c4 := hcell 4 _ rfl
    have c5 := hcell 5 _ rfl
    have c6 := hcell 6 _ rfl
    rw [Nat.add_zero] at c0
    obtain ⟨hd0, hd1⟩ := hdp
    have hy := hcr.down
    have hx1 := (Ext.refl wr).alloc (.cells #[.int .i64 x.kind, .int .i64 (x.deep + 1), .int .i64 x.lo, .int .i64 x.hi, .bool x.lazy, .bool x.neg, .slice Ax x.set.length cx] 82)
    have hown2 := hown.keepT (keeps_re B) (KeepT.of_ext hx1) (KeepT.of_ext hx1)
    have hy2 := keeps_re B _ _ _ _ (KeepT.of_ext hx1) hy
    have HY := Lib.hid hy2
    have HOW := Lib.hid hown2
    have HG := Lib.hid hgr
    have HFR := Lib.hid hfr
    have HLT2 := Lib.hid hown.lt
    have hsz : w.heap.size ≤ wr.heap.size := hgr.size
    have hcl2 := World.block_lt_of_cell? _ _ c0
    clear hcr hcr0 hcell hcell0 hown hgr hy hy2 hown2 hac hx1 hfr hkt hgne
    go_wp2_with (at_builtin; go_loud (refine app_oneF Tryz.underlying51 info_re rfl (by decide) (by decide) (keeps_re B) (by decide) rfl _ _ rfl base _ acc x.down _ _ HOW.out hlp HY.out rfl HY.out.one rfl _ rfl (by simp) hln (Nat.le_trans hb (by simp; omega)) ?_))
    intro v' w' h1 h2 h3
    have hgr2 : w.grownBy w' ob := by
      have h5 := h2
      refine ⟨h5.os.trans HG.out.os, h5.tape.trans HG.out.tape, h5.output.trans HG.out.output, Nat.le_trans hsz (Nat.le_trans (by simp; omega) h5.size), fun i hi hio => ?_⟩
      have h6 := HG.out.block i hi hio
      refine (h5.block i (by simp; omega) ?_).trans ?_
      · intro e
        rcases HFR.out with h7 | ⟨g7, h7, h8⟩
        · rw [h7] at e; exact hio e
        · rw [h7] at e; injection e with e; omega
      · exact (((Ext.refl wr).alloc _).alloc _ |> fun hE => Below.block hE i (by omega)).trans h6
    have hfr2 : v'.ownBlock = ob ∨ ∃ g, v'.ownBlock = some g ∧ w.heap.size ≤ g := by
      rcases h3 with h3 | h3
      · rw [h3]; exact HFR.out
      · exact .inr ⟨_, h3, by first | omega | (simp; omega)⟩
    rw [← HSn.out] at h1
    have HX := Lib.hid (And.intro h1 (And.intro hgr2 hfr2))
    clear h1 h2 h3 hgr2 hfr2
    go_wp2_with fail
    go_roundw
    case rel => exact ⟨q + 1, by omega, by go_num, by rw [← HAC.out]; exact HX.out.1, HX.out.2.1, HX.out.2.2⟩
    case measure => simp [intOf]; omega
theorem signs_getQ {b : ByteArray} {k : Nat} (h : k < b.size) : (signs b)[k]? = some (b[k].toNat : Int) := by
  have h2 : k < (signs b).length := by rw [signs_len]; exact h
  rw [List.getElem?_eq_getElem h2]
  simp [signs]; rfl
set_option maxHeartbeats 1000000 in
theorem hasB_any (bs : ByteArray) (c : Int) (w : World) (hs : bs.size ≤ 1000) : Calls Tryz.prog 92 #[.string bs, .int .i32 c] w (fun e w' => e = .returned (.bool (decide (c ∈ signs bs))) ∧ w = w') := by
  go_enter Tryz.func92, Tryz.ntmps92
  go_wp2_with fail
  go_loop [5] (fun i => ∃ k : Nat, k ≤ bs.size ∧ i = .int .i64 k ∧ ∀ j, j < k → (signs bs)[j]? ≠ some c) (fun i => bs.size - (intOf i).toNat)
  case atStart => exact ⟨0, Nat.zero_le _, rfl, by intro j hj; omega⟩
  case round =>
    obtain ⟨k, hk, rfl, hpre⟩ := hrel
    have HP := Lib.hid hpre
    clear hpre
    by_cases hlt : k < bs.size
    · have hg := signs_getQ hlt
      have hw := wrap_byte bs[k]
      by_cases he : (bs[k].toNat : Int) = c
      · have hb : (wrap32 (bs[k].toNat : Int) == c) = true := by rw [hw, he]; simp
        have hb2 : ((bs[k].toNat : Int) == c) = true := by rw [he]; simp
        have HM := Lib.hid (show decide (c ∈ signs bs) = true from decide_eq_true (List.mem_of_getElem? (by rw [hg, he])))
        clear he hg hw
        go_wp2_with fail
        go_ret
        exact ⟨by rw [HM.out]; rfl, rfl⟩
      · have hb : (wrap32 (bs[k].toNat : Int) == c) = false := by rw [hw]; simpa using he
        have hb2 : ((bs[k].toNat : Int) == c) = false := by simpa using he
        have HE := Lib.hid (show ∀ j, j < k + 1 → (signs bs)[j]? ≠ some c by
          intro j hj
          rcases Nat.lt_succ_iff_lt_or_eq.1 hj with h | rfl
          · exact HP.out j h
          · rw [hg]; intro e; injection e with e; exact he e)
        clear he hg hw
        go_wp2_with fail
        go_round
        case rel => exact ⟨k + 1, by omega, by go_num, HE.out⟩
        case measure => simp [intOf]; omega
    · have HM := Lib.hid (show decide (c ∈ signs bs) = false from decide_eq_false (by
        intro hm
        obtain ⟨j, hj, e⟩ := List.mem_iff_getElem.1 hm
        exact HP.out j (by rw [signs_len] at hj; omega) (by rw [List.getElem?_eq_getElem hj, e])))
      go_wp2_with fail
      go_ret
      exact ⟨by rw [HM.out]; rfl, rfl⟩
theorem hasq_any (r : Int) (w : World) : Calls Tryz.prog 92 #[.string { data := #[42, 43, 63, 123] }, .int .i32 r] w (RetE (.bool (decide (r = 42 ∨ r = 43 ∨ r = 63 ∨ r = 123))) w) := by
  refine (hasB_any ⟨#[42, 43, 63, 123]⟩ r w (by decide)).mono ?_
  rintro e w' ⟨rfl, rfl⟩
  refine ⟨ret_congr ?_, Ext.refl _⟩
  have e : signs ⟨#[42, 43, 63, 123]⟩ = [42, 43, 63, 123] := by decide
  rw [e]
  simp
end Go.Proofs.YtfblkahjefdmaaaGreat

/- Walks: digit, behind of the document's own reader. -/
namespace Go.Proofs.YtfblkahjefdmaaaGreat
open Go.RowKit

theorem Qn.bump1 {w0 w : World} {rb : Nat} {sv : Value} {s : List Int} {st : RX.St} (h : Qn w0 rb sv s w st) : Qn w0 rb sv s (w.setCell ⟨rb, 1, none⟩ (.int .i64 ((st.at_ : Int) + 1))) (st.bump 1) := h.bump 1
namespace RX
/-- What stands behind a backslash: its ranges; is it all but these (none, and true: it is wrong)? -/
def behindM (c : Int) : List Int × Bool := match sortR c with
  | some l => (l, false)
  | none => match sortR (lower c) with
    | some l => (l, true)
    | none => match signR c with
      | some x => ([x, x], false)
      | none => ([], true)
theorem lower_six {c : Int} (h : c ≠ 100 ∧ c ≠ 119 ∧ c ≠ 115 ∧ c ≠ 68 ∧ c ≠ 87 ∧ c ≠ 83) : lower c ≠ 100 ∧ lower c ≠ 119 ∧ lower c ≠ 115 := by
  unfold lower
  split
  · rename_i hc
    rcases hc with hc | ⟨hc, -⟩ <;> (have := within_iff.1 hc; omega)
  · omega
theorem sort_six {c : Int} (h : c ≠ 100 ∧ c ≠ 119 ∧ c ≠ 115) : sortR c = none := by
  unfold sortR
  rw [if_neg h.1, if_neg h.2.1, if_neg h.2.2]
theorem behind_else {c : Int} (h : c ≠ 100 ∧ c ≠ 119 ∧ c ≠ 115 ∧ c ≠ 68 ∧ c ≠ 87 ∧ c ≠ 83) : behindM c = match signR c with
    | some x => ([x, x], false)
    | none => ([], true) := by
  unfold behindM
  rw [sort_six ⟨h.1, h.2.1, h.2.2.1⟩]
  simp only
  rw [sort_six (lower_six h)]
end RX
section
variable {w0 : World} {rb : Nat} {sv : Value} {s : List Int}
set_option maxHeartbeats 1000000 in
theorem qdigit_any (w1 : World) (st : RX.St) (he : Qn w0 rb sv s w1 st) (ha1 : st.at_ ≤ 1000) :
    Calls Tryz.prog 93 #[.pointer (some ⟨rb, 0, none⟩)] w1 (QV (.int .i64 (RX.must s st).1) rb sv w1 (RX.must s st).2) := by
  have HQ1 := Lib.hid he
  have HO1 := Lib.hid (Only.refl w1 rb)
  obtain ⟨c, hc⟩ : ∃ c, RX.nxt s st 0 = c := ⟨_, rfl⟩
  have HN := Lib.hid hc
  clear he
  by_cases hd : 48 ≤ c ∧ c ≤ 57
  · have HW := Lib.hid (show RX.within c 48 57 = true from within_iff.2 hd)
    have hm : RX.must s st = (c - 48, st.bump 1) := by
      unfold RX.must RX.digit
      rw [hc, if_neg (by rw [if_neg (by omega)]; omega), if_neg (by omega)]
    rw [hm]
    obtain ⟨h48, h57⟩ := hd
    clear hm hc
    go_enter Tryz.func93, Tryz.ntmps93
    go_upto_region 5 with (first
      | (go_at_call 63; go_loud (refine (qnext_any _ _ HQ1.out).mono ?_; rw [show RX.nxt s st 0 = c from HN.out]; rintro e w2 ⟨rfl, hx⟩; have HQ2 := Lib.hid (Qn.ex HQ1.out hx); have HO2 := Lib.hid (Only.trans HO1.out (Only.of_ext hx rb)); have HE2 := Lib.hid hx; clear hx))
      | (go_at_call 102; go_loud (refine (rdigQ_any c _).mono ?_; rw [HW.out]; rintro e w3 ⟨rfl, rfl⟩)))
    have c1 := HQ2.out.blk.c1
    have f1 := HQ2.out.blk.fr 1
    go_wp2_with fail
    go_ret
    exact ⟨rfl, (Qn.bump1 HQ2.out).blk, HO2.out.trans ((Only.refl _ _).set _)⟩
  · have HW := Lib.hid (show RX.within c 48 57 = false from Bool.eq_false_iff.2 (fun h => hd (within_iff.1 h)))
    have hm : RX.must s st = (0, st.fail 5 st.at_) := by
      unfold RX.must RX.digit
      rw [hc, if_pos (by split <;> omega)]
    rw [hm]
    clear hm hc hd
    go_enter Tryz.func93, Tryz.ntmps93
    go_upto_region 3 with (first
      | (go_at_call 63; go_loud (refine (qnext_any _ _ HQ1.out).mono ?_; rw [show RX.nxt s st 0 = c from HN.out]; rintro e w2 ⟨rfl, hx⟩; have HQ2 := Lib.hid (Qn.ex HQ1.out hx); have HO2 := Lib.hid (Only.trans HO1.out (Only.of_ext hx rb)); have HE2 := Lib.hid hx; clear hx))
      | (go_at_call 102; go_loud (refine (rdigQ_any c _).mono ?_; rw [HW.out]; rintro e w3 ⟨rfl, rfl⟩)))
    have c1 := HQ2.out.blk.c1
    go_wp2_with (go_at_call 44; go_loud (refine (qbad_any _ _ 5 (st.at_ : Int) HQ2.out).mono ?_; rintro e w4 ⟨rfl, hq, ho⟩; have HQ4 := Lib.hid (Qn.step HQ2.out ho hq); have HO4 := Lib.hid (Only.trans HO2.out ho); have HP4 := Lib.hid ho; clear hq ho))
    go_ret
    exact ⟨rfl, HQ4.out.blk, HO4.out⟩
/-- What behind returns. -/
def BeP (c : Int) (rb : Nat) (sv : Value) (w : World) (st' : RX.St) (e : Ending) (w' : World) : Prop :=
  ∃ v, e = .returned (.tuple #[v, .bool (RX.behindM c).2]) ∧ SlB 21 1 Cc w.heap.size w' v (RX.behindM c).1 ∧ QS rb sv w' st' ∧ Only w w' rb
theorem BeP.lit {c : Int} {w w' : World} {st' : RX.St} (l : List Int) (b : Bool) (h : RX.behindM c = (l, b)) (hl : l.length ≤ 1000) (hq : QS rb sv w' st') (ho : Only w w' rb) (n : Nat) (hn : n = l.length) :
    BeP c rb sv w st' (.returned (.tuple #[.slice (some ⟨w'.heap.size, 0, none⟩) n n, .bool b])) (w'.alloc (.cells (l.map (Value.int .i32)).toArray 21)) := by
  refine ⟨_, by rw [h], ?_, ((Ext.refl w').alloc _).heap hq, ho.alloc _⟩
  rw [h]
  exact c_lit w' l _ _ rfl hn ho.size hl
theorem BeP.none_ {c : Int} {w w' : World} {st' : RX.St} (h : RX.behindM c = ([], true)) (hq : QS rb sv w' st') (ho : Only w w' rb) : BeP c rb sv w st' (.returned (.tuple #[.slice none 0 0, .bool true])) w' := by
  refine ⟨_, by rw [h], ?_, hq, ho⟩
  rw [h]
  exact SlB.nil_
set_option maxRecDepth 100000 in
set_option maxHeartbeats 2000000 in
theorem qbehind_any (w1 : World) (st : RX.St) (he : Qn w0 rb sv s w1 st) (ha1 : st.at_ ≤ 1000) :
    Calls Tryz.prog 91 #[.pointer (some ⟨rb, 0, none⟩)] w1 (BeP (RX.nxt s (st.bump 1) 0) rb sv w1 (st.bump 2)) := by
  have HQ1 := Lib.hid he
  have HO1 := Lib.hid (Only.refl w1 rb)
  obtain ⟨c, hc⟩ : ∃ c, RX.nxt s (st.bump 1) 0 = c := ⟨_, rfl⟩
  obtain ⟨low, hlow⟩ : ∃ x, RX.lower c = x := ⟨_, rfl⟩
  have hcn : c = -1 ∨ 0 ≤ c := by
    rw [← hc]
    unfold RX.nxt
    rcases hx : s[(st.bump 1).at_ + 0]? with _ | x
    · exact .inl rfl
    · exact .inr (he.pos x (List.mem_of_getElem? hx))
  have HLOW := Lib.hid hlow
  rw [hc]
  have HC := Lib.hid hc
  clear he hc hlow
  go_enter Tryz.func91, Tryz.ntmps91
  have c1 := HQ1.out.blk.c1
  have f1 := HQ1.out.blk.fr 1
  go_upto_region 2 with fail
  have HQ2 := Lib.hid (Qn.bump1 HQ1.out)
  have HO2 := Lib.hid (Only.trans HO1.out ((Only.refl w1 rb).set (o := 1) (.int .i64 ((st.at_ : Int) + 1))))
  generalize w1.setCell _ _ = w2 at HQ2 HO2 ⊢
  obtain ⟨st2, hst⟩ : ∃ x, RX.St.bump st 1 = x := ⟨_, rfl⟩
  have ha2 : st2.at_ ≤ 1001 := by rw [← hst]; show st.at_ + 1 ≤ _; omega
  rw [hst] at HQ2
  have HST2 := Lib.hid hst
  clear c1 f1 hst HQ1 HO1
  have HN := Lib.hid (show RX.nxt s st2 0 = c by rw [← HST2.out]; exact HC.out)
  go_upto_region 4 with (first
    | (go_at_call 63; go_loud (refine (qnext_any _ _ HQ2.out).mono ?_; rw [show RX.nxt s st2 0 = c from HN.out]; rintro e w3 ⟨rfl, hx⟩; have HQ3 := Lib.hid (Qn.ex HQ2.out hx); have HO3 := Lib.hid (Only.trans HO2.out (Only.of_ext hx rb)); have HE3 := Lib.hid hx; clear hx))
    | (go_at_call 70; go_loud (refine (rlower_any c _).mono ?_; rw [HLOW.out]; rintro e wz ⟨rfl, n, rfl⟩; have HQ4 := Lib.hid (Qn.ex HQ3.out ((Ext.refl _).drewN n)); have HO4 := Lib.hid (Only.trans HO3.out ((Only.refl _ _).drewN n)))))
  generalize w3.drewN _ = w4 at HQ4 HO4 ⊢
  have c1 := HQ4.out.blk.c1
  have f1 := HQ4.out.blk.fr 1
  go_upto_region 6 with fail
  have HQ5 := Lib.hid (Qn.bump1 HQ4.out)
  have HO5 := Lib.hid (Only.trans HO4.out ((Only.refl w4 rb).set (o := 1) (.int .i64 ((st2.at_ : Int) + 1))))
  generalize w4.setCell _ _ = w5 at HQ5 HO5 ⊢
  obtain ⟨st5, hst⟩ : ∃ x, RX.St.bump st2 1 = x := ⟨_, rfl⟩
  have ha5 : st5.at_ ≤ 1002 := by rw [← hst]; show st2.at_ + 1 ≤ _; omega
  rw [hst] at HQ5
  have HST5 := Lib.hid hst
  clear c1 f1 hst HQ4 HO4
  have HS := Lib.hid (show st5 = st.bump 2 by rw [← HST5.out, ← HST2.out]; rfl)
  rw [HS.out] at HQ5
  have HCL := Lib.hid (fun w => rclassQ_any c w)
  by_cases h100 : c = 100
  · subst h100
    obtain rfl : low = RX.lower 100 := HLOW.out.symm
    have hl : RX.lower 100 = 100 := by decide
    rw [hl]
    clear hl HLOW
    go_wp2_with fail
    go_ret2
    exact BeP.lit (c := 100) [48, 57] false (by decide) (by decide) HQ5.out.blk HO5.out _ rfl
  by_cases h68 : c = 68
  · subst h68
    obtain rfl : low = RX.lower 68 := HLOW.out.symm
    have hl : RX.lower 68 = 100 := by decide
    rw [hl]
    clear hl HLOW
    go_wp2_with fail
    go_ret2
    exact BeP.lit (c := 68) [48, 57] true (by decide) (by decide) HQ5.out.blk HO5.out _ rfl
  by_cases h119 : c = 119
  · subst h119
    obtain rfl : low = RX.lower 119 := HLOW.out.symm
    have hl : RX.lower 119 = 119 := by decide
    rw [hl]
    clear hl HLOW
    go_wp2_with fail
    go_ret2
    exact BeP.lit (c := 119) [97, 122, 65, 90, 48, 57, 95, 95] false (by decide) (by decide) HQ5.out.blk HO5.out _ rfl
  by_cases h87 : c = 87
  · subst h87
    obtain rfl : low = RX.lower 87 := HLOW.out.symm
    have hl : RX.lower 87 = 119 := by decide
    rw [hl]
    clear hl HLOW
    go_wp2_with fail
    go_ret2
    exact BeP.lit (c := 87) [97, 122, 65, 90, 48, 57, 95, 95] true (by decide) (by decide) HQ5.out.blk HO5.out _ rfl
  by_cases h115 : c = 115
  · subst h115
    obtain rfl : low = RX.lower 115 := HLOW.out.symm
    have hl : RX.lower 115 = 115 := by decide
    rw [hl]
    clear hl HLOW
    go_wp2_with fail
    go_ret2
    exact BeP.lit (c := 115) [32, 32, 9, 9, 10, 10] false (by decide) (by decide) HQ5.out.blk HO5.out _ rfl
  by_cases h83 : c = 83
  · subst h83
    obtain rfl : low = RX.lower 83 := HLOW.out.symm
    have hl : RX.lower 83 = 115 := by decide
    rw [hl]
    clear hl HLOW
    go_wp2_with fail
    go_ret2
    exact BeP.lit (c := 83) [32, 32, 9, 9, 10, 10] true (by decide) (by decide) HQ5.out.blk HO5.out _ rfl
  by_cases h110 : c = 110
  · subst h110
    obtain rfl : low = RX.lower 110 := HLOW.out.symm
    have hl : RX.lower 110 = 110 := by decide
    rw [hl]
    clear hl HLOW
    go_wp2_with fail
    go_ret2
    exact BeP.lit (c := 110) [10, 10] false (by decide) (by decide) HQ5.out.blk HO5.out _ rfl
  by_cases h116 : c = 116
  · subst h116
    obtain rfl : low = RX.lower 116 := HLOW.out.symm
    have hl : RX.lower 116 = 116 := by decide
    rw [hl]
    clear hl HLOW
    go_wp2_with fail
    go_ret2
    exact BeP.lit (c := 116) [9, 9] false (by decide) (by decide) HQ5.out.blk HO5.out _ rfl
  have hlw := RX.lower_six (c := c) ⟨h100, h119, h115, h68, h87, h83⟩
  rw [HLOW.out] at hlw
  have hel := RX.behind_else (c := c) ⟨h100, h119, h115, h68, h87, h83⟩
  have b100 : (low == 100) = false := by simpa using hlw.1
  have b119 : (low == 119) = false := by simpa using hlw.2.1
  have b115 : (low == 115) = false := by simpa using hlw.2.2
  have b110 : (c == 110) = false := by simpa using h110
  have b116 : (c == 116) = false := by simpa using h116
  rcases hcn with rfl | hcn
  · have HB := Lib.hid (show RX.behindM (-1) = ([], true) by decide)
    clear hel hlw
    go_wp2_with fail
    go_ret2
    exact BeP.none_ HB.out HQ5.out.blk HO5.out
  have hneg : decide (c < 0) = false := decide_eq_false (by omega)
  have hc1 : c ≠ -1 := by omega
  by_cases h4 : RX.classOf c = 4
  · have HB := Lib.hid (show RX.behindM c = ([c, c], false) by rw [hel]; unfold RX.signR; rw [if_neg h110, if_neg h116, if_neg hc1, if_pos (.inl h4)])
    have H4 := Lib.hid h4
    clear hel hlw h4
    go_wp2_with (go_at_call 101; go_loud (refine (HCL.out _).mono ?_; rw [H4.out]; rintro e w6 ⟨rfl, rfl⟩))
    go_ret2
    exact BeP.lit [c, c] false HB.out (by simp) HQ5.out.blk HO5.out _ rfl
  obtain ⟨z, hz⟩ : ∃ z, RX.classOf c = z := ⟨_, rfl⟩
  have HZ := Lib.hid hz
  rw [hz] at h4
  have bz4 : (z == 4) = false := by simpa using h4
  by_cases h1 : z = 1
  · have HB := Lib.hid (show RX.behindM c = ([c, c], false) by rw [hel]; unfold RX.signR; rw [if_neg h110, if_neg h116, if_neg hc1, if_pos (.inr (hz.trans h1))])
    have bz1 : (z == 1) = true := by simpa using h1
    clear hel hlw h4 hz h1
    go_wp2_with (go_at_call 101; go_loud (refine (HCL.out _).mono ?_; rw [HZ.out]; rintro e w6 ⟨rfl, rfl⟩))
    go_ret2
    exact BeP.lit [c, c] false HB.out (by simp) HQ5.out.blk HO5.out _ rfl
  · have HB := Lib.hid (show RX.behindM c = ([], true) by rw [hel]; unfold RX.signR; rw [if_neg h110, if_neg h116, if_neg hc1, if_neg (by rw [hz]; omega)])
    have bz1 : (z == 1) = false := by simpa using h1
    clear hel hlw h4 hz h1
    go_wp2_with (go_at_call 101; go_loud (refine (HCL.out _).mono ?_; rw [HZ.out]; rintro e w6 ⟨rfl, rfl⟩))
    go_ret2
    exact BeP.none_ HB.out HQ5.out.blk HO5.out
end
end Go.Proofs.YtfblkahjefdmaaaGreat
