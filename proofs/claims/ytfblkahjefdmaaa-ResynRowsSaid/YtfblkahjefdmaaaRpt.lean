/- Walks: repeat of package resyn. -/
import Derived.Test.YtfblkahjefdmaaaRng
namespace Go.Proofs.Ytfblkahjefdmaaa
open Go.RowKit

/-- A node that lies in a block of its own. -/
def BX (nb : Nat) (w : World) (cs : List Value) : Prop := w.heap[nb]? = some (.cells cs.toArray 40 (0, 0))
theorem BX.c {nb : Nat} {w : World} {cs : List Value} (h : BX nb w cs) (i : Nat) (u : Value) (hu : cs[i]? = some u) : w.cell? ⟨nb, i, none⟩ = some u :=
  (cell_of_row w nb i _ _ _ h).trans (by simpa using hu)
theorem BX.fr {nb : Nat} {w : World} {cs : List Value} (h : BX nb w cs) (o : Nat) : w.frozen? ⟨nb, o, none⟩ = false := frozen_of_row w nb o _ _ h
theorem BX.only {nb rb : Nat} {w w' : World} {cs : List Value} (h : BX nb w cs) (ho : Only w w' rb) (hne : rb < nb) : BX nb w' cs := (ho.block nb (heap_lt h) (by intro e; injection e with e; omega)).trans h
theorem BX.setrb {nb rb o : Nat} {w : World} {u : Value} {cs : List Value} (hne : rb < nb) (h : BX nb w cs) : BX nb (w.setCell ⟨rb, o, none⟩ u) cs := h.only ((Only.refl w rb).set u) hne
theorem BX.drewN {nb n : Nat} {w : World} {cs : List Value} (h : BX nb w cs) : BX nb (w.drewN n) cs := h
theorem BX.alloc {nb : Nat} {w : World} {o : Obj} {cs : List Value} (h : BX nb w cs) : BX nb (w.alloc o) cs := ((Ext.refl w).alloc o).heap h
theorem BX.new {nb : Nat} {w : World} {cs : List Value} (hnb : nb = w.heap.size) : BX nb (w.alloc (.cells cs.toArray 40)) cs := hnb ▸ heap_alloc_new w _
theorem Only.setNew {a w : World} {p nb o : Nat} {u : Value} (hn : a.heap.size ≤ nb) (h : Only a w p) : Only a (w.setCell ⟨nb, o, none⟩ u) p :=
  ⟨h.os, h.tape, h.output, by simpa using h.size, fun i hi hne => (Below.heap_setCell w ⟨nb, o, none⟩ u i (by rintro rfl; exact Nat.lt_irrefl _ (Nat.lt_of_lt_of_le hi hn))).trans (h.block i hi hne)⟩
theorem RS.setbox {rb nb o : Nat} {u : Value} {sv : Value} {w : World} {st : RX.St} (h : RS rb sv w st) (hn : rb < nb) : RS rb sv (w.setCell ⟨nb, o, none⟩ u) st :=
  (Below.heap_setCell w ⟨nb, o, none⟩ u rb (by rintro rfl; exact Nat.lt_irrefl _ hn)).trans h
theorem Env.setbox {w0 : World} {rb nb o : Nat} {u : Value} {sv : Value} {s : List Int} {w : World} {st : RX.St} (hn : rb < nb) (h : Env w0 rb sv s w st) : Env w0 rb sv s (w.setCell ⟨nb, o, none⟩ u) st :=
  ⟨h.1, h.2.1, h.2.2.1, h.2.2.2.1.only ((Only.refl w nb).set u) (Nat.le_trans h.2.1 (Nat.le_of_lt hn)), h.rs.setbox hn⟩
theorem l_lit {B nb : Nat} {w : World} {va : Value} {l : List RX.ReN} (hnb : nb = w.heap.size) (hb : B ≤ w.heap.size) (h : SlRe B B w va l) :
    SlB 33 1 (CL B) B (w.alloc (.cells #[va] 33)) (.slice (some ⟨nb, 0, none⟩) 1 1) [l] := by
  refine OwnB.sl (OwnB.lit _ [l] _ _ hnb rfl hb (by simp) (by simp) ?_)
  intro k y hy
  match k, hy with
  | 0, hy =>
    simp at hy; subst hy
    exact ⟨[va], ⟨va, rfl, h.keep (keeps_re B) (KeepT.of_ext ((Ext.refl w).alloc _)) (KeepT.of_ext ((Ext.refl w).alloc _))⟩, rfl, fun i u hu => by simpa using hu⟩

section
variable {w0 : World} {rb : Nat} {sv : Value} {s : List Int}
set_option maxRecDepth 100000 in
set_option maxHeartbeats 4000000 in
theorem repeat_any (w : World) (st : RX.St) (atom : List RX.ReN) (va : Value) (he : Env w0 rb sv s w st) (ha : st.at_ ≤ 800) (hv : SlRe (rb + 1) (rb + 1) w va atom) (hsm : ∀ t : RX.ReN, Small t [atom]) :
    Calls Try.prog 137 #[.pointer (some ⟨rb, 0, none⟩), va] w (PostR (fun w' v => SlRe (rb + 1) (rb + 1) w' v (RX.repeatP s atom st).1) rb sv w (RX.repeatP s atom st).2 (st.at_ + 6)) := by
  have HE := Lib.hid he
  have HO := Lib.hid (Only.refl w rb)
  have hrb : rb + 1 ≤ w.heap.size := he.rbl
  have HV := Lib.hid hv
  obtain ⟨Aa, ca, rfl, _⟩ := hv.form
  obtain ⟨nb, hnb⟩ : ∃ nb, nb = w.heap.size := ⟨_, rfl⟩
  have hrn : rb < nb := by omega
  have hnw : w.heap.size ≤ nb := by omega
  clear he hv
  go_enter Try.func137, Try.ntmps137
  go_wp2_with fail
  rw [← hnb]
  have HB := Lib.hid (BX.new (cs := [.int .i64 6, .int .i64 0, .int .i64 0, .int .i64 (-1), .bool false, .bool false, .slice none 0 0]) hnb)
  have HE := Lib.hid (Env.alloc HE.out (.cells [Value.int .i64 6, .int .i64 0, .int .i64 0, .int .i64 (-1), .bool false, .bool false, .slice none 0 0].toArray 40))
  have HO := Lib.hid (Only.alloc (o := .cells [Value.int .i64 6, .int .i64 0, .int .i64 0, .int .i64 (-1), .bool false, .bool false, .slice none 0 0].toArray 40) HO.out)
  generalize hwb : w.alloc _ = wb at HB HE HO ⊢
  have hr := HE.out.rs
  have c1 := hr.c1
  have f1 := hr.fr 1
  have hrl := heap_lt hr
  have hnl : nb < wb.heap.size := heap_lt HB.out
  have d0 := HB.out.c 0 _ rfl; have d1 := HB.out.c 1 _ rfl; have d2 := HB.out.c 2 _ rfl; have d3 := HB.out.c 3 _ rfl; have d4 := HB.out.c 4 _ rfl; have d5 := HB.out.c 5 _ rfl; have d6 := HB.out.c 6 _ rfl; have e2 := HB.out.fr 2; have e3 := HB.out.fr 3; have e4 := HB.out.fr 4; have e5 := HB.out.fr 5; have e6 := HB.out.fr 6
  clear hr hnb
  go_wp2_with (first | (go_at_call 93; apply Calls.mono; apply peek_any (w0 := w0) (rb := rb) (sv := sv) (s := s); (focus (repeat (first | exact HE.out | apply Env.bump1 | apply Env.drewN | apply Env.alloc | apply Env.setop | apply Env.setcaps | apply Env.bumpE | apply Env.setbox hrn | (simp only [RX.St.bump]; omega) | omega))); (first | omega | (simp only [RX.St.bump] at *; omega)); rintro e w' ⟨rfl, n, rfl⟩) | (go_at_call 63; apply Calls.mono; apply ok_any (w0 := w0) (rb := rb) (sv := sv) (s := s); (focus (repeat (first | exact HE.out | apply Env.bump1 | apply Env.drewN | apply Env.alloc | apply Env.setop | apply Env.setcaps | apply Env.bumpE | apply Env.setbox hrn | (simp only [RX.St.bump]; omega) | omega))); rintro e w' ⟨rfl, n, rfl⟩) | (go_at_call 145; apply Calls.mono; apply bounds_any (w0 := w0) (rb := rb) (sv := sv) (s := s); (focus (repeat (first | exact HE.out | apply Env.bump1 | apply Env.drewN | apply Env.alloc | apply Env.setop | apply Env.setcaps | apply Env.bumpE | apply Env.setbox hrn | (simp only [RX.St.bump]; omega) | omega))); (first | omega | (simp only [RX.St.bump] at *; omega)); rintro e w' ⟨rfl, hr, ho, hb⟩; generalize hq : RX.bounds s _ = mq at hr hb ⊢; obtain ⟨mv, mh, sq⟩ := mq; simp only at hr hb ⊢; (try simp only [RX.St.bump] at hb); have HE := Lib.hid (Env.step (by (focus (repeat (first | exact HE.out | apply Env.bump1 | apply Env.drewN | apply Env.alloc | apply Env.setop | apply Env.setcaps | apply Env.bumpE | apply Env.setbox hrn | (simp only [RX.St.bump]; omega) | omega)))) ho hr); have HO := Lib.hid (Only.trans (by (focus (repeat (first | exact HO.out | apply Only.set | apply Only.drewN | apply Only.alloc | apply Only.setNew hnw)))) ho); have c1 := hr.c1; have f1 := hr.fr 1; have c2 := hr.c2; have f2 := hr.fr 2; have c3 := hr.c3; have f3 := hr.fr 3; have hrl := heap_lt hr; have HB := Lib.hid (BX.only (by (focus (repeat (first | exact HB.out | apply BX.setrb hrn | apply BX.drewN | apply BX.alloc)))) ho (by omega)); have d0 := HB.out.c 0 _ rfl; have d1 := HB.out.c 1 _ rfl; have d2 := HB.out.c 2 _ rfl; have d3 := HB.out.c 3 _ rfl; have d4 := HB.out.c 4 _ rfl; have d5 := HB.out.c 5 _ rfl; have d6 := HB.out.c 6 _ rfl; have e2 := HB.out.fr 2; have e3 := HB.out.fr 3; have e4 := HB.out.fr 4; have e5 := HB.out.fr 5; have e6 := HB.out.fr 6; clear hr ho) | (go_at_call 94; apply Calls.mono; apply under_any (B := rb + 1) (parts := [atom]); (first | apply CR.mk0 | (apply CR.mk; (focus (repeat (first | exact HV.out | (apply c_lit2; (focus (first | rfl | (simp; done) | (simp; omega))); (focus (first | omega | (simp; omega) | (apply Env.rbl (w0 := w0) (s := s); (focus (repeat (first | exact HE.out | apply Env.bump1 | apply Env.drewN | apply Env.alloc | apply Env.setop | apply Env.setcaps | apply Env.bumpE | apply Env.setbox hrn | (simp only [RX.St.bump]; omega) | omega))))))) | apply SlB.setrb | apply SlB.drewN | apply SlB.alloc))))); (apply l_lit; (focus (first | rfl | (simp; done) | (simp; omega))); (focus (first | omega | (simp; omega) | (apply Env.rbl (w0 := w0) (s := s); (focus (repeat (first | exact HE.out | apply Env.bump1 | apply Env.drewN | apply Env.alloc | apply Env.setop | apply Env.setcaps | apply Env.bumpE | apply Env.setbox hrn | (simp only [RX.St.bump]; omega) | omega)))))); (apply SlB.only (w := w) HV.out (keepsB_re _); (focus (repeat (first | exact HO.out | apply Only.set | apply Only.drewN | apply Only.alloc | apply Only.setNew hnw))))); exact hsm _; rintro e w' ⟨vr, rfl, hown, hx⟩; have HR := Lib.hid (SlB.weaken (base' := rb + 1) hown.sl (by (focus (first | omega | (simp; omega) | (apply Env.rbl (w0 := w0) (s := s); (focus (repeat (first | exact HE.out | apply Env.bump1 | apply Env.drewN | apply Env.alloc | apply Env.setop | apply Env.setcaps | apply Env.bumpE | apply Env.setbox hrn | (simp only [RX.St.bump]; omega) | omega)))))))); have HE := Lib.hid (Env.ext (by (focus (repeat (first | exact HE.out | apply Env.bump1 | apply Env.drewN | apply Env.alloc | apply Env.setop | apply Env.setcaps | apply Env.bumpE | apply Env.setbox hrn | (simp only [RX.St.bump]; omega) | omega)))) hx); have HO := Lib.hid (Only.trans (by (focus (repeat (first | exact HO.out | apply Only.set | apply Only.drewN | apply Only.alloc | apply Only.setNew hnw)))) (Only.of_ext hx rb)); have hr := HE.out.rs; have c1 := hr.c1; (try simp only [RX.St.bump] at c1); have f1 := hr.fr 1; have c2 := hr.c2; have f2 := hr.fr 2; have hrl := heap_lt hr; clear hx hr hown))
  all_goals (try go_ret)
  all_goals (apply PostR.of; ((apply Env.rs (w0 := w0) (s := s)); (focus (repeat (first | exact HE.out | apply Env.bump1 | apply Env.drewN | apply Env.alloc | apply Env.setop | apply Env.setcaps | apply Env.bumpE | apply Env.setbox hrn | (simp only [RX.St.bump]; omega) | omega)))); (focus (repeat (first | exact HO.out | apply Only.set | apply Only.drewN | apply Only.alloc | apply Only.setNew hnw))); (first | omega | (simp only [RX.St.bump] at *; omega)); (first | (apply SlRe.cast; exact HR.out) | (apply SlRe.cast; (apply SlB.only (w := w) HV.out (keepsB_re _); (focus (repeat (first | exact HO.out | apply Only.set | apply Only.drewN | apply Only.alloc | apply Only.setNew hnw)))))))
  all_goals (clear HE HO; (first | (simp_all [RX.repeatP, RX.repTop]; done) | (simp_all [RX.repeatP, RX.repTop, RX.St.bump]; done) | (simp_all [RX.repeatP, RX.repTop, RX.St.bump]; omega) | (simp only [RX.repeatP, RX.repTop, RX.St.bump] at *; omega) | skip))
end
end Go.Proofs.Ytfblkahjefdmaaa
