/- Walks: the reader of package resyn: next, peek, ok, fail, must. -/
import Derived.Test.YtfblkahjefdmaaaSort
namespace Go.Proofs.Ytfblkahjefdmaaa
open Go.RowKit

abbrev Only (w w' : World) (p : Nat) : Prop := w.grownBy w' (some p)
theorem Only.refl (w : World) (p : Nat) : Only w w p := World.grownBy.refl _ _
theorem Only.of_ext {w w' : World} (h : Ext w w') (p : Nat) : Only w w' p := ⟨Below.os h, Below.tape h, Below.output h, Below.size h, fun i hi _ => Below.block h i hi⟩
theorem Only.trans {a b c : World} {p : Nat} (h : Only a b p) (k : Only b c p) : Only a c p :=
  ⟨k.os.trans h.os, k.tape.trans h.tape, k.output.trans h.output, Nat.le_trans h.size k.size, fun i hi hne => (k.block i (Nat.lt_of_lt_of_le hi h.size) hne).trans (h.block i hi hne)⟩
theorem Only.set {a w : World} {p o : Nat} (h : Only a w p) (u : Value) : Only a (w.setCell ⟨p, o, none⟩ u) p :=
  ⟨h.os, h.tape, h.output, by simpa using h.size, fun i hi hne => (Below.heap_setCell w ⟨p, o, none⟩ u i (by rintro rfl; exact hne rfl)).trans (h.block i hi hne)⟩
theorem Only.drewN {a w : World} {p : Nat} (h : Only a w p) (n : Nat) : Only a (w.drewN n) p := ⟨h.os, h.tape, h.output, h.size, h.block⟩
theorem Only.alloc {a w : World} {p : Nat} (h : Only a w p) (o : Obj) : Only a (w.alloc o) p :=
  ⟨h.os, h.tape, h.output, Nat.le_trans h.size (by simp), fun i hi hne => (Below.heap_alloc w o i (Nat.lt_of_lt_of_le hi h.size)).trans (h.block i hi hne)⟩
theorem Ext.only {a w w' : World} {p : Nat} (h : Ext a w) (k : Only w w' p) (hp : a.heap.size ≤ p) : Ext a w' := h.grown k (by intro q hq; injection hq with hq; omega)
theorem Only.keepT {w w' : World} {p : Nat} (h : Only w w' p) {cur : Array Value} {t : TypeId} (hp : w.heap[p]? = some (.cells cur t (0, 0))) {T : List TypeId} (hT : t ∉ T) : KeepT T w w' :=
  KeepT.of_grown h (by intro g hg; injection hg with hg; subst hg; exact ⟨cur, t, hp, hT⟩)

/-- The reader's block. -/
def RS (rb : Nat) (sv : Value) (w : World) (st : RX.St) : Prop :=
  w.heap[rb]? = some (.cells #[sv, .int .i64 st.at_, .int .i64 st.op, .int .i64 st.caps, .int .i64 st.code, .int .i64 st.bat] 99 (0, 0))
/-- The reader's text, known at an elder world; the reader's block, now. -/
def Env (w0 : World) (rb : Nat) (sv : Value) (s : List Int) (w : World) (st : RX.St) : Prop :=
  SlC w0 sv s ∧ w0.heap.size ≤ rb ∧ s.length ≤ 60 ∧ Ext w0 w ∧ RS rb sv w st
theorem Env.rs {w0 : World} {rb : Nat} {sv : Value} {s : List Int} {w : World} {st : RX.St} (h : Env w0 rb sv s w st) : RS rb sv w st := h.2.2.2.2
theorem Env.len {w0 : World} {rb : Nat} {sv : Value} {s : List Int} {w : World} {st : RX.St} (h : Env w0 rb sv s w st) : s.length ≤ 60 := h.2.2.1
theorem Env.step {w0 : World} {rb : Nat} {sv : Value} {s : List Int} {w w' : World} {st st' : RX.St} (h : Env w0 rb sv s w st) (ho : Only w w' rb) (hr : RS rb sv w' st') : Env w0 rb sv s w' st' :=
  ⟨h.1, h.2.1, h.2.2.1, h.2.2.2.1.only ho h.2.1, hr⟩
theorem Env.drewN {w0 : World} {rb : Nat} {sv : Value} {s : List Int} {w : World} {st : RX.St} (h : Env w0 rb sv s w st) (n : Nat) : Env w0 rb sv s (w.drewN n) st := ⟨h.1, h.2.1, h.2.2.1, h.2.2.2.1.drewN n, h.2.2.2.2⟩
theorem RS.c0 {rb : Nat} {sv : Value} {w : World} {st : RX.St} (h : RS rb sv w st) : w.cell? ⟨rb, 0, none⟩ = some sv := cell_of_row w rb 0 _ _ _ h
theorem RS.c1 {rb : Nat} {sv : Value} {w : World} {st : RX.St} (h : RS rb sv w st) : w.cell? ⟨rb, 1, none⟩ = some (.int .i64 st.at_) := cell_of_row w rb 1 _ _ _ h
theorem RS.c2 {rb : Nat} {sv : Value} {w : World} {st : RX.St} (h : RS rb sv w st) : w.cell? ⟨rb, 2, none⟩ = some (.int .i64 st.op) := cell_of_row w rb 2 _ _ _ h
theorem RS.c3 {rb : Nat} {sv : Value} {w : World} {st : RX.St} (h : RS rb sv w st) : w.cell? ⟨rb, 3, none⟩ = some (.int .i64 st.caps) := cell_of_row w rb 3 _ _ _ h
theorem RS.c4 {rb : Nat} {sv : Value} {w : World} {st : RX.St} (h : RS rb sv w st) : w.cell? ⟨rb, 4, none⟩ = some (.int .i64 st.code) := cell_of_row w rb 4 _ _ _ h
theorem RS.c5 {rb : Nat} {sv : Value} {w : World} {st : RX.St} (h : RS rb sv w st) : w.cell? ⟨rb, 5, none⟩ = some (.int .i64 st.bat) := cell_of_row w rb 5 _ _ _ h
theorem RS.fr {rb : Nat} {sv : Value} {w : World} {st : RX.St} (h : RS rb sv w st) (o : Nat) : w.frozen? ⟨rb, o, none⟩ = false := frozen_of_row w rb o _ _ h
theorem heap_set {w : World} {p o : Nat} {cs : Array Value} {u : Value} {t : TypeId} (h : w.heap[p]? = some (.cells cs t (0, 0))) : (w.setCell ⟨p, o, none⟩ u).heap[p]? = some (.cells (cs.setIfInBounds o u) t (0, 0)) := by
  simp [World.setCell, Array.getElem?_modify, h]
theorem RS.set1 {rb : Nat} {sv : Value} {w : World} {st : RX.St} (h : RS rb sv w st) (n : Nat) : RS rb sv (w.setCell ⟨rb, 1, none⟩ (.int .i64 n)) { st with at_ := n } := heap_set h
theorem RS.set2 {rb : Nat} {sv : Value} {w : World} {st : RX.St} (h : RS rb sv w st) (n : Nat) : RS rb sv (w.setCell ⟨rb, 2, none⟩ (.int .i64 n)) { st with op := n } := heap_set h
theorem RS.set3 {rb : Nat} {sv : Value} {w : World} {st : RX.St} (h : RS rb sv w st) (n : Nat) : RS rb sv (w.setCell ⟨rb, 3, none⟩ (.int .i64 n)) { st with caps := n } := heap_set h
theorem RS.set45 {rb : Nat} {sv : Value} {w : World} {st : RX.St} (h : RS rb sv w st) (c b : Int) : RS rb sv ((w.setCell ⟨rb, 4, none⟩ (.int .i64 c)).setCell ⟨rb, 5, none⟩ (.int .i64 b)) { st with code := c, bat := b } :=
  heap_set (heap_set h)
theorem RS.drewN {rb : Nat} {sv : Value} {w : World} {st : RX.St} (h : RS rb sv w st) (n : Nat) : RS rb sv (w.drewN n) st := h
theorem RS.ext {rb : Nat} {sv : Value} {w w' : World} {st : RX.St} (h : RS rb sv w st) (he : Ext w w') : RS rb sv w' st := he.heap h

theorem dd {w : World} {a b : Nat} : ∃ n, (w.drewN a).drewN b = w.drewN n := ⟨a + b, by rw [World.drewN_drewN]⟩
/-- Behind a call on the reader: its result, its state. -/
def PostR (R : World → Value → Prop) (rb : Nat) (sv : Value) (w : World) (st' : RX.St) (hi : Nat) (e : Ending) (w' : World) : Prop :=
  ∃ v, e = .returned v ∧ R w' v ∧ RS rb sv w' st' ∧ Only w w' rb ∧ st'.at_ ≤ hi
/-- The same, the result a scalar. -/
def PostV (v : Value) (rb : Nat) (sv : Value) (w : World) (st' : RX.St) (hi : Nat) (e : Ending) (w' : World) : Prop :=
  e = .returned v ∧ RS rb sv w' st' ∧ Only w w' rb ∧ st'.at_ ≤ hi

section
variable {w0 : World} {rb : Nat} {sv : Value} {s : List Int}

set_option maxHeartbeats 400000 in
theorem next_any (n : Nat) (w : World) (st : RX.St) (he : Env w0 rb sv s w st) (hn : n ≤ 2) (ha : st.at_ ≤ 10000) :
    Calls Try.prog 119 #[.pointer (some ⟨rb, 0, none⟩), .int .i64 n] w (RetD (.int .i32 (RX.nxt s st n)) w) := by
  obtain ⟨hs, hrb, hl, hE, hr⟩ := he
  have c0 := hr.c0
  have c1 := hr.c1
  have HS := Lib.hid (hs.ext hE)
  obtain ⟨A, ca, rfl, hlx, hcx, _⟩ := hs
  clear hr hE
  by_cases h : s.length ≤ st.at_ + n
  · have HN := Lib.hid (show RX.nxt s st n = -1 by unfold RX.nxt; rw [List.getElem?_eq_none h]; rfl)
    have hd : decide ((s.length : Int) - st.at_ ≤ n) = true := by simp; omega
    go_enter Try.func119, Try.ntmps119
    go_wp2_with fail
    go_quiet (fail)
    go_wp2_with fail
    go_ret
    exact ⟨ret_congr (by rw [HN.out]; rfl), _, rfl⟩
  · obtain ⟨b, o, rfl, hc⟩ := HS.out.at_ (k := st.at_ + n) (by omega)
    have HN := Lib.hid (show RX.nxt s st n = s[st.at_ + n] by unfold RX.nxt; rw [List.getElem?_eq_getElem (by omega)]; rfl)
    generalize s[st.at_ + n] = x at HN hc
    have hd : decide ((s.length : Int) - st.at_ ≤ n) = false := by simp; omega
    have h1 : st.at_ + n < s.length := by omega
    go_enter Try.func119, Try.ntmps119
    go_wp2_with fail
    go_quiet (fail)
    go_wp2_with fail
    go_quiet (fail)
    go_wp2_with fail
    go_ret
    exact ⟨ret_congr (by rw [HN.out]; rfl), dd⟩

set_option maxHeartbeats 400000 in
theorem peek_any (w : World) (st : RX.St) (he : Env w0 rb sv s w st) (ha : st.at_ ≤ 10000) :
    Calls Try.prog 93 #[.pointer (some ⟨rb, 0, none⟩)] w (RetD (.int .i32 (RX.nxt s st 0)) w) := by
  have H := Lib.hid (next_any 0 w st he (by omega) ha)
  clear he
  go_enter Try.func93, Try.ntmps93
  go_wp2_with fail
  refine H.out.mono ?_
  rintro e w' ⟨rfl, n, rfl⟩
  go_wp2_with fail
  go_ret
  exact ⟨rfl, _, rfl⟩

set_option maxHeartbeats 400000 in
theorem ok_any (w : World) (st : RX.St) (he : Env w0 rb sv s w st) :
    Calls Try.prog 63 #[.pointer (some ⟨rb, 0, none⟩)] w (RetD (.bool st.ok) w) := by
  have c4 := he.rs.c4
  clear he
  go_enter Try.func63, Try.ntmps63
  go_wp2_with fail
  go_ret
  exact ⟨rfl, 0, rfl⟩

set_option maxHeartbeats 400000 in
theorem fail_any (w : World) (st : RX.St) (c b : Int) (he : Env w0 rb sv s w st) :
    Calls Try.prog 64 #[.pointer (some ⟨rb, 0, none⟩), .int .i64 c, .int .i64 b] w (PostV (.tuple #[]) rb sv w (st.fail c b) st.at_) := by
  have hr := he.rs
  have c4 := hr.c4
  have c5 := hr.c5
  have f4 := hr.fr 4
  have f5 := hr.fr 5
  have HR := Lib.hid hr
  clear he hr
  by_cases h : st.code = 0
  · have HF := Lib.hid (show st.fail c b = { st with code := c, bat := b } by simp [RX.St.fail, h])
    have hb : (st.code == 0) = true := by simp [h]
    clear h
    go_enter Try.func64, Try.ntmps64
    go_wp2_with fail
    go_end0
    refine ⟨rfl, ?_, ?_, ?_⟩
    · rw [HF.out]; exact HR.out.set45 c b
    · exact ((Only.refl w rb).set _).set _
    · rw [HF.out]; exact Nat.le_refl _
  · have HF := Lib.hid (show st.fail c b = st by simp [RX.St.fail, h])
    have hb : (st.code == 0) = false := by simpa using h
    clear h
    go_enter Try.func64, Try.ntmps64
    go_wp2_with fail
    go_end0
    refine ⟨rfl, ?_, Only.refl w rb, by rw [HF.out]; exact Nat.le_refl _⟩
    rw [HF.out]; exact HR.out
end
end Go.Proofs.Ytfblkahjefdmaaa
