/- For ResynMadeS: what the texts XPrs of wip/tpl say. -/
import Derived.Test.YtpcdknfmgacggaaB
import Derived.Deep.DeepCutAuto
set_option maxHeartbeats 2000000
namespace Go.Proofs.Ytpcdknfmgacggaa
open Go.RowKit
theorem RS.bump {rb : Nat} {sv : Value} {w : World} {st : RX.St} (h : RS rb sv w st) (n : Nat) : RS rb sv (w.setCell ⟨rb, 1, none⟩ (.int .i64 ((st.at_ : Int) + n))) (st.bump n) := heap_set h
theorem RS.bump1 {rb : Nat} {sv : Value} {w : World} {st : RX.St} (h : RS rb sv w st) : RS rb sv (w.setCell ⟨rb, 1, none⟩ (.int .i64 ((st.at_ : Int) + 1))) (st.bump 1) := heap_set h
theorem c_lit {B : Nat} (w : World) (xs : List Int) (nb n : Nat) (hnb : nb = w.heap.size) (hn' : n = xs.length) (hb : B ≤ w.heap.size) (hn : xs.length ≤ 1000) :
    SlB 21 1 Cc B (w.alloc (.cells (xs.map (Value.int .i32)).toArray 21)) (.slice (some ⟨nb, 0, none⟩) n n) xs := by
  subst hnb hn'; exact (lit_c w xs hb hn).sl
theorem re_lit {B : Nat} (w : World) (x : RX.ReN) (cs : List Value) (nb : Nat) (hnb : nb = w.heap.size) (hb : B ≤ w.heap.size) (hc : CR B w cs x) :
    SlRe B B (w.alloc (.cells cs.toArray 47)) (.slice (some ⟨nb, 0, none⟩) 1 1) [x] := by
  refine OwnB.sl (OwnB.lit _ [x] _ _ hnb rfl hb (by simp) (by simp [hc.len]) ?_)
  intro k y hy
  match k, hy with
  | 0, hy =>
    simp at hy; subst hy
    exact ⟨cs, keeps_re B _ _ _ _ (KeepT.of_ext ((Ext.refl w).alloc _)) hc, hc.len, fun i u hu => by simpa using hu⟩
theorem RS.cast {rb : Nat} {sv : Value} {w : World} {a b : RX.St} (h : RS rb sv w a) (e : a = b) : RS rb sv w b := e ▸ h
theorem RS.alloc {rb : Nat} {sv : Value} {w : World} {st : RX.St} {o : Obj} (h : RS rb sv w st) : RS rb sv (w.alloc o) st := h.ext ((Ext.refl w).alloc o)
theorem Env.bump {w0 : World} {rb : Nat} {sv : Value} {s : List Int} {w : World} {st : RX.St} (he : Env w0 rb sv s w st) (n : Nat) : Env w0 rb sv s (w.setCell ⟨rb, 1, none⟩ (.int .i64 ((st.at_ : Int) + n))) (st.bump n) :=
  he.step ((Only.refl w rb).set (o := 1) (.int .i64 ((st.at_ : Int) + n))) (he.rs.bump n)
theorem Env.alloc {w0 : World} {rb : Nat} {sv : Value} {s : List Int} {w : World} {st : RX.St} (he : Env w0 rb sv s w st) (o : Obj) : Env w0 rb sv s (w.alloc o) st :=
  he.step ((Only.refl w rb).alloc o) (he.rs.ext ((Ext.refl w).alloc o))
theorem Env.setop {w0 : World} {rb : Nat} {sv : Value} {s : List Int} {w : World} {st : RX.St} (he : Env w0 rb sv s w st) (n : Nat) : Env w0 rb sv s (w.setCell ⟨rb, 2, none⟩ (.int .i64 n)) { st with op := n } :=
  he.step ((Only.refl w rb).set (o := 2) (.int .i64 n)) (he.rs.set2 n)
theorem Env.setcaps {w0 : World} {rb : Nat} {sv : Value} {s : List Int} {w : World} {st : RX.St} (he : Env w0 rb sv s w st) (n : Nat) : Env w0 rb sv s (w.setCell ⟨rb, 3, none⟩ (.int .i64 n)) { st with caps := n } :=
  he.step ((Only.refl w rb).set (o := 3) (.int .i64 n)) (he.rs.set3 n)
theorem Env.bumpE {w0 : World} {rb : Nat} {sv : Value} {s : List Int} {w : World} {st : RX.St} {x : Int} (he : Env w0 rb sv s w st) (hx : x = (st.at_ : Int) + 1) : Env w0 rb sv s (w.setCell ⟨rb, 1, none⟩ (.int .i64 x)) (st.bump 1) :=
  hx ▸ he.step ((Only.refl w rb).set (o := 1) (.int .i64 ((st.at_ : Int) + 1))) he.rs.bump1
theorem Env.bump1 {w0 : World} {rb : Nat} {sv : Value} {s : List Int} {w : World} {st : RX.St} (he : Env w0 rb sv s w st) : Env w0 rb sv s (w.setCell ⟨rb, 1, none⟩ (.int .i64 ((st.at_ : Int) + 1))) (st.bump 1) :=
  he.step ((Only.refl w rb).set (o := 1) (.int .i64 ((st.at_ : Int) + 1))) he.rs.bump1
section
variable {w0 : World} {rb : Nat} {sv : Value} {s : List Int}
theorem digit_range (c : Int) : -1 ≤ RX.digit c ∧ RX.digit c ≤ 9 := by unfold RX.digit; split <;> omega
theorem must_any (w : World) (st : RX.St) (he : Env w0 rb sv s w st) (ha : st.at_ ≤ 1000) :
    Calls Try.prog 61 #[.pointer (some ⟨rb, 0, none⟩)] w (PostV (.int .i64 (RX.must s st).1) rb sv w (RX.must s st).2 (st.at_ + 1)) := by
  have HE := Lib.hid he
  have hr := he.rs
  have c1 := hr.c1
  have f1 := hr.fr 1
  have HR := Lib.hid hr
  clear he hr
  obtain ⟨d, hd⟩ : ∃ d, RX.digit (RX.nxt s st 0) = d := ⟨_, rfl⟩
  have hrng := digit_range (RX.nxt s st 0)
  rw [hd] at hrng
  obtain ⟨hr1, hr2⟩ := hrng
  have HD := Lib.hid hd
  clear hd
  by_cases h : d < 0
  · have HM := Lib.hid (show RX.must s st = (0, st.fail 5 st.at_) by unfold RX.must; rw [HD.out, if_pos h])
    go_enter Try.func61, Try.ntmps61
    go_wp2_with fail
    refine (peek_any _ _ HE.out (by omega)).mono ?_
    rintro e w' ⟨rfl, n, rfl⟩
    go_wp2_with fail
    refine (digit_any _ _).mono ?_
    rintro e w' ⟨rfl, n, rfl⟩
    rw [HD.out]
    go_wp2_with fail
    refine (fail_any _ st 5 st.at_ (HE.out.drewN _)).mono ?_
    rintro e w' ⟨rfl, h1, h2, h3⟩
    go_wp2_with fail
    go_ret
    rw [HM.out]
    exact ⟨rfl, h1, ((Only.refl w rb).drewN _).trans h2, by show (st.fail _ _).at_ ≤ _; omega⟩
  · have HM := Lib.hid (show RX.must s st = (d, st.bump 1) by unfold RX.must; rw [HD.out, if_neg h])
    go_enter Try.func61, Try.ntmps61
    go_wp2_with fail
    refine (peek_any _ _ HE.out (by omega)).mono ?_
    rintro e w' ⟨rfl, n, rfl⟩
    go_wp2_with fail
    refine (digit_any _ _).mono ?_
    rintro e w' ⟨rfl, n, rfl⟩
    rw [HD.out]
    go_wp2_with fail
    go_ret
    rw [HM.out]
    refine ⟨rfl, ?_, ?_, Nat.le_refl _⟩
    · exact RS.bump1 (HR.out.drewN _)
    · exact ((Only.refl w rb).drewN _).set _
theorem PostV.of {v v' : Value} {rb hi : Nat} {sv : Value} {w w' : World} {st st' : RX.St} (hr : RS rb sv w' st) (ho : Only w w' rb) (hb : st.at_ ≤ hi) (hv : v = v') (e : st = st') : PostV v' rb sv w st' hi (.returned v) w' :=
  ⟨by rw [hv], e ▸ hr, ho, e ▸ hb⟩
theorem PostR.of {R : World → Value → Prop} {v : Value} {rb hi : Nat} {sv : Value} {w w' : World} {st st' : RX.St} (hr : RS rb sv w' st) (ho : Only w w' rb) (hb : st.at_ ≤ hi) (hv : R w' v) (e : st = st') : PostR R rb sv w st' hi (.returned v) w' :=
  ⟨v, rfl, hv, e ▸ hr, ho, e ▸ hb⟩
theorem Env.rbl {w : World} {st : RX.St} (h : Env w0 rb sv s w st) : rb < w.heap.size := heap_lt h.rs
theorem bounds_any (w : World) (st : RX.St) (he : Env w0 rb sv s w st) (ha : st.at_ ≤ 900) :
    Calls Try.prog 49 #[.pointer (some ⟨rb, 0, none⟩)] w (PostV (.tuple #[.int .i64 (RX.bounds s st).1, .int .i64 (RX.bounds s st).2.1]) rb sv w (RX.bounds s st).2.2 (st.at_ + 5)) := by
  have HE := Lib.hid he
  have HO := Lib.hid (Only.refl w rb)
  have c1 := he.rs.c1
  have f1 := he.rs.fr 1
  clear he
  go_enter Try.func49, Try.ntmps49
  go_wp2_with (first | (go_at_call 24; apply Calls.mono; apply ok_any (w0 := w0) (rb := rb) (sv := sv) (s := s); (focus (repeat (first | exact HE.out | apply Env.bump1 | apply Env.drewN | apply Env.alloc | apply Env.setop | apply Env.setcaps | apply Env.bumpE | apply Env.setbox hrn | (simp only [RX.St.bump]; omega) | omega))); rintro e w' ⟨rfl, n, rfl⟩) | (go_at_call 34; apply Calls.mono; apply peek_any (w0 := w0) (rb := rb) (sv := sv) (s := s); (focus (repeat (first | exact HE.out | apply Env.bump1 | apply Env.drewN | apply Env.alloc | apply Env.setop | apply Env.setcaps | apply Env.bumpE | apply Env.setbox hrn | (simp only [RX.St.bump]; omega) | omega))); (first | omega | (simp only [RX.St.bump] at *; omega)); rintro e w' ⟨rfl, n, rfl⟩) | (go_at_call 61; apply Calls.mono; apply must_any (w0 := w0) (rb := rb) (sv := sv) (s := s); (focus (repeat (first | exact HE.out | apply Env.bump1 | apply Env.drewN | apply Env.alloc | apply Env.setop | apply Env.setcaps | apply Env.bumpE | apply Env.setbox hrn | (simp only [RX.St.bump]; omega) | omega))); (first | omega | (simp only [RX.St.bump] at *; omega)); rintro e w' ⟨rfl, hr, ho, hb⟩; generalize hq : RX.must s _ = mq at hr hb ⊢; obtain ⟨mv, sq⟩ := mq; simp only at hr hb ⊢; (try simp only [RX.St.bump] at hb); have HE := Lib.hid (Env.step (by (focus (repeat (first | exact HE.out | apply Env.bump1 | apply Env.drewN | apply Env.alloc | apply Env.setop | apply Env.setcaps | apply Env.bumpE | apply Env.setbox hrn | (simp only [RX.St.bump]; omega) | omega)))) ho hr); have HO := Lib.hid (Only.trans (by (focus (repeat (first | exact HO.out | apply Only.set | apply Only.drewN | apply Only.alloc | apply Only.setNew hnw)))) ho); have c1 := hr.c1; have f1 := hr.fr 1; have c2 := hr.c2; have f2 := hr.fr 2; have c3 := hr.c3; have f3 := hr.fr 3; have hrl := heap_lt hr; clear hr ho) | (go_at_call 25; apply Calls.mono; apply fail_any (w0 := w0) (rb := rb) (sv := sv) (s := s); (focus (repeat (first | exact HE.out | apply Env.bump1 | apply Env.drewN | apply Env.alloc | apply Env.setop | apply Env.setcaps | apply Env.bumpE | apply Env.setbox hrn | (simp only [RX.St.bump]; omega) | omega))); rintro e w' ⟨rfl, hr, ho, hb⟩; generalize hq : RX.St.fail _ _ _ = sq at hr hb; (try simp only [RX.St.bump] at hb); have HE := Lib.hid (Env.step (by (focus (repeat (first | exact HE.out | apply Env.bump1 | apply Env.drewN | apply Env.alloc | apply Env.setop | apply Env.setcaps | apply Env.bumpE | apply Env.setbox hrn | (simp only [RX.St.bump]; omega) | omega)))) ho hr); have HO := Lib.hid (Only.trans (by (focus (repeat (first | exact HO.out | apply Only.set | apply Only.drewN | apply Only.alloc | apply Only.setNew hnw)))) ho); have c1 := hr.c1; have f1 := hr.fr 1; have c2 := hr.c2; have f2 := hr.fr 2; have c3 := hr.c3; have f3 := hr.fr 3; have hrl := heap_lt hr; clear hr ho))
  all_goals go_ret2
  all_goals (apply PostV.of; ((apply Env.rs (w0 := w0) (s := s)); (focus (repeat (first | exact HE.out | apply Env.bump1 | apply Env.drewN | apply Env.alloc | apply Env.setop | apply Env.setcaps | apply Env.bumpE | apply Env.setbox hrn | (simp only [RX.St.bump]; omega) | omega)))); (focus (repeat (first | exact HO.out | apply Only.set | apply Only.drewN | apply Only.alloc | apply Only.setNew hnw))); (first | omega | (simp only [RX.St.bump] at *; omega)))
  all_goals (clear HE HO; (first | (simp_all [RX.bounds, RX.high]; done) | (simp_all [RX.bounds, RX.high, RX.St.bump]; done) | (simp_all [RX.bounds, RX.high, RX.St.bump]; omega) | (simp only [RX.bounds, RX.high, RX.St.bump] at *; omega) | skip))
end
end Go.Proofs.Ytpcdknfmgacggaa
