/- For ResynMadeS: what the texts XEsc XRng XBox XApp XRcs XCls XAppL of wip/tpl say. -/
import Derived.Test.YtpcdknfmgacggaaD
import Derived.Test.YtpcdknfmgacggaaF
import Derived.Lib.SliceRun
set_option maxRecDepth 100000
set_option maxHeartbeats 4000000
namespace Go.Proofs.Ytpcdknfmgacggaa
open Go.RowKit
theorem OwnB.weak {α : Type} {t sz : Nat} {C : World → List Value → α → Prop} {base base' : Nat} {w : World} {v : Value} {xs : List α} (h : OwnB t sz C base w v xs) (hb : base' ≤ base) : OwnB t sz C base' w v xs := by
  obtain ⟨flat, ⟨h1, h2⟩, h3⟩ := h
  refine ⟨flat, ⟨h1, ?_⟩, h3⟩
  rcases h2 with h2 | ⟨g, cap, cur, q1, q2, q3⟩
  · exact .inl h2
  · exact .inr ⟨g, cap, cur, q1, Nat.le_trans hb q2, q3⟩
/-- The blocks from B on are as they were. -/
def KeepB (B : Nat) (w w' : World) : Prop := ∀ g o, B ≤ g → w.heap[g]? = some o → w'.heap[g]? = some o
def KeepsB (B : Nat) {α : Type} (C : World → List Value → α → Prop) : Prop := ∀ w w' cs x, KeepB B w w' → C w cs x → C w' cs x
theorem SlB.keepB {α : Type} {t sz B : Nat} {C : World → List Value → α → Prop} {w w' : World} {v : Value} {xs : List α} (h : SlB t sz C B w v xs) (hC : KeepsB B C) (hk : KeepB B w w') : SlB t sz C B w' v xs := by
  obtain ⟨A, c, hv, hl, hc, hn, ha⟩ := h
  refine ⟨A, c, hv, hl, hc, hn, fun ad had => ?_⟩
  obtain ⟨g, o, cur, h1, h2, h3, h4, h5⟩ := ha ad had
  refine ⟨g, o, cur, h1, h2, hk g _ h2 h3, h4, fun k x hx => ?_⟩
  obtain ⟨cs, h6, h7⟩ := h5 k x hx
  exact ⟨cs, hC _ _ _ _ hk h6, h7⟩
theorem keepsB_c (B : Nat) : KeepsB B Cc := fun _ _ _ _ _ h => h
theorem keepsB_re (B : Nat) : KeepsB B (CR B) := fun _ _ _ _ hk ⟨sv, h1, h2⟩ => ⟨sv, h1, h2.keepB (keepsB_c B) hk⟩
theorem keepsB_l (B : Nat) : KeepsB B (CL B) := fun _ _ _ _ hk ⟨v, h1, h2⟩ => ⟨v, h1, h2.keepB (keepsB_re B) hk⟩
theorem KeepB.only {rb : Nat} {w w' : World} (h : Only w w' rb) : KeepB (rb + 1) w w' := fun g o hg ho => (h.block g (heap_lt ho) (by intro e; injection e with e; omega)).trans ho
theorem SlB.only {α : Type} {t sz rb : Nat} {C : World → List Value → α → Prop} {w w' : World} {v : Value} {xs : List α} (h : SlB t sz C (rb + 1) w v xs) (hC : KeepsB (rb + 1) C) (ho : Only w w' rb) : SlB t sz C (rb + 1) w' v xs := h.keepB hC (KeepB.only ho)
theorem SlB.setrb {rb t o : Nat} {u : Value} {w : World} {v : Value} {xs : List Int} (h : SlB t 1 Cc (rb + 1) w v xs) : SlB t 1 Cc (rb + 1) (w.setCell ⟨rb, o, none⟩ u) v xs := h.only (keepsB_c _) ((Only.refl w rb).set u)
theorem SlB.drewN {rb t n : Nat} {w : World} {v : Value} {xs : List Int} (h : SlB t 1 Cc (rb + 1) w v xs) : SlB t 1 Cc (rb + 1) (w.drewN n) v xs := h.only (keepsB_c _) ((Only.refl w rb).drewN n)
theorem SlB.alloc {rb t : Nat} {o : Obj} {w : World} {v : Value} {xs : List Int} (h : SlB t 1 Cc (rb + 1) w v xs) : SlB t 1 Cc (rb + 1) (w.alloc o) v xs := h.only (keepsB_c _) ((Only.refl w rb).alloc o)
theorem c_lit2 {B nb : Nat} {w : World} {a b : Int} (hnb : nb = w.heap.size) (hb : B ≤ w.heap.size) : SlB 21 1 Cc B (w.alloc (.cells #[.int .i32 a, .int .i32 b] 21)) (.slice (some ⟨nb, 0, none⟩) 2 2) [a, b] := c_lit w [a, b] _ _ hnb rfl hb (by simp)
theorem CR.mk {B : Nat} {w : World} {k lo hi : Int} {lz ng : Bool} {sv : Value} {set : List Int} (h : SlB 21 1 Cc B w sv set) : CR B w [.int .i64 k, .int .i64 0, .int .i64 lo, .int .i64 hi, .bool lz, .bool ng, sv] (RX.node k lo hi lz ng set) := ⟨sv, rfl, h⟩
theorem CR.mk0 {B : Nat} {w : World} {k lo hi : Int} {lz ng : Bool} : CR B w [.int .i64 k, .int .i64 0, .int .i64 lo, .int .i64 hi, .bool lz, .bool ng, .slice none 0 0] (RX.node k lo hi lz ng []) := ⟨_, rfl, SlB.nil_⟩
theorem SlRe.cast {B b : Nat} {w : World} {v : Value} {l l' : List RX.ReN} (h : SlRe B b w v l) (e : l = l') : SlRe B b w v l' := e ▸ h
theorem sort_none {c : Int} {w : World} (h : RX.sortR c = none) : Calls Try.prog 58 #[.int .i32 c] w (RetP (fun _ v => v = .slice none 0 0) w) := by
  refine (sort_any c w).mono ?_
  rw [h]
  exact fun e w' h => h
theorem sort_some {c : Int} {w : World} {l : List Int} (h : RX.sortR c = some l) : Calls Try.prog 58 #[.int .i32 c] w (RetP (fun w' v => OwnB 21 1 Cc w.heap.size w' v l ∧ ∃ g, v = .slice (some ⟨g, 0, none⟩) l.length l.length) w) := by
  refine (sort_any c w).mono ?_
  rw [h]
  exact fun e w' h => h
theorem Env.ext {w0 : World} {rb : Nat} {sv : Value} {s : List Int} {w w' : World} {st : RX.St} (he : Env w0 rb sv s w st) (hx : Ext w w') : Env w0 rb sv s w' st :=
  he.step (Only.of_ext hx rb) (he.rs.ext hx)
section
variable {w0 : World} {rb : Nat} {sv : Value} {s : List Int}
theorem escaped_any (w : World) (st : RX.St) (he : Env w0 rb sv s w st) (ha : st.at_ ≤ 900) :
    Calls Try.prog 48 #[.pointer (some ⟨rb, 0, none⟩)] w (PostR (fun w' v => SlRe (rb + 1) (rb + 1) w' v (RX.escaped s st).1) rb sv w (RX.escaped s st).2 (st.at_ + 2)) := by
  have HE := Lib.hid he
  have HO := Lib.hid (Only.refl w rb)
  have c1 := he.rs.c1
  have f1 := he.rs.fr 1
  have hrb : rb + 1 ≤ w.heap.size := he.rbl
  clear he
  rcases hs1 : RX.sortR (RX.nxt s (st.bump 1) 0) with _ | l
  · rcases hs2 : RX.sortR (RX.lower (RX.nxt s (st.bump 1) 0)) with _ | l
    · go_enter Try.func48, Try.ntmps48
      go_wp2_with (first | (go_at_call 24; apply Calls.mono; apply ok_any (w0 := w0) (rb := rb) (sv := sv) (s := s); (focus (repeat (first | exact HE.out | apply Env.bump1 | apply Env.drewN | apply Env.alloc | apply Env.setop | apply Env.setcaps | apply Env.bumpE | apply Env.setbox hrn | (simp only [RX.St.bump]; omega) | omega))); rintro e w' ⟨rfl, n, rfl⟩) | (go_at_call 34; apply Calls.mono; apply peek_any (w0 := w0) (rb := rb) (sv := sv) (s := s); (focus (repeat (first | exact HE.out | apply Env.bump1 | apply Env.drewN | apply Env.alloc | apply Env.setop | apply Env.setcaps | apply Env.bumpE | apply Env.setbox hrn | (simp only [RX.St.bump]; omega) | omega))); (first | omega | (simp only [RX.St.bump] at *; omega)); rintro e w' ⟨rfl, n, rfl⟩) | (go_at_call 61; apply Calls.mono; apply must_any (w0 := w0) (rb := rb) (sv := sv) (s := s); (focus (repeat (first | exact HE.out | apply Env.bump1 | apply Env.drewN | apply Env.alloc | apply Env.setop | apply Env.setcaps | apply Env.bumpE | apply Env.setbox hrn | (simp only [RX.St.bump]; omega) | omega))); (first | omega | (simp only [RX.St.bump] at *; omega)); rintro e w' ⟨rfl, hr, ho, hb⟩; generalize hq : RX.must s _ = mq at hr hb ⊢; obtain ⟨mv, sq⟩ := mq; simp only at hr hb ⊢; (try simp only [RX.St.bump] at hb); have HE := Lib.hid (Env.step (by (focus (repeat (first | exact HE.out | apply Env.bump1 | apply Env.drewN | apply Env.alloc | apply Env.setop | apply Env.setcaps | apply Env.bumpE | apply Env.setbox hrn | (simp only [RX.St.bump]; omega) | omega)))) ho hr); have HO := Lib.hid (Only.trans (by (focus (repeat (first | exact HO.out | apply Only.set | apply Only.drewN | apply Only.alloc | apply Only.setNew hnw)))) ho); have c1 := hr.c1; have f1 := hr.fr 1; have c2 := hr.c2; have f2 := hr.fr 2; have c3 := hr.c3; have f3 := hr.fr 3; have hrl := heap_lt hr; clear hr ho) | (go_at_call 25; apply Calls.mono; apply fail_any (w0 := w0) (rb := rb) (sv := sv) (s := s); (focus (repeat (first | exact HE.out | apply Env.bump1 | apply Env.drewN | apply Env.alloc | apply Env.setop | apply Env.setcaps | apply Env.bumpE | apply Env.setbox hrn | (simp only [RX.St.bump]; omega) | omega))); rintro e w' ⟨rfl, hr, ho, hb⟩; generalize hq : RX.St.fail _ _ _ = sq at hr hb; (try simp only [RX.St.bump] at hb); have HE := Lib.hid (Env.step (by (focus (repeat (first | exact HE.out | apply Env.bump1 | apply Env.drewN | apply Env.alloc | apply Env.setop | apply Env.setcaps | apply Env.bumpE | apply Env.setbox hrn | (simp only [RX.St.bump]; omega) | omega)))) ho hr); have HO := Lib.hid (Only.trans (by (focus (repeat (first | exact HO.out | apply Only.set | apply Only.drewN | apply Only.alloc | apply Only.setNew hnw)))) ho); have c1 := hr.c1; have f1 := hr.fr 1; have c2 := hr.c2; have f2 := hr.fr 2; have c3 := hr.c3; have f3 := hr.fr 3; have hrl := heap_lt hr; clear hr ho) | (go_at_call 58; apply Calls.mono; apply sort_none; (first | exact hs1 | exact hs2); rintro e w' ⟨_, rfl, rfl, hx⟩; have HE := Lib.hid (Env.ext (by (focus (repeat (first | exact HE.out | apply Env.bump1 | apply Env.drewN | apply Env.alloc | apply Env.setop | apply Env.setcaps | apply Env.bumpE | apply Env.setbox hrn | (simp only [RX.St.bump]; omega) | omega)))) hx); have HO := Lib.hid (Only.trans (by (focus (repeat (first | exact HO.out | apply Only.set | apply Only.drewN | apply Only.alloc | apply Only.setNew hnw)))) (Only.of_ext hx rb)); have hr := HE.out.rs; have c1 := hr.c1; (try simp only [RX.St.bump] at c1); have f1 := hr.fr 1; have hrl := heap_lt hr; clear hx hr) | (go_at_call 59; apply Calls.mono; apply lower_any; rintro e w' ⟨rfl, n, rfl⟩) | (go_at_call 60; apply Calls.mono; apply sign_any; rintro e w' ⟨rfl, n, rfl⟩; generalize hg : RX.signR _ = sg))
      all_goals go_ret
      all_goals (apply PostR.of; ((apply Env.rs (w0 := w0) (s := s)); (focus (repeat (first | exact HE.out | apply Env.bump1 | apply Env.drewN | apply Env.alloc | apply Env.setop | apply Env.setcaps | apply Env.bumpE | apply Env.setbox hrn | (simp only [RX.St.bump]; omega) | omega)))); (focus (repeat (first | exact HO.out | apply Only.set | apply Only.drewN | apply Only.alloc | apply Only.setNew hnw))); (first | omega | (simp only [RX.St.bump] at *; omega)); (first | (apply SlRe.cast; apply re_lit; (focus (first | rfl | (simp; done) | (simp; omega))); (focus (first | omega | (simp; omega) | (apply Env.rbl (w0 := w0) (s := s); (focus (repeat (first | exact HE.out | apply Env.bump1 | apply Env.drewN | apply Env.alloc | apply Env.setop | apply Env.setcaps | apply Env.bumpE | apply Env.setbox hrn | (simp only [RX.St.bump]; omega) | omega)))))); (first | apply CR.mk0 | (apply CR.mk; (focus (repeat (first | exact HV.out | (apply c_lit2; (focus (first | rfl | (simp; done) | (simp; omega))); (focus (first | omega | (simp; omega) | (apply Env.rbl (w0 := w0) (s := s); (focus (repeat (first | exact HE.out | apply Env.bump1 | apply Env.drewN | apply Env.alloc | apply Env.setop | apply Env.setcaps | apply Env.bumpE | apply Env.setbox hrn | (simp only [RX.St.bump]; omega) | omega))))))) | apply SlB.setrb | apply SlB.drewN | apply SlB.alloc)))))) | (apply SlRe.cast; exact SlB.nil_)))
      all_goals (try (rcases sg with _ | sg))
      all_goals (clear HE HO; (first | (simp_all [RX.escaped]; done) | (simp_all [RX.escaped, RX.St.bump]; done) | (simp_all [RX.escaped, RX.St.bump]; omega) | (simp only [RX.escaped, RX.St.bump] at *; omega) | skip))
    · go_enter Try.func48, Try.ntmps48
      go_wp2_with (first | (go_at_call 24; apply Calls.mono; apply ok_any (w0 := w0) (rb := rb) (sv := sv) (s := s); (focus (repeat (first | exact HE.out | apply Env.bump1 | apply Env.drewN | apply Env.alloc | apply Env.setop | apply Env.setcaps | apply Env.bumpE | apply Env.setbox hrn | (simp only [RX.St.bump]; omega) | omega))); rintro e w' ⟨rfl, n, rfl⟩) | (go_at_call 34; apply Calls.mono; apply peek_any (w0 := w0) (rb := rb) (sv := sv) (s := s); (focus (repeat (first | exact HE.out | apply Env.bump1 | apply Env.drewN | apply Env.alloc | apply Env.setop | apply Env.setcaps | apply Env.bumpE | apply Env.setbox hrn | (simp only [RX.St.bump]; omega) | omega))); (first | omega | (simp only [RX.St.bump] at *; omega)); rintro e w' ⟨rfl, n, rfl⟩) | (go_at_call 61; apply Calls.mono; apply must_any (w0 := w0) (rb := rb) (sv := sv) (s := s); (focus (repeat (first | exact HE.out | apply Env.bump1 | apply Env.drewN | apply Env.alloc | apply Env.setop | apply Env.setcaps | apply Env.bumpE | apply Env.setbox hrn | (simp only [RX.St.bump]; omega) | omega))); (first | omega | (simp only [RX.St.bump] at *; omega)); rintro e w' ⟨rfl, hr, ho, hb⟩; generalize hq : RX.must s _ = mq at hr hb ⊢; obtain ⟨mv, sq⟩ := mq; simp only at hr hb ⊢; (try simp only [RX.St.bump] at hb); have HE := Lib.hid (Env.step (by (focus (repeat (first | exact HE.out | apply Env.bump1 | apply Env.drewN | apply Env.alloc | apply Env.setop | apply Env.setcaps | apply Env.bumpE | apply Env.setbox hrn | (simp only [RX.St.bump]; omega) | omega)))) ho hr); have HO := Lib.hid (Only.trans (by (focus (repeat (first | exact HO.out | apply Only.set | apply Only.drewN | apply Only.alloc | apply Only.setNew hnw)))) ho); have c1 := hr.c1; have f1 := hr.fr 1; have c2 := hr.c2; have f2 := hr.fr 2; have c3 := hr.c3; have f3 := hr.fr 3; have hrl := heap_lt hr; clear hr ho) | (go_at_call 25; apply Calls.mono; apply fail_any (w0 := w0) (rb := rb) (sv := sv) (s := s); (focus (repeat (first | exact HE.out | apply Env.bump1 | apply Env.drewN | apply Env.alloc | apply Env.setop | apply Env.setcaps | apply Env.bumpE | apply Env.setbox hrn | (simp only [RX.St.bump]; omega) | omega))); rintro e w' ⟨rfl, hr, ho, hb⟩; generalize hq : RX.St.fail _ _ _ = sq at hr hb; (try simp only [RX.St.bump] at hb); have HE := Lib.hid (Env.step (by (focus (repeat (first | exact HE.out | apply Env.bump1 | apply Env.drewN | apply Env.alloc | apply Env.setop | apply Env.setcaps | apply Env.bumpE | apply Env.setbox hrn | (simp only [RX.St.bump]; omega) | omega)))) ho hr); have HO := Lib.hid (Only.trans (by (focus (repeat (first | exact HO.out | apply Only.set | apply Only.drewN | apply Only.alloc | apply Only.setNew hnw)))) ho); have c1 := hr.c1; have f1 := hr.fr 1; have c2 := hr.c2; have f2 := hr.fr 2; have c3 := hr.c3; have f3 := hr.fr 3; have hrl := heap_lt hr; clear hr ho) | (go_at_call 58; apply Calls.mono; apply sort_none; (first | exact hs1 | exact hs2); rintro e w' ⟨_, rfl, rfl, hx⟩; have HE := Lib.hid (Env.ext (by (focus (repeat (first | exact HE.out | apply Env.bump1 | apply Env.drewN | apply Env.alloc | apply Env.setop | apply Env.setcaps | apply Env.bumpE | apply Env.setbox hrn | (simp only [RX.St.bump]; omega) | omega)))) hx); have HO := Lib.hid (Only.trans (by (focus (repeat (first | exact HO.out | apply Only.set | apply Only.drewN | apply Only.alloc | apply Only.setNew hnw)))) (Only.of_ext hx rb)); have hr := HE.out.rs; have c1 := hr.c1; (try simp only [RX.St.bump] at c1); have f1 := hr.fr 1; have hrl := heap_lt hr; clear hx hr) | (go_at_call 58; apply Calls.mono; apply sort_some; (first | exact hs1 | exact hs2); rintro e w' ⟨vs, rfl, ⟨hown, g, rfl⟩, hx⟩; have hown := OwnB.weak hown (show rb + 1 ≤ _ by (apply Env.rbl (w0 := w0) (s := s); (focus (repeat (first | exact HE.out | apply Env.bump1 | apply Env.drewN | apply Env.alloc | apply Env.setop | apply Env.setcaps | apply Env.bumpE | apply Env.setbox hrn | (simp only [RX.St.bump]; omega) | omega))))); have HV := Lib.hid hown.sl; have HE := Lib.hid (Env.ext (by (focus (repeat (first | exact HE.out | apply Env.bump1 | apply Env.drewN | apply Env.alloc | apply Env.setop | apply Env.setcaps | apply Env.bumpE | apply Env.setbox hrn | (simp only [RX.St.bump]; omega) | omega)))) hx); have HO := Lib.hid (Only.trans (by (focus (repeat (first | exact HO.out | apply Only.set | apply Only.drewN | apply Only.alloc | apply Only.setNew hnw)))) (Only.of_ext hx rb)); have hr := HE.out.rs; have c1 := hr.c1; (try simp only [RX.St.bump] at c1); have f1 := hr.fr 1; have hrl := heap_lt hr; clear hx hr hown) | (go_at_call 59; apply Calls.mono; apply lower_any; rintro e w' ⟨rfl, n, rfl⟩) | (go_at_call 60; apply Calls.mono; apply sign_any; rintro e w' ⟨rfl, n, rfl⟩; generalize hg : RX.signR _ = sg))
      all_goals go_ret
      all_goals (apply PostR.of; ((apply Env.rs (w0 := w0) (s := s)); (focus (repeat (first | exact HE.out | apply Env.bump1 | apply Env.drewN | apply Env.alloc | apply Env.setop | apply Env.setcaps | apply Env.bumpE | apply Env.setbox hrn | (simp only [RX.St.bump]; omega) | omega)))); (focus (repeat (first | exact HO.out | apply Only.set | apply Only.drewN | apply Only.alloc | apply Only.setNew hnw))); (first | omega | (simp only [RX.St.bump] at *; omega)); (first | (apply SlRe.cast; apply re_lit; (focus (first | rfl | (simp; done) | (simp; omega))); (focus (first | omega | (simp; omega) | (apply Env.rbl (w0 := w0) (s := s); (focus (repeat (first | exact HE.out | apply Env.bump1 | apply Env.drewN | apply Env.alloc | apply Env.setop | apply Env.setcaps | apply Env.bumpE | apply Env.setbox hrn | (simp only [RX.St.bump]; omega) | omega)))))); (first | apply CR.mk0 | (apply CR.mk; (focus (repeat (first | exact HV.out | (apply c_lit2; (focus (first | rfl | (simp; done) | (simp; omega))); (focus (first | omega | (simp; omega) | (apply Env.rbl (w0 := w0) (s := s); (focus (repeat (first | exact HE.out | apply Env.bump1 | apply Env.drewN | apply Env.alloc | apply Env.setop | apply Env.setcaps | apply Env.bumpE | apply Env.setbox hrn | (simp only [RX.St.bump]; omega) | omega))))))) | apply SlB.setrb | apply SlB.drewN | apply SlB.alloc)))))) | (apply SlRe.cast; exact SlB.nil_)))
      all_goals (try (rcases sg with _ | sg))
      all_goals (clear HE HO; (first | (simp_all [RX.escaped]; done) | (simp_all [RX.escaped, RX.St.bump]; done) | (simp_all [RX.escaped, RX.St.bump]; omega) | (simp only [RX.escaped, RX.St.bump] at *; omega) | skip))
  · go_enter Try.func48, Try.ntmps48
    go_wp2_with (first | (go_at_call 24; apply Calls.mono; apply ok_any (w0 := w0) (rb := rb) (sv := sv) (s := s); (focus (repeat (first | exact HE.out | apply Env.bump1 | apply Env.drewN | apply Env.alloc | apply Env.setop | apply Env.setcaps | apply Env.bumpE | apply Env.setbox hrn | (simp only [RX.St.bump]; omega) | omega))); rintro e w' ⟨rfl, n, rfl⟩) | (go_at_call 34; apply Calls.mono; apply peek_any (w0 := w0) (rb := rb) (sv := sv) (s := s); (focus (repeat (first | exact HE.out | apply Env.bump1 | apply Env.drewN | apply Env.alloc | apply Env.setop | apply Env.setcaps | apply Env.bumpE | apply Env.setbox hrn | (simp only [RX.St.bump]; omega) | omega))); (first | omega | (simp only [RX.St.bump] at *; omega)); rintro e w' ⟨rfl, n, rfl⟩) | (go_at_call 61; apply Calls.mono; apply must_any (w0 := w0) (rb := rb) (sv := sv) (s := s); (focus (repeat (first | exact HE.out | apply Env.bump1 | apply Env.drewN | apply Env.alloc | apply Env.setop | apply Env.setcaps | apply Env.bumpE | apply Env.setbox hrn | (simp only [RX.St.bump]; omega) | omega))); (first | omega | (simp only [RX.St.bump] at *; omega)); rintro e w' ⟨rfl, hr, ho, hb⟩; generalize hq : RX.must s _ = mq at hr hb ⊢; obtain ⟨mv, sq⟩ := mq; simp only at hr hb ⊢; (try simp only [RX.St.bump] at hb); have HE := Lib.hid (Env.step (by (focus (repeat (first | exact HE.out | apply Env.bump1 | apply Env.drewN | apply Env.alloc | apply Env.setop | apply Env.setcaps | apply Env.bumpE | apply Env.setbox hrn | (simp only [RX.St.bump]; omega) | omega)))) ho hr); have HO := Lib.hid (Only.trans (by (focus (repeat (first | exact HO.out | apply Only.set | apply Only.drewN | apply Only.alloc | apply Only.setNew hnw)))) ho); have c1 := hr.c1; have f1 := hr.fr 1; have c2 := hr.c2; have f2 := hr.fr 2; have c3 := hr.c3; have f3 := hr.fr 3; have hrl := heap_lt hr; clear hr ho) | (go_at_call 25; apply Calls.mono; apply fail_any (w0 := w0) (rb := rb) (sv := sv) (s := s); (focus (repeat (first | exact HE.out | apply Env.bump1 | apply Env.drewN | apply Env.alloc | apply Env.setop | apply Env.setcaps | apply Env.bumpE | apply Env.setbox hrn | (simp only [RX.St.bump]; omega) | omega))); rintro e w' ⟨rfl, hr, ho, hb⟩; generalize hq : RX.St.fail _ _ _ = sq at hr hb; (try simp only [RX.St.bump] at hb); have HE := Lib.hid (Env.step (by (focus (repeat (first | exact HE.out | apply Env.bump1 | apply Env.drewN | apply Env.alloc | apply Env.setop | apply Env.setcaps | apply Env.bumpE | apply Env.setbox hrn | (simp only [RX.St.bump]; omega) | omega)))) ho hr); have HO := Lib.hid (Only.trans (by (focus (repeat (first | exact HO.out | apply Only.set | apply Only.drewN | apply Only.alloc | apply Only.setNew hnw)))) ho); have c1 := hr.c1; have f1 := hr.fr 1; have c2 := hr.c2; have f2 := hr.fr 2; have c3 := hr.c3; have f3 := hr.fr 3; have hrl := heap_lt hr; clear hr ho) | (go_at_call 58; apply Calls.mono; apply sort_some; (first | exact hs1 | exact hs2); rintro e w' ⟨vs, rfl, ⟨hown, g, rfl⟩, hx⟩; have hown := OwnB.weak hown (show rb + 1 ≤ _ by (apply Env.rbl (w0 := w0) (s := s); (focus (repeat (first | exact HE.out | apply Env.bump1 | apply Env.drewN | apply Env.alloc | apply Env.setop | apply Env.setcaps | apply Env.bumpE | apply Env.setbox hrn | (simp only [RX.St.bump]; omega) | omega))))); have HV := Lib.hid hown.sl; have HE := Lib.hid (Env.ext (by (focus (repeat (first | exact HE.out | apply Env.bump1 | apply Env.drewN | apply Env.alloc | apply Env.setop | apply Env.setcaps | apply Env.bumpE | apply Env.setbox hrn | (simp only [RX.St.bump]; omega) | omega)))) hx); have HO := Lib.hid (Only.trans (by (focus (repeat (first | exact HO.out | apply Only.set | apply Only.drewN | apply Only.alloc | apply Only.setNew hnw)))) (Only.of_ext hx rb)); have hr := HE.out.rs; have c1 := hr.c1; (try simp only [RX.St.bump] at c1); have f1 := hr.fr 1; have hrl := heap_lt hr; clear hx hr hown) | (go_at_call 59; apply Calls.mono; apply lower_any; rintro e w' ⟨rfl, n, rfl⟩) | (go_at_call 60; apply Calls.mono; apply sign_any; rintro e w' ⟨rfl, n, rfl⟩; generalize hg : RX.signR _ = sg))
    all_goals go_ret
    all_goals (apply PostR.of; ((apply Env.rs (w0 := w0) (s := s)); (focus (repeat (first | exact HE.out | apply Env.bump1 | apply Env.drewN | apply Env.alloc | apply Env.setop | apply Env.setcaps | apply Env.bumpE | apply Env.setbox hrn | (simp only [RX.St.bump]; omega) | omega)))); (focus (repeat (first | exact HO.out | apply Only.set | apply Only.drewN | apply Only.alloc | apply Only.setNew hnw))); (first | omega | (simp only [RX.St.bump] at *; omega)); (apply SlRe.cast; apply re_lit; (focus (first | rfl | (simp; done) | (simp; omega))); (focus (first | omega | (simp; omega) | (apply Env.rbl (w0 := w0) (s := s); (focus (repeat (first | exact HE.out | apply Env.bump1 | apply Env.drewN | apply Env.alloc | apply Env.setop | apply Env.setcaps | apply Env.bumpE | apply Env.setbox hrn | (simp only [RX.St.bump]; omega) | omega)))))); (first | apply CR.mk0 | (apply CR.mk; (focus (repeat (first | exact HV.out | (apply c_lit2; (focus (first | rfl | (simp; done) | (simp; omega))); (focus (first | omega | (simp; omega) | (apply Env.rbl (w0 := w0) (s := s); (focus (repeat (first | exact HE.out | apply Env.bump1 | apply Env.drewN | apply Env.alloc | apply Env.setop | apply Env.setcaps | apply Env.bumpE | apply Env.setbox hrn | (simp only [RX.St.bump]; omega) | omega))))))) | apply SlB.setrb | apply SlB.drewN | apply SlB.alloc)))))))
    all_goals (clear HE HO; (first | (simp_all [RX.escaped]; done) | (simp_all [RX.escaped, RX.St.bump]; done) | (simp_all [RX.escaped, RX.St.bump]; omega) | (simp only [RX.escaped, RX.St.bump] at *; omega) | skip))
theorem q_eql (w : World) (a : Option Addr) (n c n' c' : Nat) : (binOp .eql 23 (.slice a n c) (.slice none n' c')).run Try.prog w = .ok (.bool a.isNone) w := Lib.run_eql_slice_nil w _ _ a n c n' c' Try.underlying23
/-- A sort's ranges, or none. -/
def OptS (B : Nat) (w : World) (v : Value) : Option (List Int) → Prop
  | none => v = .slice none 0 0
  | some l => SlB 21 1 Cc B w v l ∧ ∃ g, v = .slice (some ⟨g, 0, none⟩) l.length l.length
theorem memb_mk {B : Nat} {w : World} {a x : Int} {u : Value} {o o' : Option (List Int)} (h : OptS B w u o) (ha : a = x) (e : o = o') : ∃ u', Value.tuple #[.int .i32 a, u] = .tuple #[.int .i32 x, u'] ∧ OptS B w u' o' := ⟨u, by rw [ha], e ▸ h⟩
theorem OptS.none_ {B : Nat} {w : World} : OptS B w (.slice none 0 0) none := rfl
theorem OptS.some_ {B : Nat} {w : World} {l : List Int} {g : Nat} (h : SlB 21 1 Cc B w (.slice (some ⟨g, 0, none⟩) l.length l.length) l) : OptS B w (.slice (some ⟨g, 0, none⟩) l.length l.length) (some l) := ⟨h, g, rfl⟩
theorem member_any (w : World) (st : RX.St) (he : Env w0 rb sv s w st) (ha : st.at_ ≤ 900) :
    Calls Try.prog 56 #[.pointer (some ⟨rb, 0, none⟩)] w (PostR (fun w' v => ∃ u, v = .tuple #[.int .i32 (RX.member s st).1, u] ∧ OptS (rb + 1) w' u (RX.member s st).2.1) rb sv w (RX.member s st).2.2 (st.at_ + 2)) := by
  have HE := Lib.hid he
  have HO := Lib.hid (Only.refl w rb)
  have c1 := he.rs.c1
  have f1 := he.rs.fr 1
  have hrb : rb + 1 ≤ w.heap.size := he.rbl
  clear he
  rcases hs1 : RX.sortR (RX.nxt s (st.bump 1) 0) with _ | l
  · have hs2 := hs1
    have hqe := q_eql
    go_enter Try.func56, Try.ntmps56
    go_wp2_with (first | (go_at_call 24; apply Calls.mono; apply ok_any (w0 := w0) (rb := rb) (sv := sv) (s := s); (focus (repeat (first | exact HE.out | apply Env.bump1 | apply Env.drewN | apply Env.alloc | apply Env.setop | apply Env.setcaps | apply Env.bumpE | apply Env.setbox hrn | (simp only [RX.St.bump]; omega) | omega))); rintro e w' ⟨rfl, n, rfl⟩) | (go_at_call 34; apply Calls.mono; apply peek_any (w0 := w0) (rb := rb) (sv := sv) (s := s); (focus (repeat (first | exact HE.out | apply Env.bump1 | apply Env.drewN | apply Env.alloc | apply Env.setop | apply Env.setcaps | apply Env.bumpE | apply Env.setbox hrn | (simp only [RX.St.bump]; omega) | omega))); (first | omega | (simp only [RX.St.bump] at *; omega)); rintro e w' ⟨rfl, n, rfl⟩) | (go_at_call 61; apply Calls.mono; apply must_any (w0 := w0) (rb := rb) (sv := sv) (s := s); (focus (repeat (first | exact HE.out | apply Env.bump1 | apply Env.drewN | apply Env.alloc | apply Env.setop | apply Env.setcaps | apply Env.bumpE | apply Env.setbox hrn | (simp only [RX.St.bump]; omega) | omega))); (first | omega | (simp only [RX.St.bump] at *; omega)); rintro e w' ⟨rfl, hr, ho, hb⟩; generalize hq : RX.must s _ = mq at hr hb ⊢; obtain ⟨mv, sq⟩ := mq; simp only at hr hb ⊢; (try simp only [RX.St.bump] at hb); have HE := Lib.hid (Env.step (by (focus (repeat (first | exact HE.out | apply Env.bump1 | apply Env.drewN | apply Env.alloc | apply Env.setop | apply Env.setcaps | apply Env.bumpE | apply Env.setbox hrn | (simp only [RX.St.bump]; omega) | omega)))) ho hr); have HO := Lib.hid (Only.trans (by (focus (repeat (first | exact HO.out | apply Only.set | apply Only.drewN | apply Only.alloc | apply Only.setNew hnw)))) ho); have c1 := hr.c1; have f1 := hr.fr 1; have c2 := hr.c2; have f2 := hr.fr 2; have c3 := hr.c3; have f3 := hr.fr 3; have hrl := heap_lt hr; clear hr ho) | (go_at_call 25; apply Calls.mono; apply fail_any (w0 := w0) (rb := rb) (sv := sv) (s := s); (focus (repeat (first | exact HE.out | apply Env.bump1 | apply Env.drewN | apply Env.alloc | apply Env.setop | apply Env.setcaps | apply Env.bumpE | apply Env.setbox hrn | (simp only [RX.St.bump]; omega) | omega))); rintro e w' ⟨rfl, hr, ho, hb⟩; generalize hq : RX.St.fail _ _ _ = sq at hr hb; (try simp only [RX.St.bump] at hb); have HE := Lib.hid (Env.step (by (focus (repeat (first | exact HE.out | apply Env.bump1 | apply Env.drewN | apply Env.alloc | apply Env.setop | apply Env.setcaps | apply Env.bumpE | apply Env.setbox hrn | (simp only [RX.St.bump]; omega) | omega)))) ho hr); have HO := Lib.hid (Only.trans (by (focus (repeat (first | exact HO.out | apply Only.set | apply Only.drewN | apply Only.alloc | apply Only.setNew hnw)))) ho); have c1 := hr.c1; have f1 := hr.fr 1; have c2 := hr.c2; have f2 := hr.fr 2; have c3 := hr.c3; have f3 := hr.fr 3; have hrl := heap_lt hr; clear hr ho) | (go_at_call 58; apply Calls.mono; apply sort_none; (first | exact hs1 | exact hs2); rintro e w' ⟨_, rfl, rfl, hx⟩; have HE := Lib.hid (Env.ext (by (focus (repeat (first | exact HE.out | apply Env.bump1 | apply Env.drewN | apply Env.alloc | apply Env.setop | apply Env.setcaps | apply Env.bumpE | apply Env.setbox hrn | (simp only [RX.St.bump]; omega) | omega)))) hx); have HO := Lib.hid (Only.trans (by (focus (repeat (first | exact HO.out | apply Only.set | apply Only.drewN | apply Only.alloc | apply Only.setNew hnw)))) (Only.of_ext hx rb)); have hr := HE.out.rs; have c1 := hr.c1; (try simp only [RX.St.bump] at c1); have f1 := hr.fr 1; have hrl := heap_lt hr; clear hx hr) | (go_at_call 59; apply Calls.mono; apply lower_any; rintro e w' ⟨rfl, n, rfl⟩) | (go_at_call 60; apply Calls.mono; apply sign_any; rintro e w' ⟨rfl, n, rfl⟩; generalize hg : RX.signR _ = sg))
    all_goals (try go_ret2)
    all_goals (apply PostR.of; ((apply Env.rs (w0 := w0) (s := s)); (focus (repeat (first | exact HE.out | apply Env.bump1 | apply Env.drewN | apply Env.alloc | apply Env.setop | apply Env.setcaps | apply Env.bumpE | apply Env.setbox hrn | (simp only [RX.St.bump]; omega) | omega)))); (focus (repeat (first | exact HO.out | apply Only.set | apply Only.drewN | apply Only.alloc | apply Only.setNew hnw))); (first | omega | (simp only [RX.St.bump] at *; omega)); apply memb_mk; apply OptS.none_)
    all_goals (try (rcases sg with _ | sg))
    all_goals (clear HE HO; (first | (simp_all [RX.member]; done) | (simp_all [RX.member, RX.St.bump]; done) | (simp_all [RX.member, RX.St.bump]; omega) | (simp only [RX.member, RX.St.bump] at *; omega) | skip))
  · have hs2 := hs1
    have hqe := q_eql
    go_enter Try.func56, Try.ntmps56
    go_wp2_with (first | (go_at_call 24; apply Calls.mono; apply ok_any (w0 := w0) (rb := rb) (sv := sv) (s := s); (focus (repeat (first | exact HE.out | apply Env.bump1 | apply Env.drewN | apply Env.alloc | apply Env.setop | apply Env.setcaps | apply Env.bumpE | apply Env.setbox hrn | (simp only [RX.St.bump]; omega) | omega))); rintro e w' ⟨rfl, n, rfl⟩) | (go_at_call 34; apply Calls.mono; apply peek_any (w0 := w0) (rb := rb) (sv := sv) (s := s); (focus (repeat (first | exact HE.out | apply Env.bump1 | apply Env.drewN | apply Env.alloc | apply Env.setop | apply Env.setcaps | apply Env.bumpE | apply Env.setbox hrn | (simp only [RX.St.bump]; omega) | omega))); (first | omega | (simp only [RX.St.bump] at *; omega)); rintro e w' ⟨rfl, n, rfl⟩) | (go_at_call 61; apply Calls.mono; apply must_any (w0 := w0) (rb := rb) (sv := sv) (s := s); (focus (repeat (first | exact HE.out | apply Env.bump1 | apply Env.drewN | apply Env.alloc | apply Env.setop | apply Env.setcaps | apply Env.bumpE | apply Env.setbox hrn | (simp only [RX.St.bump]; omega) | omega))); (first | omega | (simp only [RX.St.bump] at *; omega)); rintro e w' ⟨rfl, hr, ho, hb⟩; generalize hq : RX.must s _ = mq at hr hb ⊢; obtain ⟨mv, sq⟩ := mq; simp only at hr hb ⊢; (try simp only [RX.St.bump] at hb); have HE := Lib.hid (Env.step (by (focus (repeat (first | exact HE.out | apply Env.bump1 | apply Env.drewN | apply Env.alloc | apply Env.setop | apply Env.setcaps | apply Env.bumpE | apply Env.setbox hrn | (simp only [RX.St.bump]; omega) | omega)))) ho hr); have HO := Lib.hid (Only.trans (by (focus (repeat (first | exact HO.out | apply Only.set | apply Only.drewN | apply Only.alloc | apply Only.setNew hnw)))) ho); have c1 := hr.c1; have f1 := hr.fr 1; have c2 := hr.c2; have f2 := hr.fr 2; have c3 := hr.c3; have f3 := hr.fr 3; have hrl := heap_lt hr; clear hr ho) | (go_at_call 25; apply Calls.mono; apply fail_any (w0 := w0) (rb := rb) (sv := sv) (s := s); (focus (repeat (first | exact HE.out | apply Env.bump1 | apply Env.drewN | apply Env.alloc | apply Env.setop | apply Env.setcaps | apply Env.bumpE | apply Env.setbox hrn | (simp only [RX.St.bump]; omega) | omega))); rintro e w' ⟨rfl, hr, ho, hb⟩; generalize hq : RX.St.fail _ _ _ = sq at hr hb; (try simp only [RX.St.bump] at hb); have HE := Lib.hid (Env.step (by (focus (repeat (first | exact HE.out | apply Env.bump1 | apply Env.drewN | apply Env.alloc | apply Env.setop | apply Env.setcaps | apply Env.bumpE | apply Env.setbox hrn | (simp only [RX.St.bump]; omega) | omega)))) ho hr); have HO := Lib.hid (Only.trans (by (focus (repeat (first | exact HO.out | apply Only.set | apply Only.drewN | apply Only.alloc | apply Only.setNew hnw)))) ho); have c1 := hr.c1; have f1 := hr.fr 1; have c2 := hr.c2; have f2 := hr.fr 2; have c3 := hr.c3; have f3 := hr.fr 3; have hrl := heap_lt hr; clear hr ho) | (go_at_call 58; apply Calls.mono; apply sort_some; (first | exact hs1 | exact hs2); rintro e w' ⟨vs, rfl, ⟨hown, g, rfl⟩, hx⟩; have hown := OwnB.weak hown (show rb + 1 ≤ _ by (apply Env.rbl (w0 := w0) (s := s); (focus (repeat (first | exact HE.out | apply Env.bump1 | apply Env.drewN | apply Env.alloc | apply Env.setop | apply Env.setcaps | apply Env.bumpE | apply Env.setbox hrn | (simp only [RX.St.bump]; omega) | omega))))); have HV := Lib.hid hown.sl; have HE := Lib.hid (Env.ext (by (focus (repeat (first | exact HE.out | apply Env.bump1 | apply Env.drewN | apply Env.alloc | apply Env.setop | apply Env.setcaps | apply Env.bumpE | apply Env.setbox hrn | (simp only [RX.St.bump]; omega) | omega)))) hx); have HO := Lib.hid (Only.trans (by (focus (repeat (first | exact HO.out | apply Only.set | apply Only.drewN | apply Only.alloc | apply Only.setNew hnw)))) (Only.of_ext hx rb)); have hr := HE.out.rs; have c1 := hr.c1; (try simp only [RX.St.bump] at c1); have f1 := hr.fr 1; have hrl := heap_lt hr; clear hx hr hown) | (go_at_call 59; apply Calls.mono; apply lower_any; rintro e w' ⟨rfl, n, rfl⟩) | (go_at_call 60; apply Calls.mono; apply sign_any; rintro e w' ⟨rfl, n, rfl⟩; generalize hg : RX.signR _ = sg))
    all_goals (try go_ret2)
    all_goals (apply PostR.of; ((apply Env.rs (w0 := w0) (s := s)); (focus (repeat (first | exact HE.out | apply Env.bump1 | apply Env.drewN | apply Env.alloc | apply Env.setop | apply Env.setcaps | apply Env.bumpE | apply Env.setbox hrn | (simp only [RX.St.bump]; omega) | omega)))); (focus (repeat (first | exact HO.out | apply Only.set | apply Only.drewN | apply Only.alloc | apply Only.setNew hnw))); (first | omega | (simp only [RX.St.bump] at *; omega)); apply memb_mk; (first | apply OptS.none_ | (apply OptS.some_; (focus (repeat (first | exact HV.out | (apply c_lit2; (focus (first | rfl | (simp; done) | (simp; omega))); (focus (first | omega | (simp; omega) | (apply Env.rbl (w0 := w0) (s := s); (focus (repeat (first | exact HE.out | apply Env.bump1 | apply Env.drewN | apply Env.alloc | apply Env.setop | apply Env.setcaps | apply Env.bumpE | apply Env.setbox hrn | (simp only [RX.St.bump]; omega) | omega))))))) | apply SlB.setrb | apply SlB.drewN | apply SlB.alloc))))))
    all_goals (try (rcases sg with _ | sg))
    all_goals (clear HE HO; (first | (simp_all [RX.member]; done) | (simp_all [RX.member, RX.St.bump]; done) | (simp_all [RX.member, RX.St.bump]; omega) | (simp only [RX.member, RX.St.bump] at *; omega) | skip))
end
section
variable {w0 : World} {rb : Nat} {sv : Value} {s : List Int}
theorem one_cast : (1 : Int) = ((1 : Nat) : Int) ∧ 1 ≤ 2 := ⟨rfl, by decide⟩
theorem two_cast : (2 : Int) = ((2 : Nat) : Int) ∧ 2 ≤ 2 := ⟨rfl, by decide⟩
theorem three_cast : (0 : Int) = ((0 : Nat) : Int) ∧ 0 ≤ 2 := ⟨rfl, by decide⟩
theorem next_lit {k : Int} {n : Nat} {w : World} {st : RX.St} (hk : k = (n : Int) ∧ n ≤ 2) (he : Env w0 rb sv s w st) (ha : st.at_ ≤ 10000) :
    Calls Try.prog 40 #[.pointer (some ⟨rb, 0, none⟩), .int .i64 k] w (RetD (.int .i32 (RX.nxt s st n)) w) := hk.1 ▸ next_any n w st he hk.2 ha
theorem ranged_any (w : World) (st : RX.St) (he : Env w0 rb sv s w st) (ha : st.at_ ≤ 900) :
    Calls Try.prog 57 #[.pointer (some ⟨rb, 0, none⟩)] w (PostV (.bool (RX.ranged s st)) rb sv w st st.at_) := by
  have HE := Lib.hid he
  have HO := Lib.hid (Only.refl w rb)
  have c1 := he.rs.c1
  have f1 := he.rs.fr 1
  have hrb : rb + 1 ≤ w.heap.size := he.rbl
  clear he
  have hqe := q_eql
  rcases hs1 : RX.sortR (RX.nxt s st 2) with _ | l
  · have hs2 := hs1
    go_enter Try.func57, Try.ntmps57
    go_wp2_with (first | (go_at_call 34; apply Calls.mono; apply peek_any (w0 := w0) (rb := rb) (sv := sv) (s := s); (focus (repeat (first | exact HE.out | apply Env.bump1 | apply Env.drewN | apply Env.alloc | apply Env.setop | apply Env.setcaps | apply Env.bumpE | apply Env.setbox hrn | (simp only [RX.St.bump]; omega) | omega))); (first | omega | (simp only [RX.St.bump] at *; omega)); rintro e w' ⟨rfl, n, rfl⟩) | (go_at_call 40; apply Calls.mono; apply next_lit (w0 := w0) (rb := rb) (sv := sv) (s := s); (first | exact one_cast | exact two_cast | exact three_cast); (focus (repeat (first | exact HE.out | apply Env.bump1 | apply Env.drewN | apply Env.alloc | apply Env.setop | apply Env.setcaps | apply Env.bumpE | apply Env.setbox hrn | (simp only [RX.St.bump]; omega) | omega))); (first | omega | (simp only [RX.St.bump] at *; omega)); rintro e w' ⟨rfl, n, rfl⟩) | (go_at_call 58; apply Calls.mono; apply sort_none; (first | exact hs1 | exact hs2); rintro e w' ⟨_, rfl, rfl, hx⟩; have HE := Lib.hid (Env.ext (by (focus (repeat (first | exact HE.out | apply Env.bump1 | apply Env.drewN | apply Env.alloc | apply Env.setop | apply Env.setcaps | apply Env.bumpE | apply Env.setbox hrn | (simp only [RX.St.bump]; omega) | omega)))) hx); have HO := Lib.hid (Only.trans (by (focus (repeat (first | exact HO.out | apply Only.set | apply Only.drewN | apply Only.alloc | apply Only.setNew hnw)))) (Only.of_ext hx rb)); have hr := HE.out.rs; have c1 := hr.c1; (try simp only [RX.St.bump] at c1); have f1 := hr.fr 1; have hrl := heap_lt hr; clear hx hr))
    all_goals (try go_ret)
    all_goals (apply PostV.of; ((apply Env.rs (w0 := w0) (s := s)); (focus (repeat (first | exact HE.out | apply Env.bump1 | apply Env.drewN | apply Env.alloc | apply Env.setop | apply Env.setcaps | apply Env.bumpE | apply Env.setbox hrn | (simp only [RX.St.bump]; omega) | omega)))); (focus (repeat (first | exact HO.out | apply Only.set | apply Only.drewN | apply Only.alloc | apply Only.setNew hnw))); (first | omega | (simp only [RX.St.bump] at *; omega)))
    all_goals (clear HE HO; (first | (simp_all [RX.ranged]; done) | (simp_all [RX.ranged, RX.St.bump]; done) | (simp_all [RX.ranged, RX.St.bump]; omega) | (simp only [RX.ranged, RX.St.bump] at *; omega) | skip))
  · have hs2 := hs1
    go_enter Try.func57, Try.ntmps57
    go_wp2_with (first | (go_at_call 34; apply Calls.mono; apply peek_any (w0 := w0) (rb := rb) (sv := sv) (s := s); (focus (repeat (first | exact HE.out | apply Env.bump1 | apply Env.drewN | apply Env.alloc | apply Env.setop | apply Env.setcaps | apply Env.bumpE | apply Env.setbox hrn | (simp only [RX.St.bump]; omega) | omega))); (first | omega | (simp only [RX.St.bump] at *; omega)); rintro e w' ⟨rfl, n, rfl⟩) | (go_at_call 40; apply Calls.mono; apply next_lit (w0 := w0) (rb := rb) (sv := sv) (s := s); (first | exact one_cast | exact two_cast | exact three_cast); (focus (repeat (first | exact HE.out | apply Env.bump1 | apply Env.drewN | apply Env.alloc | apply Env.setop | apply Env.setcaps | apply Env.bumpE | apply Env.setbox hrn | (simp only [RX.St.bump]; omega) | omega))); (first | omega | (simp only [RX.St.bump] at *; omega)); rintro e w' ⟨rfl, n, rfl⟩) | (go_at_call 58; apply Calls.mono; apply sort_some; (first | exact hs1 | exact hs2); rintro e w' ⟨vs, rfl, ⟨hown, g, rfl⟩, hx⟩; have hown := OwnB.weak hown (show rb + 1 ≤ _ by (apply Env.rbl (w0 := w0) (s := s); (focus (repeat (first | exact HE.out | apply Env.bump1 | apply Env.drewN | apply Env.alloc | apply Env.setop | apply Env.setcaps | apply Env.bumpE | apply Env.setbox hrn | (simp only [RX.St.bump]; omega) | omega))))); have HV := Lib.hid hown.sl; have HE := Lib.hid (Env.ext (by (focus (repeat (first | exact HE.out | apply Env.bump1 | apply Env.drewN | apply Env.alloc | apply Env.setop | apply Env.setcaps | apply Env.bumpE | apply Env.setbox hrn | (simp only [RX.St.bump]; omega) | omega)))) hx); have HO := Lib.hid (Only.trans (by (focus (repeat (first | exact HO.out | apply Only.set | apply Only.drewN | apply Only.alloc | apply Only.setNew hnw)))) (Only.of_ext hx rb)); have hr := HE.out.rs; have c1 := hr.c1; (try simp only [RX.St.bump] at c1); have f1 := hr.fr 1; have hrl := heap_lt hr; clear hx hr hown))
    all_goals (try go_ret)
    all_goals (apply PostV.of; ((apply Env.rs (w0 := w0) (s := s)); (focus (repeat (first | exact HE.out | apply Env.bump1 | apply Env.drewN | apply Env.alloc | apply Env.setop | apply Env.setcaps | apply Env.bumpE | apply Env.setbox hrn | (simp only [RX.St.bump]; omega) | omega)))); (focus (repeat (first | exact HO.out | apply Only.set | apply Only.drewN | apply Only.alloc | apply Only.setNew hnw))); (first | omega | (simp only [RX.St.bump] at *; omega)))
    all_goals (clear HE HO; (first | (simp_all [RX.ranged]; done) | (simp_all [RX.ranged, RX.St.bump]; done) | (simp_all [RX.ranged, RX.St.bump]; omega) | (simp only [RX.ranged, RX.St.bump] at *; omega) | skip))
end
/-- A node that lies in a block of its own. -/
def BX (nb : Nat) (w : World) (cs : List Value) : Prop := w.heap[nb]? = some (.cells cs.toArray 47 (0, 0))
theorem BX.c {nb : Nat} {w : World} {cs : List Value} (h : BX nb w cs) (i : Nat) (u : Value) (hu : cs[i]? = some u) : w.cell? ⟨nb, i, none⟩ = some u :=
  (cell_of_row w nb i _ _ _ h).trans (by simpa using hu)
theorem BX.fr {nb : Nat} {w : World} {cs : List Value} (h : BX nb w cs) (o : Nat) : w.frozen? ⟨nb, o, none⟩ = false := frozen_of_row w nb o _ _ h
theorem BX.only {nb rb : Nat} {w w' : World} {cs : List Value} (h : BX nb w cs) (ho : Only w w' rb) (hne : rb < nb) : BX nb w' cs := (ho.block nb (heap_lt h) (by intro e; injection e with e; omega)).trans h
theorem BX.setrb {nb rb o : Nat} {w : World} {u : Value} {cs : List Value} (hne : rb < nb) (h : BX nb w cs) : BX nb (w.setCell ⟨rb, o, none⟩ u) cs := h.only ((Only.refl w rb).set u) hne
theorem BX.drewN {nb n : Nat} {w : World} {cs : List Value} (h : BX nb w cs) : BX nb (w.drewN n) cs := h
theorem BX.alloc {nb : Nat} {w : World} {o : Obj} {cs : List Value} (h : BX nb w cs) : BX nb (w.alloc o) cs := ((Ext.refl w).alloc o).heap h
theorem BX.new {nb : Nat} {w : World} {cs : List Value} (hnb : nb = w.heap.size) : BX nb (w.alloc (.cells cs.toArray 47)) cs := hnb ▸ heap_alloc_new w _
theorem Only.setNew {a w : World} {p nb o : Nat} {u : Value} (hn : a.heap.size ≤ nb) (h : Only a w p) : Only a (w.setCell ⟨nb, o, none⟩ u) p :=
  ⟨h.os, h.tape, h.output, by simpa using h.size, fun i hi hne => (Below.heap_setCell w ⟨nb, o, none⟩ u i (by rintro rfl; exact Nat.lt_irrefl _ (Nat.lt_of_lt_of_le hi hn))).trans (h.block i hi hne)⟩
theorem RS.setbox {rb nb o : Nat} {u : Value} {sv : Value} {w : World} {st : RX.St} (h : RS rb sv w st) (hn : rb < nb) : RS rb sv (w.setCell ⟨nb, o, none⟩ u) st :=
  (Below.heap_setCell w ⟨nb, o, none⟩ u rb (by rintro rfl; exact Nat.lt_irrefl _ hn)).trans h
theorem Env.setbox {w0 : World} {rb nb o : Nat} {u : Value} {sv : Value} {s : List Int} {w : World} {st : RX.St} (hn : rb < nb) (h : Env w0 rb sv s w st) : Env w0 rb sv s (w.setCell ⟨nb, o, none⟩ u) st :=
  ⟨h.1, h.2.1, h.2.2.1, h.2.2.2.1.only ((Only.refl w nb).set u) (Nat.le_trans h.2.1 (Nat.le_of_lt hn)), h.rs.setbox hn⟩
theorem l_lit {B nb : Nat} {w : World} {va : Value} {l : List RX.ReN} (hnb : nb = w.heap.size) (hb : B ≤ w.heap.size) (h : SlRe B B w va l) :
    SlB 36 1 (CL B) B (w.alloc (.cells #[va] 36)) (.slice (some ⟨nb, 0, none⟩) 1 1) [l] := by
  refine OwnB.sl (OwnB.lit _ [l] _ _ hnb rfl hb (by simp) (by simp) ?_)
  intro k y hy
  match k, hy with
  | 0, hy =>
    simp at hy; subst hy
    exact ⟨[va], ⟨va, rfl, h.keep (keeps_re B) (KeepT.of_ext ((Ext.refl w).alloc _)) (KeepT.of_ext ((Ext.refl w).alloc _))⟩, rfl, fun i u hu => by simpa using hu⟩
theorem KeepB.low {rb B : Nat} {w w' : World} (h : Only w w' rb) (hb : rb < B) : KeepB B w w' := fun g o hg ho => (h.block g (heap_lt ho) (by intro e; injection e with e; omega)).trans ho
theorem OwnB.keepB {α : Type} {t sz B : Nat} {C : World → List Value → α → Prop} {w w' : World} {v : Value} {xs : List α} (h : OwnB t sz C B w v xs) (hC : KeepsB B C) (hk : KeepB B w w') : OwnB t sz C B w' v xs := by
  obtain ⟨flat, hown, h2⟩ := h
  refine ⟨flat, ⟨hown.1, ?_⟩, fun k x hx => ?_⟩
  · rcases hown.2 with hn | ⟨g, cap, cur, hv, hb, hg, rest⟩
    · exact .inl hn
    · exact .inr ⟨g, cap, cur, hv, hb, hk g _ hb hg, rest⟩
  · obtain ⟨cs, h6, h7⟩ := h2 k x hx
    exact ⟨cs, hC _ _ _ _ hk h6, h7⟩
theorem OwnB.flat_i32 {B : Nat} {w : World} {v : Value} {xs : List Int} (h : OwnB 21 1 Cc B w v xs) : w.ownsRow B 21 1 v xs.length (xs.map (Value.int .i32)) := by
  obtain ⟨flat, hown, h2⟩ := h
  have e : flat = xs.map (Value.int .i32) := by
    apply List.ext_getElem?
    intro k
    rcases Nat.lt_or_ge k xs.length with hk | hk
    · obtain ⟨cs, h3, h4, h5⟩ := h2 k _ (List.getElem?_eq_getElem hk)
      have h3 : cs = _ := h3
      subst h3
      have h6 := h5 0 (.int .i32 xs[k]) rfl
      rw [Nat.mul_one, Nat.add_zero] at h6
      rw [h6, List.getElem?_map, List.getElem?_eq_getElem hk]; rfl
    · have hl := hown.1
      rw [List.getElem?_eq_none (by rw [hl]; omega), List.getElem?_eq_none (by simpa using hk)]
  exact e ▸ hown
theorem OwnB.of_flat_i32 {B : Nat} {w : World} {v : Value} {xs : List Int} (h : w.ownsRow B 21 1 v xs.length (xs.map (Value.int .i32))) : OwnB 21 1 Cc B w v xs :=
  ⟨_, h, fun k x hx => ⟨[.int .i32 x], rfl, rfl, fun i u hu => by
    match i, hu with
    | 0, hu => simp at hu; subst hu; simp [hx]⟩⟩
theorem cells_map {w : World} {ad : Addr} {ys : List Int} (hc : ∀ j y, ys[j]? = some y → w.cell? (ad.add j) = some (.int .i32 y)) : ∀ j u, (ys.map (Value.int .i32))[j]? = some u → w.cell? (ad.add j) = some u := by
  intro j u hu
  rw [List.getElem?_map, Option.map_eq_some_iff] at hu
  obtain ⟨y, hy, rfl⟩ := hu
  exact hc j y hy
section
variable {w : World} {ops : Array Oper} {rest : List Oper} {o : Oper} {a : Act} {Q : Exit → Act → World → Prop}
theorem app_i32 (hgd : o.guard = none) (s x : Operand) (ho : o.op = .call { callee := .builtin .append, args := #[s, x], argTypes := #[23, 23] })
    (B : Nat) (v : Value) (xs ys : List Int) (hown : OwnB 21 1 Cc B w v xs) (hs : a.eval s = v) (ad : Addr) (m c : Nat) (hx : a.eval x = .slice (some ad) m c) (hm : m = ys.length)
    (hc : ∀ j y, ys[j]? = some y → w.cell? (ad.add j) = some (.int .i32 y)) (hn : xs.length ≤ 1000000) (hn2 : ys.length ≤ 1000) (hB : B ≤ w.heap.size)
    (h : ∀ v' w', OwnB 21 1 Cc B w' v' (xs ++ ys) → w.grownBy w' v.ownBlock → wpList Try.prog ops Q rest (a.put o.dst v') w') :
    wpList Try.prog ops Q (o :: rest) a w := by
  subst hm
  obtain ⟨i0, hi, hz0, hz1, hz2⟩ := info_parts info_c
  refine wpList_append_own (P := Try.prog) (w := w) hgd s x _ ho B 21 i0 (.int .i32 0) 1 4 Try.underlying23 hi hz0 hz1 hz2 rfl (by decide) v xs.length _ hs hown.flat_i32 ad ys.length c (ys.map (Value.int .i32)) hx (by simp) ?_ ?_ (by unfold maxLen; omega) (by omega) hB ?_
  · exact cells_map hc
  · intro u hu
    simp at hu
    obtain ⟨y, _, rfl⟩ := hu
    rfl
  · intro v' w' h1 h2 _
    refine h v' w' (OwnB.of_flat_i32 ?_) h2
    rw [List.map_append, List.length_append]
    exact h1
end
/-- Behind an append to a row of one's own that lies beyond nb. -/
theorem Only.own {a w w' : World} {p nb : Nat} {v : Value} (h : Only a w p) (hk : w.grownBy w' v.ownBlock) (hv : ∀ k, v.ownBlock = some k → nb ≤ k) (hn : a.heap.size ≤ nb) : Only a w' p :=
  ⟨hk.os.trans h.os, hk.tape.trans h.tape, hk.output.trans h.output, Nat.le_trans h.size hk.size, fun i hi hne =>
    (hk.block i (Nat.lt_of_lt_of_le hi h.size) (by intro e; have := hv i e.symm; omega)).trans (h.block i hi hne)⟩
theorem Only.own2 {w w' : World} {nb : Nat} {v : Value} (hk : w.grownBy w' v.ownBlock) (hv : ∀ k, v.ownBlock = some k → nb ≤ k) : ∀ i, i < nb → i < w.heap.size → w'.heap[i]? = w.heap[i]? :=
  fun i hi hl => hk.block i hl (by intro e; have := hv i e.symm; omega)
theorem Env.own {w0 : World} {rb nb : Nat} {sv : Value} {s : List Int} {w w' : World} {st : RX.St} {v : Value} (he : Env w0 rb sv s w st) (hk : w.grownBy w' v.ownBlock) (hv : ∀ k, v.ownBlock = some k → nb ≤ k) (hn : rb < nb) : Env w0 rb sv s w' st :=
  ⟨he.1, he.2.1, he.2.2.1, he.2.2.2.1.grown hk (fun k hk' => by have := hv k hk'; have := he.2.1; omega), (hk.block rb he.rbl (by intro e; have := hv rb e.symm; omega)).trans he.rs⟩
theorem BX.own {nb b : Nat} {w w' : World} {cs : List Value} {v : Value} (h : BX nb w cs) (hk : w.grownBy w' v.ownBlock) (hv : ∀ k, v.ownBlock = some k → b ≤ k) (hn : nb < b) : BX nb w' cs :=
  (hk.block nb (heap_lt h) (by intro e; have := hv nb e.symm; omega)).trans h
theorem BX.put6 {nb : Nat} {w : World} {a b c d e f v v' : Value} (h : BX nb w [a, b, c, d, e, f, v]) : BX nb (w.setCell ⟨nb, 6, none⟩ v') [a, b, c, d, e, f, v'] := heap_set h
theorem BX.put5 {nb : Nat} {w : World} {a b c d e f f' v : Value} (h : BX nb w [a, b, c, d, e, f, v]) : BX nb (w.setCell ⟨nb, 5, none⟩ f') [a, b, c, d, e, f', v] := heap_set h
namespace RX
theorem nxt_lt {s : List Int} {st : St} {n : Nat} (h : nxt s st n ≠ -1) : st.at_ + n < s.length := by
  rcases Nat.lt_or_ge (st.at_ + n) s.length with h1 | h1
  · exact h1
  · exact absurd (by unfold nxt; rw [List.getElem?_eq_none h1]; rfl) h
theorem fail_not_ok {st : St} {c b : Int} (h : c ≠ 0) : (st.fail c b).ok = false := by
  unfold St.fail St.ok
  split
  · simpa using h
  · simpa using ‹¬st.code = 0›
theorem fail_at {st : St} {c b : Int} : (st.fail c b).at_ = st.at_ := by unfold St.fail; split <;> rfl
theorem member_prog {s : List Int} {st : St} : ((member s st).2.2.ok = true → st.at_ + 1 ≤ (member s st).2.2.at_ ∧ (member s st).2.2.at_ ≤ s.length) ∧ st.at_ ≤ (member s st).2.2.at_ ∧ (member s st).2.2.at_ ≤ st.at_ + 2 := by
  unfold member
  simp only
  split
  · rw [fail_not_ok (by decide), fail_at]; simp
  · rename_i h
    have h1 : nxt s st 0 ≠ -1 := fun e => h (.inl e)
    have h2 := nxt_lt h1
    split
    · split
      · rw [fail_not_ok (by decide), fail_at]; simp [St.bump]
      · rename_i h3
        have h4 : nxt s (st.bump 1) 0 ≠ -1 := by
          intro e; rw [e] at h3; exact h3 ⟨by decide, by decide⟩
        have h5 := nxt_lt h4
        simp [St.bump] at h5 ⊢
        omega
    · simp [St.bump]; omega
theorem classRound_prog {s : List Int} {st : St} {set : List Int} : ((classRound s st set).2.ok = true → st.at_ + 1 ≤ (classRound s st set).2.at_ ∧ (classRound s st set).2.at_ ≤ s.length) ∧ (classRound s st set).2.at_ ≤ st.at_ + 5 := by
  have hm := @member_prog s st
  unfold classRound
  cases hl : (member s st).2.1 with
  | some l => simp only [hl]; exact ⟨hm.1, by omega⟩
  | none =>
    simp only [hl]
    have hm2 := @member_prog s ((member s st).2.2.bump 1)
    by_cases hr : ((member s st).2.2.ok && ranged s (member s st).2.2) = true
    · simp only [hr, if_true]
      rw [Bool.and_eq_true] at hr
      have h1 := hm.1 hr.1
      simp only [St.bump] at hm2
      split
      · rw [fail_not_ok (by decide), fail_at]
        refine ⟨(fun h => nomatch h), ?_⟩
        simp only [St.bump]; omega
      · refine ⟨fun h => ?_, ?_⟩
        · have h2 := hm2.1 (by simpa [St.bump] using h)
          simp only [St.bump]; omega
        · simp only [St.bump]; omega
    · simp only [hr, Bool.false_eq_true, if_false]
      split
      · rw [fail_not_ok (by decide), fail_at]
        exact ⟨(fun h => nomatch h), by omega⟩
      · exact ⟨hm.1, by omega⟩
end RX
/-- An element of an own row, and its place. -/
theorem OwnB.get {B : Nat} {w : World} {A : Option Addr} {n c : Nat} {xs : List Int} (h : OwnB 21 1 Cc B w (.slice A n c) xs) {k : Nat} (hk : k < xs.length) :
    ∃ g, A = some ⟨g, 0, none⟩ ∧ B ≤ g ∧ w.cell? ⟨g, k, none⟩ = some (.int .i32 xs[k]) ∧ w.frozen? ⟨g, k, none⟩ = false ∧ ∀ y, OwnB 21 1 Cc B (w.setCell ⟨g, k, none⟩ (.int .i32 y)) (.slice A n c) (xs.set k y) := by
  have hf := h.flat_i32
  obtain ⟨hl, hf⟩ := hf
  rcases hf with ⟨hv, h0⟩ | ⟨g, cap, cur, hv, hb, hg, hnc, hcm, hcs, htk⟩
  · omega
  · injection hv with e1 e2 e3
    subst e1 e2 e3
    refine ⟨g, rfl, hb, ?_, frozen_of_row w g k _ _ hg, fun y => OwnB.of_flat_i32 ?_⟩
    · rw [cell_of_row w g k _ _ _ hg]
      have h1 : (cur.toList.take (xs.length * 1))[k]? = some (.int .i32 xs[k]) := by rw [htk]; simp [hk]
      rw [List.getElem?_take, if_pos (by omega)] at h1
      simpa using h1
    · rw [List.length_set]
      refine ⟨by simp, .inr ⟨g, c, cur.setIfInBounds k (.int .i32 y), rfl, hb, heap_set hg, hnc, hcm, by simpa using hcs, ?_⟩⟩
      rw [Array.toList_setIfInBounds, List.take_set, htk, List.map_set]
/-- Append of a row that is read by its cells alone. -/
theorem app_srcC {w : World} {ops : Array Oper} {rest : List Oper} {o : Oper} {a : Act} {Q : Exit → Act → World → Prop} (hgd : o.guard = none) (s x : Operand) (ho : o.op = .call { callee := .builtin .append, args := #[s, x], argTypes := #[23, 23] })
    (B : Nat) (v src : Value) (xs ys : List Int) (hown : OwnB 21 1 Cc B w v xs) (hs : a.eval s = v) (hx : a.eval x = src) (hsrc : SlC w src ys)
    (hn : xs.length + ys.length ≤ 35184372088832) (hB : B ≤ w.heap.size)
    (h : ∀ v' w', OwnB 21 1 Cc B w' v' (xs ++ ys) → w.grownBy w' v.ownBlock → wpList Try.prog ops Q rest (a.put o.dst v') w') :
    wpList Try.prog ops Q (o :: rest) a w := by
  obtain ⟨i0, hi, hz0, hz1, hz2⟩ := info_parts info_c
  obtain ⟨A, c, rfl, hl, hc, hcell, hn0⟩ := hsrc
  cases A with
  | none =>
    obtain rfl := hn0 rfl
    obtain rfl : ys = [] := by
      cases ys with
      | nil => rfl
      | cons y r =>
        obtain ⟨b, o, hA, -⟩ := hcell 0 y rfl
        cases hA
    refine wpList_append_own_none hgd s x 23 ho B 21 i0 1 Try.underlying23 hi v xs.length (xs.map (Value.int .i32)) hs hown.flat_i32 hx ?_
    exact h v w (by rw [List.append_nil]; exact hown) (World.grownBy.refl _ _)
  | some ad =>
    refine wpList_append_own (P := Try.prog) (w := w) hgd s x _ ho B 21 i0 (.int .i32 0) 1 4 Try.underlying23 hi hz0 hz1 hz2 rfl (by decide) v xs.length _ hs hown.flat_i32 ad ys.length c (ys.map (Value.int .i32)) hx (by simp) ?_ ?_ (by unfold maxLen; omega) (by omega) hB ?_
    · refine cells_map (fun j y hy => ?_)
      obtain ⟨b, o, hA, hr⟩ := hcell j y hy
      rw [Option.some.inj hA, Go.WideShapes.add_plain]
      rw [Nat.mul_one] at hr
      exact hr
    · intro u hu
      simp at hu
      obtain ⟨y, _, rfl⟩ := hu
      rfl
    · intro v' w' h1 h2 _
      refine h v' w' (OwnB.of_flat_i32 ?_) h2
      rw [List.map_append, List.length_append]
      exact h1
/-- What the document's own Case does to an element. -/
def caseF (how : Int) (i : Nat) (r : Int) : Int := if how = 1 ∨ (how = 3 ∧ i = 0) then RX.upper r else if how = 2 then RX.lower r else r
def caseR (how : Int) (s : List Int) : List Int := s.mapIdx (caseF how)
/-- The text so far. -/
def Casing (how : Int) (s xs : List Int) (k : Nat) : Prop := xs.length = s.length ∧ ∀ (i : Nat) (r : Int), s[i]? = some r → xs[i]? = some (if i < k then caseF how i r else r)
theorem Casing.zero (how : Int) (s : List Int) : Casing how s s 0 := ⟨rfl, fun i r h => by rw [if_neg (by omega)]; exact h⟩
theorem Casing.done {how : Int} {s xs : List Int} {k : Nat} (h : Casing how s xs k) (hk : s.length ≤ k) : xs = caseR how s := by
  apply List.ext_getElem?
  intro i
  unfold caseR
  rw [List.getElem?_mapIdx]
  rcases Nat.lt_or_ge i s.length with hi | hi
  · rw [h.2 i _ (List.getElem?_eq_getElem hi), if_pos (by omega), List.getElem?_eq_getElem hi]; rfl
  · rw [List.getElem?_eq_none (by have := h.1; omega), List.getElem?_eq_none hi]; rfl
theorem Casing.step {how : Int} {s xs : List Int} {k : Nat} {r : Int} (h : Casing how s xs k) (hr : s[k]? = some r) : Casing how s (xs.set k (caseF how k r)) (k + 1) := by
  obtain ⟨hk, -⟩ := List.getElem?_eq_some_iff.1 hr
  refine ⟨by rw [List.length_set]; exact h.1, fun i x hx => ?_⟩
  have h1 := h.1
  rw [List.getElem?_set]
  by_cases he : k = i
  · subst he
    rw [if_pos rfl, if_pos (by omega), if_pos (by omega)]
    rw [hr] at hx
    obtain rfl := Option.some.inj hx
    rfl
  · rw [if_neg he, h.2 i x hx]
    by_cases hlt : i < k
    · rw [if_pos hlt, if_pos (by omega)]
    · rw [if_neg hlt, if_neg (by omega)]
theorem Casing.skip {how : Int} {s xs : List Int} {k : Nat} {r : Int} (h : Casing how s xs k) (hr : s[k]? = some r) (hf : caseF how k r = r) : Casing how s xs (k + 1) := by
  have h1 := h.step hr
  rw [hf] at h1
  have h2 := h.2 k r hr
  rw [if_neg (by omega)] at h2
  have e : xs.set k r = xs := by
    apply List.ext_getElem?
    intro i
    rw [List.getElem?_set]
    split
    · rename_i e
      subst e
      split
      · exact h2.symm
      · rename_i h3
        rw [List.getElem?_eq_none (by omega)]
    · rfl
  rw [e] at h1
  exact h1
theorem OwnB.setlow {rb t o B : Nat} {u : Value} {w : World} {v : Value} {xs : List Int} (hb : rb < B) (h : OwnB t 1 Cc B w v xs) : OwnB t 1 Cc B (w.setCell ⟨rb, o, none⟩ u) v xs := h.keepB (keepsB_c _) (KeepB.low ((Only.refl w rb).set u) hb)
theorem OwnB.drewN {t n B : Nat} {w : World} {v : Value} {xs : List Int} (h : OwnB t 1 Cc B w v xs) : OwnB t 1 Cc B (w.drewN n) v xs := h
theorem OwnB.allocs {t B : Nat} {o : Obj} {w : World} {v : Value} {xs : List Int} (h : OwnB t 1 Cc B w v xs) : OwnB t 1 Cc B (w.alloc o) v xs := h.keepB (keepsB_c _) (fun _ _ _ ho => ((Ext.refl w).alloc _).heap ho)
theorem OwnB.low {rb t B : Nat} {w w' : World} {v : Value} {xs : List Int} (h : OwnB t 1 Cc B w v xs) (ho : Only w w' rb) (hb : rb < B) : OwnB t 1 Cc B w' v xs := h.keepB (keepsB_c _) (KeepB.low ho hb)
theorem two_cells {w : World} {nb : Nat} {a b : Int} {t : TypeId} (hnb : nb = w.heap.size) : ∀ j y, [a, b][j]? = some y → (w.alloc (.cells #[.int .i32 a, .int .i32 b] t)).cell? ((⟨nb, 0, none⟩ : Addr).add j) = some (.int .i32 y) := by
  subst hnb
  intro j y hy
  refine news_all w [.int .i32 a, .int .i32 b] t j _ ?_
  match j, hy with
  | 0, hy => simp at hy; subst hy; rfl
  | 1, hy => simp at hy; subst hy; rfl
theorem SlB.add {t B n c : Nat} {w : World} {ad : Addr} {xs : List Int} (h : SlB t 1 Cc B w (.slice (some ad) n c) xs) : ∀ j y, xs[j]? = some y → w.cell? (ad.add j) = some (.int .i32 y) := by
  intro j y hy
  have hj : j < xs.length := by
    rcases Nat.lt_or_ge j xs.length with h | h
    · exact h
    · rw [List.getElem?_eq_none h] at hy; cases hy
  obtain ⟨g, o, cs, h1, h2, h3⟩ := h.at_ hj
  injection h1 with h1
  subst h1
  have h2 : cs = _ := h2
  subst h2
  have h4 := h3 0 _ rfl
  rw [List.getElem?_eq_getElem hj] at hy
  injection hy with hy
  subst hy
  rw [Nat.mul_one, Nat.add_zero] at h4
  have : (⟨g, o, none⟩ : Addr).add j = ⟨g, o + j, none⟩ := by unfold Addr.add; simp
  rw [this]
  exact h4
section
variable {w0 : World} {rb : Nat} {sv : Value} {s : List Int}
theorem member_none {w : World} {st : RX.St} (he : Env w0 rb sv s w st) (ha : st.at_ ≤ 900) (h : (RX.member s st).2.1 = none) :
    Calls Try.prog 56 #[.pointer (some ⟨rb, 0, none⟩)] w (PostR (fun _ v => v = .tuple #[.int .i32 (RX.member s st).1, .slice none 0 0]) rb sv w (RX.member s st).2.2 (st.at_ + 2)) := by
  refine (member_any w st he ha).mono ?_
  rintro e w' ⟨v, rfl, ⟨u, rfl, hu⟩, hr⟩
  rw [h] at hu
  have hu : u = _ := hu
  subst hu
  exact ⟨_, rfl, rfl, hr⟩
theorem member_some {w : World} {st : RX.St} {l : List Int} (he : Env w0 rb sv s w st) (ha : st.at_ ≤ 900) (h : (RX.member s st).2.1 = some l) :
    Calls Try.prog 56 #[.pointer (some ⟨rb, 0, none⟩)] w (PostR (fun w' v => ∃ g, v = .tuple #[.int .i32 (RX.member s st).1, .slice (some ⟨g, 0, none⟩) l.length l.length] ∧ SlB 21 1 Cc (rb + 1) w' (.slice (some ⟨g, 0, none⟩) l.length l.length) l) rb sv w (RX.member s st).2.2 (st.at_ + 2)) := by
  refine (member_any w st he ha).mono ?_
  rintro e w' ⟨v, rfl, ⟨u, rfl, hu⟩, hr⟩
  rw [h] at hu
  obtain ⟨h1, g, rfl⟩ := hu
  exact ⟨_, rfl, ⟨g, rfl, h1⟩, hr⟩
/-- Inside of class: the reader, the node's box, its set. -/
structure Cst (w0 : World) (rb nb : Nat) (sv : Value) (s : List Int) (neg : Bool) (w : World) (st : RX.St) (set : List Int) (vs : Value) (wr : World) : Prop where
  env : Env w0 rb sv s wr st
  only : Only w wr rb
  box : BX nb wr [.int .i64 2, .int .i64 0, .int .i64 0, .int .i64 0, .bool false, .bool neg, vs]
  own : OwnB 21 1 Cc (nb + 1) wr vs set
  lt : rb < nb
  le : w.heap.size ≤ nb
variable {nb : Nat} {neg : Bool} {w wr w' : World} {st st' : RX.St} {set : List Int} {vs : Value}
theorem Cst.drewN {n : Nat} (h : Cst w0 rb nb sv s neg w st set vs wr) : Cst w0 rb nb sv s neg w st set vs (wr.drewN n) := ⟨h.env.drewN n, h.only.drewN n, h.box.drewN, h.own.drewN, h.lt, h.le⟩
theorem Cst.bump (h : Cst w0 rb nb sv s neg w st set vs wr) : Cst w0 rb nb sv s neg w (st.bump 1) set vs (wr.setCell ⟨rb, 1, none⟩ (.int .i64 ((st.at_ : Int) + 1))) :=
  ⟨h.env.bump1, h.only.set _, h.box.setrb h.lt, h.own.setlow (by have := h.lt; omega), h.lt, h.le⟩
theorem Cst.alloc {o : Obj} (h : Cst w0 rb nb sv s neg w st set vs wr) : Cst w0 rb nb sv s neg w st set vs (wr.alloc o) := ⟨h.env.alloc o, h.only.alloc o, h.box.alloc, h.own.allocs, h.lt, h.le⟩
theorem Cst.call (h : Cst w0 rb nb sv s neg w st set vs wr) (hr : RS rb sv w' st') (ho : Only wr w' rb) : Cst w0 rb nb sv s neg w st' set vs w' :=
  ⟨h.env.step ho hr, h.only.trans ho, h.box.only ho h.lt, h.own.low ho (by have := h.lt; omega), h.lt, h.le⟩
theorem Cst.c1 (h : Cst w0 rb nb sv s neg w st set vs wr) : wr.cell? ⟨rb, 1, none⟩ = some (.int .i64 st.at_) := h.env.rs.c1
theorem Cst.f1 (h : Cst w0 rb nb sv s neg w st set vs wr) : wr.frozen? ⟨rb, 1, none⟩ = false := h.env.rs.fr 1
theorem Cst.d6 (h : Cst w0 rb nb sv s neg w st set vs wr) : wr.cell? ⟨nb, 6, none⟩ = some vs := h.box.c 6 _ rfl
theorem Cst.e6 (h : Cst w0 rb nb sv s neg w st set vs wr) : wr.frozen? ⟨nb, 6, none⟩ = false := h.box.fr 6
theorem Cst.nbl (h : Cst w0 rb nb sv s neg w st set vs wr) : nb < wr.heap.size := heap_lt h.box
theorem Cst.rbl (h : Cst w0 rb nb sv s neg w st set vs wr) : rb < wr.heap.size := heap_lt h.env.rs
theorem Cst.own_lt (h : Cst w0 rb nb sv s neg w st set vs wr) : ∀ k, vs.ownBlock = some k → nb + 1 ≤ k := fun k hk => (h.own.lt k hk).1
/-- Behind an append, ahead of its store. -/
theorem Cst.app {v' : Value} {set' : List Int} (h : Cst w0 rb nb sv s neg w st set vs wr) (h1 : OwnB 21 1 Cc (nb + 1) w' v' set') (h2 : wr.grownBy w' vs.ownBlock) :
    Cst w0 rb nb sv s neg w st set' v' (w'.setCell ⟨nb, 6, none⟩ v') ∧ w'.cell? ⟨nb, 6, none⟩ = some vs ∧ w'.frozen? ⟨nb, 6, none⟩ = false := by
  have hb := h.box.own (b := nb + 1) h2 h.own_lt (by omega)
  have he := Env.own (nb := nb + 1) h.env h2 h.own_lt (by have := h.lt; omega)
  have ho := Only.own (nb := nb + 1) h.only h2 h.own_lt (by have := h.le; omega)
  exact ⟨⟨Env.setbox h.lt he, Only.setNew h.le ho, hb.put6, OwnB.setlow (by omega) h1, h.lt, h.le⟩, hb.c 6 _ rfl, hb.fr 6⟩
theorem cls_b {a : Bool} {l : List Int} {x : Int} (h : a = true) (hz : ((l.length : Int) == 0) = true) : true = (a && (l.isEmpty || decide (x ≠ 93))) := by
  have : l = [] := List.eq_nil_of_length_eq_zero (by have := beq_iff_eq.1 hz; omega)
  rw [h, this]; rfl
theorem cls_c {a : Bool} {l : List Int} {x : Int} (h : a = true) (hz : ((l.length : Int) == 0) = false) : (x != 93) = (a && (l.isEmpty || decide (x ≠ 93))) := by
  rw [h]
  cases l with
  | nil => simp at hz
  | cons a l => simp [bne]; rfl
theorem classR_any (w : World) (st : RX.St) (he : Env w0 rb sv s w st) (ha : st.at_ ≤ s.length) (h9 : st.caps ≤ 9) :
    Calls Try.prog 47 #[.pointer (some ⟨rb, 0, none⟩)] w (PostR (fun w' v => SlRe (rb + 1) (rb + 1) w' v (RX.classP s st).1) rb sv w (RX.classP s st).2 (s.length + 1)) := by
  have hl60 := he.len
  have hrb : rb + 1 ≤ w.heap.size := he.rbl
  obtain ⟨nb, hnb⟩ : ∃ nb, nb = w.heap.size := ⟨_, rfl⟩
  have hrn : rb < nb := by omega
  have hfw := RX.classP_fwd (s := s) ha h9
  have HF := Lib.hid hfw
  have HE := Lib.hid he
  have HC := Lib.hid (show Cst w0 rb nb sv s false w st [] (.slice none 0 0) (w.alloc (.cells [Value.int .i64 2, .int .i64 0, .int .i64 0, .int .i64 0, .bool false, .bool false, .slice none 0 0].toArray 47)) from
    ⟨he.alloc _, (Only.refl w rb).alloc _, BX.new hnb, OwnB.nil_, hrn, by omega⟩)
  clear he hfw
  obtain ⟨ng, hng⟩ : ∃ ng, ng = decide (RX.nxt s st 0 = 94) := ⟨_, rfl⟩
  obtain ⟨st1, hst1⟩ : ∃ st1, st1 = if decide (RX.nxt s st 0 = 94) = true then st.bump 1 else st := ⟨_, rfl⟩
  have HG := Lib.hid hng
  have H1 := Lib.hid hst1
  have h1a : st1.at_ ≤ s.length := by
    rw [hst1]; split
    · rename_i h; exact RX.nxt_in (k := 0) (by have := of_decide_eq_true h; omega)
    · exact ha
  have h19 : st1.caps ≤ 9 := by rw [hst1]; split <;> exact h9
  clear hng hst1
  go_enter Try.func47, Try.ntmps47
  go_wp2_with fail
  rw [← hnb]
  clear hnb
  generalize hwb : w.alloc _ = wb at HC ⊢
  clear hwb
  have c1 := HC.out.c1
  have f1 := HC.out.f1
  have e5 := HC.out.box.fr 5
  have d5 := HC.out.box.c 5 _ rfl
  have hrl := HC.out.rbl
  have hnl := HC.out.nbl
  go_upto_if 11 with (first | (go_at_call 34; apply Calls.mono; apply peek_any (w0 := w0) (rb := rb) (sv := sv) (s := s); (apply Cst.env; (focus (repeat (first | exact HC.out | apply Cst.drewN | apply Cst.bump | apply Cst.alloc)))); (first | omega | (simp only [RX.St.bump] at *; omega)); rintro e w' ⟨rfl, n, rfl⟩))
  go_cut [] (fun wx => Cst w0 rb nb sv s ng w st1 [] (.slice none 0 0) wx)
  case first =>
    rcases h94 : (RX.nxt s st 0 == 94) with _ | _
    · go_wp2_with fail
      go_meet
      have h94' : ¬ RX.nxt s st 0 = 94 := by simpa using h94
      rw [HG.out, H1.out, decide_eq_false h94', if_neg (by decide)]
      exact (by (focus (repeat (first | exact HC.out | apply Cst.drewN | apply Cst.bump | apply Cst.alloc))))
    · have h94' : RX.nxt s st 0 = 94 := by simpa using h94
      clear h94
      go_wp2_with fail
      go_meet
      rw [HG.out, H1.out, decide_eq_true h94', if_pos rfl]
      have HB := HC.out
      exact ⟨((HB.env.drewN _).setbox (nb := nb) (o := 5) (u := .bool true) hrn).bump1, ((HB.only.drewN _).setNew HB.le).set _, BX.setrb hrn (BX.put5 (BX.drewN HB.box)), OwnB.nil_, hrn, HB.le⟩
  case rest =>
    have HC := Lib.hid hcut
    clear hcut c1 f1 e5 d5 hrl hnl
    obtain ⟨R, hR⟩ : ∃ R, RX.classLoop s (s.length + 2 - st1.at_) st1 [] = R := ⟨_, rfl⟩
    have HR := Lib.hid hR
    have hf0 := RX.classLoop_fwd (s := s) (s.length + 2 - st1.at_) (set := []) h1a h19
    clear hR
    go_wp2_with fail
    go_loopg [4, 5, 6, 7] (s.length + 2 - st1.at_) (fun k _ _ _ _ wr => ∃ (st' : RX.St) (set' : List Int) (vs : Value), Cst w0 rb nb sv s ng w st' set' vs wr ∧ RX.classLoop s k st' set' = R ∧ st'.at_ ≤ s.length ∧ st'.caps ≤ 9 ∧ (st'.ok = true → s.length + 1 ≤ k + st'.at_) ∧ set'.length + 8 * k ≤ 1000)
    case atStart => exact ⟨st1, [], _, (by (focus (repeat (first | exact HC.out | apply Cst.drewN | apply Cst.bump | apply Cst.alloc)))), HR.out, h1a, h19, by intro _; omega, by simp; omega⟩
    case round =>
      obtain ⟨st', set', vs, hcs, hcl, hat, hcp, hrd, hsl⟩ := hrel
      have HC := Lib.hid hcs
      have HL := Lib.hid hcl
      have HD := Lib.hid hrd
      obtain ⟨As, cs, rfl, hcs1, hcm⟩ := hcs.own.form
      clear hcs hcl hrd
      have c1 := HC.out.c1; have f1 := HC.out.f1; have d6 := HC.out.d6; have e6 := HC.out.e6; have hrl := HC.out.rbl; have hnl := HC.out.nbl
      have d6 : wr.cell? ⟨nb, 6, none⟩ = some _ := HC.out.d6
      go_upto_region 5 with fail
      go_cut [32] (fun s32 wx => ∃ b n, s32 = .bool b ∧ b = (st'.ok && (set'.isEmpty || decide (RX.nxt s st' 0 ≠ 93))) ∧ wx = wr.drewN n)
      case first =>
        rcases hok : st'.ok with _ | _
        · go_wp2_with (first | (go_at_call 24; apply Calls.mono; apply ok_any (w0 := w0) (rb := rb) (sv := sv) (s := s); (apply Cst.env; (focus (repeat (first | exact HC.out | apply Cst.drewN | apply Cst.bump | apply Cst.alloc)))); rintro e w' ⟨rfl, n, rfl⟩))
          go_meet
          exact ⟨_, _, rfl, by rw [hok]; rfl, rfl⟩
        rcases hz : ((set'.length : Int) == 0) with _ | _
        · go_wp2_with (first | (go_at_call 24; apply Calls.mono; apply ok_any (w0 := w0) (rb := rb) (sv := sv) (s := s); (apply Cst.env; (focus (repeat (first | exact HC.out | apply Cst.drewN | apply Cst.bump | apply Cst.alloc)))); rintro e w' ⟨rfl, n, rfl⟩) | (go_at_call 34; apply Calls.mono; apply peek_any (w0 := w0) (rb := rb) (sv := sv) (s := s); (apply Cst.env; (focus (repeat (first | exact HC.out | apply Cst.drewN | apply Cst.bump | apply Cst.alloc)))); (first | omega | (simp only [RX.St.bump] at *; omega)); rintro e w' ⟨rfl, n, rfl⟩))
          go_meet
          exact ⟨_, _, rfl, cls_c hok hz, rfl⟩
        · go_wp2_with (first | (go_at_call 24; apply Calls.mono; apply ok_any (w0 := w0) (rb := rb) (sv := sv) (s := s); (apply Cst.env; (focus (repeat (first | exact HC.out | apply Cst.drewN | apply Cst.bump | apply Cst.alloc)))); rintro e w' ⟨rfl, n, rfl⟩))
          go_meet
          exact ⟨_, _, rfl, cls_b hok hz, rfl⟩
      case rest =>
        obtain ⟨b, n, rfl, hb, rfl⟩ := hcut
        have HB := Lib.hid hb
        clear hb
        rcases b with _ | _
        · have d0 := HC.out.box.c 0 _ rfl
          have d1 := HC.out.box.c 1 _ rfl
          have d2 := HC.out.box.c 2 _ rfl
          have d3 := HC.out.box.c 3 _ rfl
          have d4 := HC.out.box.c 4 _ rfl
          have d5 := HC.out.box.c 5 _ rfl
          go_wp2_with fail
          go_ret
          have HCX := Cst.alloc (o := .cells #[.int .i64 2, .int .i64 0, .int .i64 0, .int .i64 0, .bool false, .bool ng, .slice As set'.length cs] 47) (Cst.bump (Cst.drewN (n := n) HC.out))
          have hR : R = (set', st') := by rw [← HL.out, RX.classLoop_off HB.out.symm]
          have hP : RX.classP s st = ([RX.node 2 0 0 false ng R.1], R.2.bump 1) := by rw [HG.out, ← HR.out, H1.out]; rfl
          rw [hR] at hP
          rw [hP]
          refine PostR.of HCX.env.rs HCX.only ?_ ?_ rfl
          · show st'.at_ + 1 ≤ _; omega
          · refine re_lit _ (RX.node 2 0 0 false ng set') _ _ (by simp) (by simp; omega) (CR.mk ?_)
            have h1 := (Cst.bump (Cst.drewN (n := n) HC.out)).own.sl
            exact SlB.weaken h1 (by omega)
        · obtain ⟨k, rfl⟩ : ∃ k, gk = k + 1 := by
            have h0 := HB.out.symm
            simp only [Bool.and_eq_true] at h0
            have := HD.out h0.1
            exact ⟨gk - 1, by omega⟩
          have hfw := RX.classRound_fwd (s := s) (set := set') hat hcp
          have hmo := RX.classRound_more (s := s) (set := set') hat hcp
          have hle := RX.classRound_len (s := s) st' set'
          have HK := Lib.hid (show RX.classLoop s k (RX.classRound s st' set').2 (RX.classRound s st' set').1 = R by rw [← HL.out, RX.classLoop_on HB.out.symm])
          have hok1 : st'.ok = true := by
            have h0 := HB.out.symm
            simp only [Bool.and_eq_true] at h0
            exact h0.1
          have hn := HD.out hok1
          rcases hm1 : (RX.member s st').2.1 with _ | l
          · rw [RX.classRound_one hm1] at hfw hmo hle HK
            have hre := RX.rangeEnd_fwd (s := s) hat hcp
            have hme := RX.member_fwd (s := s) hat hcp
            have HX := Lib.hid (And.intro hfw (And.intro hmo (And.intro hle (And.intro hre hme))))
            have h3 : (RX.member s st').2.2.at_ ≤ s.length := hme.hi
            have h4 : (RX.rangeEnd s st').2.at_ ≤ s.length := hre.hi
            clear hfw hmo hle hre hme hok1
            go_upto_region 11 with (first | (go_at_call 56; apply Calls.mono; apply member_none (w0 := w0) (rb := rb) (sv := sv) (s := s); (apply Cst.env; (focus (repeat (first | exact HC.out | apply Cst.drewN | apply Cst.bump | apply Cst.alloc)))); (first | omega | (simp only [RX.St.bump] at *; omega)); exact hm1; rintro e w' ⟨_, rfl, rfl, hr, ho, hb⟩; have HC := Lib.hid (Cst.call (by (focus (repeat (first | exact HC.out | apply Cst.drewN | apply Cst.bump | apply Cst.alloc)))) hr ho); have c1 := HC.out.c1; have f1 := HC.out.f1; have d6 := HC.out.d6; have e6 := HC.out.e6; have hrl := HC.out.rbl; have hnl := HC.out.nbl; clear hr ho hb))
            go_cut [55] (fun s55 wx => ∃ b, s55 = .bool b ∧ b = ((RX.member s st').2.2.ok && RX.ranged s (RX.member s st').2.2) ∧ Cst w0 rb nb sv s ng w (RX.member s st').2.2 set' (.slice As set'.length cs) wx)
            case first =>
              rcases hok : (RX.member s st').2.2.ok with _ | _
              · go_wp2_with (first | (go_at_call 24; apply Calls.mono; apply ok_any (w0 := w0) (rb := rb) (sv := sv) (s := s); (apply Cst.env; (focus (repeat (first | exact HC.out | apply Cst.drewN | apply Cst.bump | apply Cst.alloc)))); rintro e w' ⟨rfl, n, rfl⟩) | (go_at_call 57; apply Calls.mono; apply ranged_any (w0 := w0) (rb := rb) (sv := sv) (s := s); (apply Cst.env; (focus (repeat (first | exact HC.out | apply Cst.drewN | apply Cst.bump | apply Cst.alloc)))); (first | omega | (simp only [RX.St.bump] at *; omega)); rintro e w' ⟨rfl, hr, ho, hb⟩; have HC := Lib.hid (Cst.call (by (focus (repeat (first | exact HC.out | apply Cst.drewN | apply Cst.bump | apply Cst.alloc)))) hr ho); have c1 := HC.out.c1; have f1 := HC.out.f1; have d6 := HC.out.d6; have e6 := HC.out.e6; have hrl := HC.out.rbl; have hnl := HC.out.nbl; clear hr ho hb))
                go_meet
                exact ⟨_, rfl, by rw [hok]; rfl, (by (focus (repeat (first | exact HC.out | apply Cst.drewN | apply Cst.bump | apply Cst.alloc))))⟩
              · go_wp2_with (first | (go_at_call 24; apply Calls.mono; apply ok_any (w0 := w0) (rb := rb) (sv := sv) (s := s); (apply Cst.env; (focus (repeat (first | exact HC.out | apply Cst.drewN | apply Cst.bump | apply Cst.alloc)))); rintro e w' ⟨rfl, n, rfl⟩) | (go_at_call 57; apply Calls.mono; apply ranged_any (w0 := w0) (rb := rb) (sv := sv) (s := s); (apply Cst.env; (focus (repeat (first | exact HC.out | apply Cst.drewN | apply Cst.bump | apply Cst.alloc)))); (first | omega | (simp only [RX.St.bump] at *; omega)); rintro e w' ⟨rfl, hr, ho, hb⟩; have HC := Lib.hid (Cst.call (by (focus (repeat (first | exact HC.out | apply Cst.drewN | apply Cst.bump | apply Cst.alloc)))) hr ho); have c1 := HC.out.c1; have f1 := HC.out.f1; have d6 := HC.out.d6; have e6 := HC.out.e6; have hrl := HC.out.rbl; have hnl := HC.out.nbl; clear hr ho hb))
                go_meet
                exact ⟨_, rfl, by rw [hok]; rfl, (by (focus (repeat (first | exact HC.out | apply Cst.drewN | apply Cst.bump | apply Cst.alloc))))⟩
            case rest =>
              obtain ⟨b, rfl, hb, hcs⟩ := hcut
              have HC := Lib.hid hcs
              have HB2 := Lib.hid hb
              clear hb hcs
              have c1 := HC.out.c1; have f1 := HC.out.f1; have d6 := HC.out.d6; have e6 := HC.out.e6; have hrl := HC.out.rbl; have hnl := HC.out.nbl
              go_upto_if 55 with fail
              go_cut [7] (fun s7 wx => s7 = .int .i32 (RX.rangeEnd s st').1 ∧ Cst w0 rb nb sv s ng w (RX.rangeEnd s st').2 set' (.slice As set'.length cs) wx)
              case first =>
                rcases b with _ | _
                · have HY := Lib.hid (show RX.rangeEnd s st' = ((RX.member s st').1, (RX.member s st').2.2) by unfold RX.rangeEnd; rw [← HB2.out]; rfl)
                  go_wp2_with fail
                  go_meet
                  rw [HY.out]
                  exact ⟨rfl, (by (focus (repeat (first | exact HC.out | apply Cst.drewN | apply Cst.bump | apply Cst.alloc))))⟩
                · have HY := Lib.hid (show RX.rangeEnd s st' = ((RX.member s ((RX.member s st').2.2.bump 1)).1, (RX.member s ((RX.member s st').2.2.bump 1)).2.2) by unfold RX.rangeEnd; rw [← HB2.out]; rfl)
                  go_wp2_with (first | (go_at_call 56; apply Calls.mono; apply member_any (w0 := w0) (rb := rb) (sv := sv) (s := s); (apply Cst.env; (focus (repeat (first | exact HC.out | apply Cst.drewN | apply Cst.bump | apply Cst.alloc)))); (first | omega | (simp only [RX.St.bump] at *; omega)); rintro e w' ⟨_, rfl, ⟨u2, rfl, _⟩, hr, ho, hb⟩; have HC := Lib.hid (Cst.call (by (focus (repeat (first | exact HC.out | apply Cst.drewN | apply Cst.bump | apply Cst.alloc)))) hr ho); have c1 := HC.out.c1; have f1 := HC.out.f1; have d6 := HC.out.d6; have e6 := HC.out.e6; have hrl := HC.out.rbl; have hnl := HC.out.nbl; clear hr ho hb))
                  go_meet
                  rw [HY.out]
                  exact ⟨rfl, (by (focus (repeat (first | exact HC.out | apply Cst.drewN | apply Cst.bump | apply Cst.alloc))))⟩
              case rest =>
                obtain ⟨rfl, hcs⟩ := hcut
                have HC := Lib.hid hcs
                clear hcs c1 f1 d6 e6 hrl hnl
                go_upto_region 14 with fail
                go_cut [74] (fun s74 wx => ∃ b, s74 = .bool b ∧ b = ((RX.rangeEnd s st').2.ok && decide ((RX.rangeEnd s st').1 < (RX.member s st').1)) ∧ Cst w0 rb nb sv s ng w (RX.rangeEnd s st').2 set' (.slice As set'.length cs) wx)
                case first =>
                  rcases hok : (RX.rangeEnd s st').2.ok with _ | _
                  · go_wp2_with (first | (go_at_call 24; apply Calls.mono; apply ok_any (w0 := w0) (rb := rb) (sv := sv) (s := s); (apply Cst.env; (focus (repeat (first | exact HC.out | apply Cst.drewN | apply Cst.bump | apply Cst.alloc)))); rintro e w' ⟨rfl, n, rfl⟩))
                    go_meet
                    exact ⟨_, rfl, by rw [hok]; rfl, (by (focus (repeat (first | exact HC.out | apply Cst.drewN | apply Cst.bump | apply Cst.alloc))))⟩
                  · go_wp2_with (first | (go_at_call 24; apply Calls.mono; apply ok_any (w0 := w0) (rb := rb) (sv := sv) (s := s); (apply Cst.env; (focus (repeat (first | exact HC.out | apply Cst.drewN | apply Cst.bump | apply Cst.alloc)))); rintro e w' ⟨rfl, n, rfl⟩))
                    go_meet
                    exact ⟨_, rfl, by rw [hok]; rfl, (by (focus (repeat (first | exact HC.out | apply Cst.drewN | apply Cst.bump | apply Cst.alloc))))⟩
                case rest =>
                  obtain ⟨b, rfl, hb, hcs⟩ := hcut
                  have HC := Lib.hid hcs
                  have HB3 := Lib.hid hb
                  clear hb hcs
                  go_upto_if 74 with fail
                  go_cut [] (fun wx => Cst w0 rb nb sv s ng w (if (RX.rangeEnd s st').2.ok = true ∧ (RX.rangeEnd s st').1 < (RX.member s st').1 then (RX.rangeEnd s st').2.fail 5 st'.at_ else (RX.rangeEnd s st').2) set' (.slice As set'.length cs) wx)
                  case first =>
                    rcases b with _ | _
                    · have HY := Lib.hid (show ¬ ((RX.rangeEnd s st').2.ok = true ∧ (RX.rangeEnd s st').1 < (RX.member s st').1) by have := HB3.out; intro h; rw [h.1, decide_eq_true h.2] at this; cases this)
                      go_wp2_with fail
                      go_meet
                      rw [if_neg HY.out]
                      exact (by (focus (repeat (first | exact HC.out | apply Cst.drewN | apply Cst.bump | apply Cst.alloc))))
                    · have HY := Lib.hid (show (RX.rangeEnd s st').2.ok = true ∧ (RX.rangeEnd s st').1 < (RX.member s st').1 by have := HB3.out.symm; simp only [Bool.and_eq_true, decide_eq_true_eq] at this; exact this)
                      go_wp2_with (first | (go_at_call 25; apply Calls.mono; apply fail_any (w0 := w0) (rb := rb) (sv := sv) (s := s); (apply Cst.env; (focus (repeat (first | exact HC.out | apply Cst.drewN | apply Cst.bump | apply Cst.alloc)))); rintro e w' ⟨rfl, hr, ho, hb⟩; have HC := Lib.hid (Cst.call (by (focus (repeat (first | exact HC.out | apply Cst.drewN | apply Cst.bump | apply Cst.alloc)))) hr ho); have c1 := HC.out.c1; have f1 := HC.out.f1; have d6 := HC.out.d6; have e6 := HC.out.e6; have hrl := HC.out.rbl; have hnl := HC.out.nbl; clear hr ho hb))
                      go_meet
                      rw [if_pos HY.out]
                      exact (by (focus (repeat (first | exact HC.out | apply Cst.drewN | apply Cst.bump | apply Cst.alloc))))
                  case rest =>
                    generalize (if (RX.rangeEnd s st').2.ok = true ∧ (RX.rangeEnd s st').1 < (RX.member s st').1 then (RX.rangeEnd s st').2.fail 5 st'.at_ else (RX.rangeEnd s st').2) = st3 at hcut HX HK
                    have HC := Lib.hid hcut
                    clear hcut
                    have c1 := HC.out.c1; have f1 := HC.out.f1; have d6 := HC.out.d6; have e6 := HC.out.e6; have hrl := HC.out.rbl; have hnl := HC.out.nbl
                    go_wp2_with (first | (at_builtin; go_loud (refine app_i32 rfl _ _ rfl (nb + 1) _ set' [(RX.member s st').1, (RX.rangeEnd s st').1] ?hown rfl _ 2 2 rfl rfl ?hc (by omega) ?hll ?hB ?_; (case hown => (apply Cst.own; (focus (repeat (first | exact HC.out | apply Cst.drewN | apply Cst.bump | apply Cst.alloc))))); (case hc => exact two_cells rfl); (case hll => (show 2 ≤ 1000; decide)); (case hB => (first | omega | (simp; omega))); intro v' w' h1 h2; obtain ⟨hz, d6, e6⟩ := Cst.app (by (focus (repeat (first | exact HC.out | apply Cst.drewN | apply Cst.bump | apply Cst.alloc)))) h1 h2; obtain ⟨Av, cv, rfl, hcv, hcm⟩ := h1.form; have HZ := Lib.hid hz; clear h1 h2 hz)))
                    go_roundg k
                    case measure => omega
                    case rel =>
                      obtain ⟨hfw, hmo, hle, _⟩ := HX.out
                      have hz := HZ.out
                      (try rw [List.length_append] at hz)
                      exact ⟨_, _, _, hz, HK.out, hfw.hi, hfw.caps9, fun ho => by have h6 : st'.at_ + 1 ≤ st3.at_ := hmo ho; omega, by rw [List.length_append]; show set'.length + 2 + 8 * k ≤ 1000; omega⟩
          · rw [RX.classRound_sort hm1] at hfw hmo hle HK
            have HX := Lib.hid (And.intro hfw (And.intro hmo hle))
            have hml := RX.member_sort hm1
            clear hfw hmo hle hok1
            go_upto_region 9 with (first | (go_at_call 56; apply Calls.mono; apply member_some (w0 := w0) (rb := rb) (sv := sv) (s := s); (apply Cst.env; (focus (repeat (first | exact HC.out | apply Cst.drewN | apply Cst.bump | apply Cst.alloc)))); (first | omega | (simp only [RX.St.bump] at *; omega)); exact hm1; rintro e w' ⟨_, rfl, ⟨gl, rfl, hsl⟩, hr, ho, hb⟩; have HC := Lib.hid (Cst.call (by (focus (repeat (first | exact HC.out | apply Cst.drewN | apply Cst.bump | apply Cst.alloc)))) hr ho); have c1 := HC.out.c1; have f1 := HC.out.f1; have d6 := HC.out.d6; have e6 := HC.out.e6; have hrl := HC.out.rbl; have hnl := HC.out.nbl; clear hr ho hb; have HS := Lib.hid hsl; clear hsl))
            go_wp2_with (first | (at_builtin; go_loud (refine app_i32 rfl _ _ rfl (nb + 1) _ set' l ?hown rfl _ _ _ rfl rfl ?hc (by omega) ?hll ?hB ?_; (case hown => (apply Cst.own; (focus (repeat (first | exact HC.out | apply Cst.drewN | apply Cst.bump | apply Cst.alloc))))); (case hc => exact (SlB.add HS.out)); (case hll => omega); (case hB => (first | omega | (simp; omega))); intro v' w' h1 h2; obtain ⟨hz, d6, e6⟩ := Cst.app (by (focus (repeat (first | exact HC.out | apply Cst.drewN | apply Cst.bump | apply Cst.alloc)))) h1 h2; obtain ⟨Av, cv, rfl, hcv, hcm⟩ := h1.form; have HZ := Lib.hid hz; clear h1 h2 hz)))
            go_roundg k
            case measure => omega
            case rel =>
              obtain ⟨hfw, hmo, hle⟩ := HX.out
              have hz := HZ.out
              rw [List.length_append] at hz
              exact ⟨_, _, _, hz, HK.out, hfw.hi, hfw.caps9, fun ho => by have := hmo ho; omega, by omega⟩
end
theorem cap_quarter {need old : Nat} (h : old < need) : Builtin.nextslicecap need old ≤ need + need / 4 + 512 := by
  unfold Builtin.nextslicecap
  split
  · omega
  · split
    · omega
    · rw [growBy_four]
      repeat' split
      all_goals omega
theorem fits_quarter {need old : Nat} (h : old < need) (hb : need ≤ 35184373000000) : Builtin.nextslicecap need old * 4 ≤ 281474976710656 := by
  have := cap_quarter h
  omega
/-- An own row of signs takes a row of signs behind it: any length up to somewhat more than 2^45. -/
theorem run_append_signs {w : World} (base : Nat) (ty : TypeId) (i : TypeInfo) (hi : Try.prog.info? 21 = some i) (hz : i.zero = some (.int .i32 0)) (hs1 : i.size = 1) (hb4 : i.bytes = 4)
    (v : Value) (n : Nat) (xs : List Value) (hown : w.ownsRow base 21 1 v n xs)
    (a : Addr) (m c : Nat) (news : List Value) (hl : news.length = m) (hnews : ∀ j u, news[j]? = some u → w.cell? (a.add j) = some u) (h1 : ∀ u ∈ news, u.oneCell' = true)
    (hn : n + m ≤ 35184373000000) (hbase : base ≤ w.heap.size) :
    ∃ v' w', (Builtin.append_ #[23, 23] ty #[v, .slice (some a) m c]).run Try.prog w = .ok v' w' ∧ w'.ownsRow base 21 1 v' (n + m) (xs ++ news) ∧ w.grownBy w' v.ownBlock ∧ (v' = .slice none 0 0 ↔ v = .slice none 0 0 ∧ m = 0) := by
  by_cases hsm : n + m ≤ 35184372088832
  · exact run_append_own w base 23 ty 21 i (.int .i32 0) 1 4 Try.underlying23 hi hz hs1 hb4 rfl (by decide) v n xs hown a m c news (by omega) hnews h1 (by unfold maxLen; omega) (by omega) hbase
  have hxl : xs.length = n := by have := hown.1; omega
  have hl1 : news.length = m * i.size := by rw [hs1]; omega
  have hcat : (xs ++ news).length = n + m := by rw [List.length_append]; omega
  have hmax : n + m ≤ maxLen := by unfold maxLen; omega
  have fresh : ∀ (old : Nat), old < n + m → ∀ (k : Option Nat), ∃ cp cur, cp = grownCap w (n + m) old 21 ∧ cur = xs.toArray ++ news.toArray ++ Builtin.zeroCells (Value.int .i32 0).cells (cp - (n + m)) ∧
      (w.drew.alloc (.cells cur 21)).ownsRow base 21 1 (.slice (some ⟨w.heap.size, 0, none⟩) (n + m) cp) (n + m) (xs ++ news) ∧ w.grownBy (w.drew.alloc (.cells cur 21)) k := by
    intro old ho k
    have hge := grownCap_ge w (n + m) old 21
    have hle := grownCap_le_maxLen w (n + m) old 21 hmax
    refine ⟨_, _, rfl, rfl, ⟨by omega, .inr ⟨w.heap.size, _, _, rfl, hbase, heap_alloc_new w.drew _, hge, hle, ?_, ?_⟩⟩, ⟨rfl, rfl, rfl, by simp, fun j hj _ => Go.heap_alloc_old w.drew _ hj⟩⟩
    · simp only [Array.size_append, List.size_toArray, size_zeroCells, show (Value.int .i32 0).cells.size = 1 from rfl, Nat.mul_one]
      omega
    · simp only [Array.toList_append, List.append_assoc]
      rw [← List.append_assoc, Nat.mul_one, ← hcat]
      exact List.take_left
  rcases hown.2 with ⟨rfl, rfl⟩ | ⟨g, cap, cur, rfl, hbg, hg, hnc, hcm, hcs, htake⟩
  · obtain rfl : xs = [] := List.eq_nil_of_length_eq_zero hxl
    have hr := run_append_nil (P := Try.prog) w 23 ty 21 i (.int .i32 0) Try.underlying23 hi hz a m c news hl1 hnews (by omega) (by omega) (by rw [hb4]; omega)
    obtain ⟨cp, cur, rfl, rfl, h2, h3⟩ := fresh 0 (by omega) (Value.ownBlock (.slice none 0 0))
    simp only [Nat.zero_add, List.nil_append, Array.empty_append] at h2 h3 ⊢
    exact ⟨_, _, hr, h2, h3, by simp; omega⟩
  · by_cases hroom : n + m ≤ cap
    · have hfit : n * i.size + news.length ≤ cur.size := by rw [hs1]; omega
      have hr := run_append_room (P := Try.prog) w 23 ty 21 i Try.underlying23 hi g n cap cur hg a m c news hl1 hnews h1 hroom hfit
      refine ⟨_, _, hr, ⟨by omega, .inr ⟨g, cap, _, rfl, hbg, setRow_heap w g cur _ 21 _ hg, hroom, hcm, ?_, ?_⟩⟩, ⟨rfl, rfl, rfl, by simp, fun k _ hk => setRow_other w g k _ (fun e => hk (by simp [Value.ownBlock, e]))⟩, by simp⟩
      · simp only [List.size_toArray, List.length_append, List.length_take, List.length_drop, Array.length_toList]
        rw [hs1]; omega
      · rw [hs1, htake, Nat.mul_one, ← hcat]
        exact List.take_left
    · have holds : ∀ j u, xs[j]? = some u → w.cell? ((⟨g, 0, none⟩ : Addr).add j) = some u := hown.cells (g := g) rfl
      have hr := run_append_grow (P := Try.prog) w 23 ty 21 i (.int .i32 0) Try.underlying23 hi hz ⟨g, 0, none⟩ n cap xs (by rw [hs1]; omega) holds a m c news hl1 hnews (by omega) (by omega) (by rw [hb4]; exact fits_quarter (by omega) (by omega))
      obtain ⟨cp, cu, rfl, rfl, h2, h3⟩ := fresh cap (by omega) (Value.ownBlock (.slice (some ⟨g, 0, none⟩) n cap))
      exact ⟨_, _, hr, h2, h3, by simp⟩
/-- Append of a row that is read by its cells alone, beyond 2^45 signs. -/
theorem app_srcL {w : World} {ops : Array Oper} {rest : List Oper} {o : Oper} {a : Act} {Q : Exit → Act → World → Prop} (hgd : o.guard = none) (s x : Operand) (ho : o.op = .call { callee := .builtin .append, args := #[s, x], argTypes := #[23, 23] })
    (B : Nat) (v src : Value) (xs ys : List Int) (hown : OwnB 21 1 Cc B w v xs) (hs : a.eval s = v) (hx : a.eval x = src) (hsrc : SlC w src ys)
    (hn : xs.length + ys.length ≤ 35184373000000) (hB : B ≤ w.heap.size)
    (h : ∀ v' w', OwnB 21 1 Cc B w' v' (xs ++ ys) → w.grownBy w' v.ownBlock → wpList Try.prog ops Q rest (a.put o.dst v') w') :
    wpList Try.prog ops Q (o :: rest) a w := by
  obtain ⟨i0, hi, hz0, hz1, hz2⟩ := info_parts info_c
  obtain ⟨A, c, rfl, hl, hc, hcell, hn0⟩ := hsrc
  cases A with
  | none =>
    obtain rfl := hn0 rfl
    obtain rfl : ys = [] := by
      cases ys with
      | nil => rfl
      | cons y r =>
        obtain ⟨b, o, hA, -⟩ := hcell 0 y rfl
        cases hA
    refine wpList_append_own_none hgd s x 23 ho B 21 i0 1 Try.underlying23 hi v xs.length (xs.map (Value.int .i32)) hs hown.flat_i32 hx ?_
    exact h v w (by rw [List.append_nil]; exact hown) (World.grownBy.refl _ _)
  | some ad =>
    obtain ⟨v', w', hr, h2, h3, -⟩ := run_append_signs (w := w) B o.type i0 hi hz0 hz1 hz2 v xs.length (xs.map (Value.int .i32)) hown.flat_i32 ad ys.length c (ys.map (Value.int .i32)) (by simp) (cells_map (fun j y hy => by
      obtain ⟨b, o, hA, hr⟩ := hcell j y hy
      rw [Option.some.inj hA, Go.WideShapes.add_plain]
      rw [Nat.mul_one] at hr
      exact hr)) (fun u hu => by
      simp at hu
      obtain ⟨y, _, rfl⟩ := hu
      rfl) hn hB
    refine wpList_plain hgd fun _ hK => ?_
    unfold Oper.wp execOp
    simp only [ho, resolve, invoke, builtin, Sem.run_bind, Sem.run_pure, Result.andThen_ok, List.map_toArray, List.map_cons, List.map_nil, hs, hx, hr]
    exact hK _ _ (h v' w' (OwnB.of_flat_i32 (by rw [List.map_append, List.length_append]; exact h2)) h3)
end Go.Proofs.Ytpcdknfmgacggaa
