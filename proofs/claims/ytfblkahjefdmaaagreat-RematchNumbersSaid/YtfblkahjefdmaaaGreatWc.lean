/- Walks: repeat of package resyn. -/
import Derived.Test.YtfblkahjefdmaaaGreatWa
import Derived.Test.YtfblkahjefdmaaaGreatWb
import Derived.RegionTactic
namespace Go.Proofs.YtfblkahjefdmaaaGreat
open Go.RowKit

section
variable {w0 : World} {rb : Nat} {sv : Value} {s : List Int}
set_option maxRecDepth 100000 in
set_option maxHeartbeats 4000000 in
theorem repeat_any (w : World) (st : RX.St) (atom : List RX.ReN) (va : Value) (he : Env w0 rb sv s w st) (ha : st.at_ ≤ 800) (hv : SlRe (rb + 1) (rb + 1) w va atom) (hsm : ∀ t : RX.ReN, Small t [atom]) :
    Calls Tryz.prog 81 #[.pointer (some ⟨rb, 0, none⟩), va] w (PostR (fun w' v => SlRe (rb + 1) (rb + 1) w' v (RX.repeatP s atom st).1) rb sv w (RX.repeatP s atom st).2 (st.at_ + 6)) := by
  have HE := Lib.hid he
  have HO := Lib.hid (Only.refl w rb)
  have hrb : rb + 1 ≤ w.heap.size := he.rbl
  have HV := Lib.hid hv
  obtain ⟨Aa, ca, rfl, _⟩ := hv.form
  obtain ⟨nb, hnb⟩ : ∃ nb, nb = w.heap.size := ⟨_, rfl⟩
  have hrn : rb < nb := by omega
  have hnw : w.heap.size ≤ nb := by omega
  clear he hv
  go_enter Tryz.func81, Tryz.ntmps81
  go_wp2_with fail
  rw [← hnb]
  have HB := Lib.hid (BX.new (cs := [.int .i64 6, .int .i64 0, .int .i64 0, .int .i64 (-1), .bool false, .bool false, .slice none 0 0]) hnb)
  have HE := Lib.hid (Env.alloc HE.out (.cells [Value.int .i64 6, .int .i64 0, .int .i64 0, .int .i64 (-1), .bool false, .bool false, .slice none 0 0].toArray 82))
  have HO := Lib.hid (Only.alloc (o := .cells [Value.int .i64 6, .int .i64 0, .int .i64 0, .int .i64 (-1), .bool false, .bool false, .slice none 0 0].toArray 82) HO.out)
  generalize hwb : w.alloc _ = wb at HB HE HO ⊢
  have hr := HE.out.rs
  have c1 := hr.c1
  have f1 := hr.fr 1
  have hrl := heap_lt hr
  have hnl : nb < wb.heap.size := heap_lt HB.out
  have d0 := HB.out.c 0 _ rfl; have d1 := HB.out.c 1 _ rfl; have d2 := HB.out.c 2 _ rfl; have d3 := HB.out.c 3 _ rfl; have d4 := HB.out.c 4 _ rfl; have d5 := HB.out.c 5 _ rfl; have d6 := HB.out.c 6 _ rfl; have e2 := HB.out.fr 2; have e3 := HB.out.fr 3; have e4 := HB.out.fr 4; have e5 := HB.out.fr 5; have e6 := HB.out.fr 6
  clear hr hnb
  go_wp2_with (first | (go_at_call 57; apply Calls.mono; apply peek_any (w0 := w0) (rb := rb) (sv := sv) (s := s); (focus (repeat (first | exact HE.out | apply Env.bump1 | apply Env.drewN | apply Env.alloc | apply Env.setop | apply Env.setcaps | apply Env.bumpE | apply Env.setbox hrn | (simp only [RX.St.bump]; omega) | omega))); (first | omega | (simp only [RX.St.bump] at *; omega)); rintro e w' ⟨rfl, n, rfl⟩) | (go_at_call 36; apply Calls.mono; apply ok_any (w0 := w0) (rb := rb) (sv := sv) (s := s); (focus (repeat (first | exact HE.out | apply Env.bump1 | apply Env.drewN | apply Env.alloc | apply Env.setop | apply Env.setcaps | apply Env.bumpE | apply Env.setbox hrn | (simp only [RX.St.bump]; omega) | omega))); rintro e w' ⟨rfl, n, rfl⟩) | (go_at_call 87; apply Calls.mono; apply bounds_any (w0 := w0) (rb := rb) (sv := sv) (s := s); (focus (repeat (first | exact HE.out | apply Env.bump1 | apply Env.drewN | apply Env.alloc | apply Env.setop | apply Env.setcaps | apply Env.bumpE | apply Env.setbox hrn | (simp only [RX.St.bump]; omega) | omega))); (first | omega | (simp only [RX.St.bump] at *; omega)); rintro e w' ⟨rfl, hr, ho, hb⟩; generalize hq : RX.bounds s _ = mq at hr hb ⊢; obtain ⟨mv, mh, sq⟩ := mq; simp only at hr hb ⊢; (try simp only [RX.St.bump] at hb); have HE := Lib.hid (Env.step (by (focus (repeat (first | exact HE.out | apply Env.bump1 | apply Env.drewN | apply Env.alloc | apply Env.setop | apply Env.setcaps | apply Env.bumpE | apply Env.setbox hrn | (simp only [RX.St.bump]; omega) | omega)))) ho hr); have HO := Lib.hid (Only.trans (by (focus (repeat (first | exact HO.out | apply Only.set | apply Only.drewN | apply Only.alloc | apply Only.setNew hnw)))) ho); have c1 := hr.c1; have f1 := hr.fr 1; have c2 := hr.c2; have f2 := hr.fr 2; have c3 := hr.c3; have f3 := hr.fr 3; have hrl := heap_lt hr; have HB := Lib.hid (BX.only (by (focus (repeat (first | exact HB.out | apply BX.setrb hrn | apply BX.drewN | apply BX.alloc)))) ho (by omega)); have d0 := HB.out.c 0 _ rfl; have d1 := HB.out.c 1 _ rfl; have d2 := HB.out.c 2 _ rfl; have d3 := HB.out.c 3 _ rfl; have d4 := HB.out.c 4 _ rfl; have d5 := HB.out.c 5 _ rfl; have d6 := HB.out.c 6 _ rfl; have e2 := HB.out.fr 2; have e3 := HB.out.fr 3; have e4 := HB.out.fr 4; have e5 := HB.out.fr 5; have e6 := HB.out.fr 6; clear hr ho) | (go_at_call 58; apply Calls.mono; apply under_any (B := rb + 1) (parts := [atom]); (first | apply CR.mk0 | (apply CR.mk; (focus (repeat (first | exact HV.out | (apply c_lit2; (focus (first | rfl | (simp; done) | (simp; omega))); (focus (first | omega | (simp; omega) | (apply Env.rbl (w0 := w0) (s := s); (focus (repeat (first | exact HE.out | apply Env.bump1 | apply Env.drewN | apply Env.alloc | apply Env.setop | apply Env.setcaps | apply Env.bumpE | apply Env.setbox hrn | (simp only [RX.St.bump]; omega) | omega))))))) | apply SlB.setrb | apply SlB.drewN | apply SlB.alloc))))); (apply l_lit; (focus (first | rfl | (simp; done) | (simp; omega))); (focus (first | omega | (simp; omega) | (apply Env.rbl (w0 := w0) (s := s); (focus (repeat (first | exact HE.out | apply Env.bump1 | apply Env.drewN | apply Env.alloc | apply Env.setop | apply Env.setcaps | apply Env.bumpE | apply Env.setbox hrn | (simp only [RX.St.bump]; omega) | omega)))))); (apply SlB.only (w := w) HV.out (keepsB_re _); (focus (repeat (first | exact HO.out | apply Only.set | apply Only.drewN | apply Only.alloc | apply Only.setNew hnw))))); exact hsm _; rintro e w' ⟨vr, rfl, hown, hx⟩; have HR := Lib.hid (SlB.weaken (base' := rb + 1) hown.sl (by (focus (first | omega | (simp; omega) | (apply Env.rbl (w0 := w0) (s := s); (focus (repeat (first | exact HE.out | apply Env.bump1 | apply Env.drewN | apply Env.alloc | apply Env.setop | apply Env.setcaps | apply Env.bumpE | apply Env.setbox hrn | (simp only [RX.St.bump]; omega) | omega)))))))); have HE := Lib.hid (Env.ext (by (focus (repeat (first | exact HE.out | apply Env.bump1 | apply Env.drewN | apply Env.alloc | apply Env.setop | apply Env.setcaps | apply Env.bumpE | apply Env.setbox hrn | (simp only [RX.St.bump]; omega) | omega)))) hx); have HO := Lib.hid (Only.trans (by (focus (repeat (first | exact HO.out | apply Only.set | apply Only.drewN | apply Only.alloc | apply Only.setNew hnw)))) (Only.of_ext hx rb)); have hr := HE.out.rs; have c1 := hr.c1; (try simp only [RX.St.bump] at c1); have f1 := hr.fr 1; have c2 := hr.c2; have f2 := hr.fr 2; have hrl := heap_lt hr; clear hx hr hown))
  all_goals (try go_ret)
  all_goals (apply PostR.of; ((apply Env.rs (w0 := w0) (s := s)); (focus (repeat (first | exact HE.out | apply Env.bump1 | apply Env.drewN | apply Env.alloc | apply Env.setop | apply Env.setcaps | apply Env.bumpE | apply Env.setbox hrn | (simp only [RX.St.bump]; omega) | omega)))); (focus (repeat (first | exact HO.out | apply Only.set | apply Only.drewN | apply Only.alloc | apply Only.setNew hnw))); (first | omega | (simp only [RX.St.bump] at *; omega)); (first | (apply SlRe.cast; exact HR.out) | (apply SlRe.cast; (apply SlB.only (w := w) HV.out (keepsB_re _); (focus (repeat (first | exact HO.out | apply Only.set | apply Only.drewN | apply Only.alloc | apply Only.setNew hnw)))))))
  all_goals (clear HE HO; (first | (simp_all [RX.repeatP, RX.repTop]; done) | (simp_all [RX.repeatP, RX.repTop, RX.St.bump]; done) | (simp_all [RX.repeatP, RX.repTop, RX.St.bump]; omega) | (simp only [RX.repeatP, RX.repTop, RX.St.bump] at *; omega) | skip))
end
end Go.Proofs.YtfblkahjefdmaaaGreat

/- Walks: atom, item of package resyn. -/
namespace Go.Proofs.YtfblkahjefdmaaaGreat
open Go.RowKit
namespace RX
section
variable {s : List Int} {alt : St → List ReN × St} {st : St}
theorem atomP_bad (h : nxt s st 0 = 42 ∨ nxt s st 0 = 43 ∨ nxt s st 0 = 63 ∨ nxt s st 0 = 123) : atomP s alt st = ([], st.fail 5 st.at_) := by unfold atomP; simp only [if_pos h]
theorem atomP_open (h : nxt s st 0 = 40) : atomP s alt st = groupP s alt st := by unfold atomP; simp [h]
theorem atomP_class (h : nxt s st 0 = 91) : atomP s alt st = classP s (st.bump 1) := by unfold atomP; simp [h]
theorem atomP_esc (h : nxt s st 0 = 92) : atomP s alt st = escaped s st := by unfold atomP; simp [h]
theorem atomP_dot (h : nxt s st 0 = 46) : atomP s alt st = ([node 2 0 0 false true [10, 10]], st.bump 1) := by unfold atomP; simp [h]
theorem atomP_one (h1 : nxt s st 0 ≠ 42) (h2 : nxt s st 0 ≠ 43) (h3 : nxt s st 0 ≠ 63) (h4 : nxt s st 0 ≠ 123) (h5 : nxt s st 0 ≠ 40) (h6 : nxt s st 0 ≠ 91) (h7 : nxt s st 0 ≠ 92) (h8 : nxt s st 0 ≠ 46) :
    atomP s alt st = ([node 2 0 0 false false [nxt s st 0, nxt s st 0]], st.bump 1) := by unfold atomP; simp [h1, h2, h3, h4, h5, h6, h7, h8]
theorem itemP_start (h : nxt s st 0 = 94) : itemP s alt st = ([node 3 0 0 false false []], st.bump 1) := by unfold itemP; simp [h]
theorem itemP_end (h : nxt s st 0 = 36) : itemP s alt st = ([node 4 0 0 false false []], st.bump 1) := by unfold itemP; simp [h]
theorem itemP_atom (h1 : nxt s st 0 ≠ 94) (h2 : nxt s st 0 ≠ 36) : itemP s alt st = if (atomP s alt st).2.ok then repeatP s (atomP s alt st).1 (atomP s alt st).2 else ([], (atomP s alt st).2) := by unfold itemP; simp only [if_neg h1, if_neg h2]
end
end RX
section
variable {w0 : World} {rb : Nat} {sv : Value} {s : List Int}
set_option maxRecDepth 100000 in
set_option maxHeartbeats 4000000 in
theorem atom_any (w : World) (st : RX.St) (alt : RX.St → List RX.ReN × RX.St) (he : Env w0 rb sv s w st) (hok : st.ok = true) (ha : st.at_ < s.length) (h9 : st.caps ≤ 9) {c : Nat} {d : Int} (hk : RX.AltOk s c d alt) (hc : c ≤ 20) (hd : d ≤ 100) (hd0 : 0 ≤ d) (HA : st.op < 12 → AltC w0 rb sv s alt (st.op + 1)) :
    Calls Tryz.prog 80 #[.pointer (some ⟨rb, 0, none⟩)] w (PostR (fun w' v => SlRe (rb + 1) (rb + 1) w' v (RX.atomP s alt st).1) rb sv w (RX.atomP s alt st).2 (s.length + 30)) := by
  have HC := Lib.hid (Rst.start he)
  have hl60 := he.len
  have HGp := Lib.hid (fun w he => group_any (w0 := w0) (rb := rb) (sv := sv) (s := s) w st alt he hok ha h9 hk hc hd HA)
  have HGc := Lib.hid (fun w he => classR_any (w0 := w0) (rb := rb) (sv := sv) (s := s) w (st.bump 1) he ha h9)
  have HGe := Lib.hid (fun w he => escaped_any (w0 := w0) (rb := rb) (sv := sv) (s := s) w st he (by omega))
  have HBD := Lib.hid (show (RX.groupP s alt st).2.at_ ≤ s.length + 30 by have := (RX.groupP_fwd hk hd0 hok ha h9).1.hi; omega)
  clear he hk HA hok hd hc hd0
  have hr1 := HC.out.env.rs; have c1 := hr1.c1; have c2 := hr1.c2; have c3 := hr1.c3; have f1 := hr1.fr 1; have f2 := hr1.fr 2; have f3 := hr1.fr 3; have hrl := HC.out.rbl; clear hr1
  rcases h42 : (RX.nxt s st 0 == 42) with _ | _
  rcases h43 : (RX.nxt s st 0 == 43) with _ | _
  rcases h63 : (RX.nxt s st 0 == 63) with _ | _
  rcases h123 : (RX.nxt s st 0 == 123) with _ | _
  rcases h40 : (RX.nxt s st 0 == 40) with _ | _
  rcases h91 : (RX.nxt s st 0 == 91) with _ | _
  rcases h92 : (RX.nxt s st 0 == 92) with _ | _
  rcases h46 : (RX.nxt s st 0 == 46) with _ | _
  · have HY := Lib.hid (RX.atomP_one (alt := alt) (beq_eq_false_iff_ne.1 h42) (beq_eq_false_iff_ne.1 h43) (beq_eq_false_iff_ne.1 h63) (beq_eq_false_iff_ne.1 h123) (beq_eq_false_iff_ne.1 h40) (beq_eq_false_iff_ne.1 h91) (beq_eq_false_iff_ne.1 h92) (beq_eq_false_iff_ne.1 h46))
    go_enter Tryz.func80, Tryz.ntmps80
    go_wp2_with (first | (go_at_call 57; apply Calls.mono; apply peek_any (w0 := w0) (rb := rb) (sv := sv) (s := s); (apply Rst.env; (focus (repeat (first | exact HC.out | apply Rst.drewN | apply Rst.bump | apply Rst.bump3 | apply Rst.setop1 | apply Rst.setcaps1 | apply Rst.alloc)))); (first | omega | (simp only [RX.St.bump] at *; omega)); rintro e w' ⟨rfl, n, rfl⟩))
    go_ret
    rw [HY.out]
    have HX := Rst.bump (Rst.drewN (n := n) HC.out)
    refine PostR.of (HX.alloc.alloc).env.rs (HX.alloc.alloc).only (by show st.at_ + 1 ≤ _; omega) ?_ rfl
    refine re_lit _ (RX.node 2 0 0 false false [RX.nxt s st 0, RX.nxt s st 0]) _ _ (by simp) (by simp; omega) (CR.mk ?_)
    exact c_lit2 (by simp) (by simp; omega)
  · have HY := Lib.hid (RX.atomP_dot (alt := alt) (beq_iff_eq.1 h46))
    go_enter Tryz.func80, Tryz.ntmps80
    go_wp2_with (first | (go_at_call 57; apply Calls.mono; apply peek_any (w0 := w0) (rb := rb) (sv := sv) (s := s); (apply Rst.env; (focus (repeat (first | exact HC.out | apply Rst.drewN | apply Rst.bump | apply Rst.bump3 | apply Rst.setop1 | apply Rst.setcaps1 | apply Rst.alloc)))); (first | omega | (simp only [RX.St.bump] at *; omega)); rintro e w' ⟨rfl, n, rfl⟩))
    go_ret
    rw [HY.out]
    have HX := Rst.bump (Rst.drewN (n := n) HC.out)
    refine PostR.of (HX.alloc.alloc).env.rs (HX.alloc.alloc).only (by show st.at_ + 1 ≤ _; omega) ?_ rfl
    refine re_lit _ (RX.node 2 0 0 false true [10, 10]) _ _ (by simp) (by simp; omega) (CR.mk ?_)
    exact c_lit2 (by simp) (by simp; omega)
  · have HY := Lib.hid (RX.atomP_esc (alt := alt) (beq_iff_eq.1 h92))
    go_enter Tryz.func80, Tryz.ntmps80
    go_wp2_with (first | (go_at_call 57; apply Calls.mono; apply peek_any (w0 := w0) (rb := rb) (sv := sv) (s := s); (apply Rst.env; (focus (repeat (first | exact HC.out | apply Rst.drewN | apply Rst.bump | apply Rst.bump3 | apply Rst.setop1 | apply Rst.setcaps1 | apply Rst.alloc)))); (first | omega | (simp only [RX.St.bump] at *; omega)); rintro e w' ⟨rfl, n, rfl⟩) | (go_at_call 86; refine (HGe.out _ ?hen).mono ?_; (case hen => (apply Rst.env; (focus (repeat (first | exact HC.out | apply Rst.drewN | apply Rst.bump | apply Rst.bump3 | apply Rst.setop1 | apply Rst.setcaps1 | apply Rst.alloc))))); rintro e w' ⟨v, rfl, hv, hr, ho, hb⟩; have HC := Lib.hid (Rst.call (by (focus (repeat (first | exact HC.out | apply Rst.drewN | apply Rst.bump | apply Rst.bump3 | apply Rst.setop1 | apply Rst.setcaps1 | apply Rst.alloc)))) hr ho); have hr1 := HC.out.env.rs; have c1 := hr1.c1; have c2 := hr1.c2; have c3 := hr1.c3; have f1 := hr1.fr 1; have f2 := hr1.fr 2; have f3 := hr1.fr 3; have hrl := HC.out.rbl; clear hr1; clear hr ho hb; obtain ⟨Aa, ca, rfl, _⟩ := hv.form; have HV := Lib.hid hv; clear hv))
    go_ret
    rw [HY.out]
    exact PostR.of HC.out.env.rs HC.out.only (by have := (RX.escaped_fwd (s := s) ha h9).hi; omega) HV.out rfl
  · have HY := Lib.hid (RX.atomP_class (alt := alt) (beq_iff_eq.1 h91))
    go_enter Tryz.func80, Tryz.ntmps80
    go_wp2_with (first | (go_at_call 57; apply Calls.mono; apply peek_any (w0 := w0) (rb := rb) (sv := sv) (s := s); (apply Rst.env; (focus (repeat (first | exact HC.out | apply Rst.drewN | apply Rst.bump | apply Rst.bump3 | apply Rst.setop1 | apply Rst.setcaps1 | apply Rst.alloc)))); (first | omega | (simp only [RX.St.bump] at *; omega)); rintro e w' ⟨rfl, n, rfl⟩) | (go_at_call 85; refine (HGc.out _ ?hen).mono ?_; (case hen => (apply Rst.env; (focus (repeat (first | exact HC.out | apply Rst.drewN | apply Rst.bump | apply Rst.bump3 | apply Rst.setop1 | apply Rst.setcaps1 | apply Rst.alloc))))); rintro e w' ⟨v, rfl, hv, hr, ho, hb⟩; have HC := Lib.hid (Rst.call (by (focus (repeat (first | exact HC.out | apply Rst.drewN | apply Rst.bump | apply Rst.bump3 | apply Rst.setop1 | apply Rst.setcaps1 | apply Rst.alloc)))) hr ho); have hr1 := HC.out.env.rs; have c1 := hr1.c1; have c2 := hr1.c2; have c3 := hr1.c3; have f1 := hr1.fr 1; have f2 := hr1.fr 2; have f3 := hr1.fr 3; have hrl := HC.out.rbl; clear hr1; clear hr ho hb; obtain ⟨Aa, ca, rfl, _⟩ := hv.form; have HV := Lib.hid hv; clear hv))
    go_ret
    rw [HY.out]
    exact PostR.of HC.out.env.rs HC.out.only (by have := (RX.classP_fwd (s := s) (st := st.bump 1) ha h9).hi; omega) HV.out rfl
  · have HY := Lib.hid (RX.atomP_open (alt := alt) (beq_iff_eq.1 h40))
    go_enter Tryz.func80, Tryz.ntmps80
    go_wp2_with (first | (go_at_call 57; apply Calls.mono; apply peek_any (w0 := w0) (rb := rb) (sv := sv) (s := s); (apply Rst.env; (focus (repeat (first | exact HC.out | apply Rst.drewN | apply Rst.bump | apply Rst.bump3 | apply Rst.setop1 | apply Rst.setcaps1 | apply Rst.alloc)))); (first | omega | (simp only [RX.St.bump] at *; omega)); rintro e w' ⟨rfl, n, rfl⟩) | (go_at_call 84; refine (HGp.out _ ?hen).mono ?_; (case hen => (apply Rst.env; (focus (repeat (first | exact HC.out | apply Rst.drewN | apply Rst.bump | apply Rst.bump3 | apply Rst.setop1 | apply Rst.setcaps1 | apply Rst.alloc))))); rintro e w' ⟨v, rfl, hv, hr, ho, hb⟩; have HC := Lib.hid (Rst.call (by (focus (repeat (first | exact HC.out | apply Rst.drewN | apply Rst.bump | apply Rst.bump3 | apply Rst.setop1 | apply Rst.setcaps1 | apply Rst.alloc)))) hr ho); have hr1 := HC.out.env.rs; have c1 := hr1.c1; have c2 := hr1.c2; have c3 := hr1.c3; have f1 := hr1.fr 1; have f2 := hr1.fr 2; have f3 := hr1.fr 3; have hrl := HC.out.rbl; clear hr1; clear hr ho hb; obtain ⟨Aa, ca, rfl, _⟩ := hv.form; have HV := Lib.hid hv; clear hv))
    go_ret
    rw [HY.out]
    exact PostR.of HC.out.env.rs HC.out.only HBD.out HV.out rfl
  · have HY := Lib.hid (RX.atomP_bad (alt := alt) (.inr (.inr (.inr (beq_iff_eq.1 h123)))))
    go_enter Tryz.func80, Tryz.ntmps80
    go_wp2_with (first | (go_at_call 57; apply Calls.mono; apply peek_any (w0 := w0) (rb := rb) (sv := sv) (s := s); (apply Rst.env; (focus (repeat (first | exact HC.out | apply Rst.drewN | apply Rst.bump | apply Rst.bump3 | apply Rst.setop1 | apply Rst.setcaps1 | apply Rst.alloc)))); (first | omega | (simp only [RX.St.bump] at *; omega)); rintro e w' ⟨rfl, n, rfl⟩) | (go_at_call 37; apply Calls.mono; apply fail_any (w0 := w0) (rb := rb) (sv := sv) (s := s); (apply Rst.env; (focus (repeat (first | exact HC.out | apply Rst.drewN | apply Rst.bump | apply Rst.bump3 | apply Rst.setop1 | apply Rst.setcaps1 | apply Rst.alloc)))); rintro e w' ⟨rfl, hr, ho, hb⟩; have HC := Lib.hid (Rst.call (by (focus (repeat (first | exact HC.out | apply Rst.drewN | apply Rst.bump | apply Rst.bump3 | apply Rst.setop1 | apply Rst.setcaps1 | apply Rst.alloc)))) hr ho); have hr1 := HC.out.env.rs; have c1 := hr1.c1; have c2 := hr1.c2; have c3 := hr1.c3; have f1 := hr1.fr 1; have f2 := hr1.fr 2; have f3 := hr1.fr 3; have hrl := HC.out.rbl; clear hr1; clear hr ho hb))
    go_ret
    rw [HY.out]
    exact PostR.of HC.out.env.rs HC.out.only (by rw [RX.St.fail_at]; omega) SlB.nil_ rfl
  · have HY := Lib.hid (RX.atomP_bad (alt := alt) (.inr (.inr (.inl (beq_iff_eq.1 h63)))))
    go_enter Tryz.func80, Tryz.ntmps80
    go_wp2_with (first | (go_at_call 57; apply Calls.mono; apply peek_any (w0 := w0) (rb := rb) (sv := sv) (s := s); (apply Rst.env; (focus (repeat (first | exact HC.out | apply Rst.drewN | apply Rst.bump | apply Rst.bump3 | apply Rst.setop1 | apply Rst.setcaps1 | apply Rst.alloc)))); (first | omega | (simp only [RX.St.bump] at *; omega)); rintro e w' ⟨rfl, n, rfl⟩) | (go_at_call 37; apply Calls.mono; apply fail_any (w0 := w0) (rb := rb) (sv := sv) (s := s); (apply Rst.env; (focus (repeat (first | exact HC.out | apply Rst.drewN | apply Rst.bump | apply Rst.bump3 | apply Rst.setop1 | apply Rst.setcaps1 | apply Rst.alloc)))); rintro e w' ⟨rfl, hr, ho, hb⟩; have HC := Lib.hid (Rst.call (by (focus (repeat (first | exact HC.out | apply Rst.drewN | apply Rst.bump | apply Rst.bump3 | apply Rst.setop1 | apply Rst.setcaps1 | apply Rst.alloc)))) hr ho); have hr1 := HC.out.env.rs; have c1 := hr1.c1; have c2 := hr1.c2; have c3 := hr1.c3; have f1 := hr1.fr 1; have f2 := hr1.fr 2; have f3 := hr1.fr 3; have hrl := HC.out.rbl; clear hr1; clear hr ho hb))
    go_ret
    rw [HY.out]
    exact PostR.of HC.out.env.rs HC.out.only (by rw [RX.St.fail_at]; omega) SlB.nil_ rfl
  · have HY := Lib.hid (RX.atomP_bad (alt := alt) (.inr (.inl (beq_iff_eq.1 h43))))
    go_enter Tryz.func80, Tryz.ntmps80
    go_wp2_with (first | (go_at_call 57; apply Calls.mono; apply peek_any (w0 := w0) (rb := rb) (sv := sv) (s := s); (apply Rst.env; (focus (repeat (first | exact HC.out | apply Rst.drewN | apply Rst.bump | apply Rst.bump3 | apply Rst.setop1 | apply Rst.setcaps1 | apply Rst.alloc)))); (first | omega | (simp only [RX.St.bump] at *; omega)); rintro e w' ⟨rfl, n, rfl⟩) | (go_at_call 37; apply Calls.mono; apply fail_any (w0 := w0) (rb := rb) (sv := sv) (s := s); (apply Rst.env; (focus (repeat (first | exact HC.out | apply Rst.drewN | apply Rst.bump | apply Rst.bump3 | apply Rst.setop1 | apply Rst.setcaps1 | apply Rst.alloc)))); rintro e w' ⟨rfl, hr, ho, hb⟩; have HC := Lib.hid (Rst.call (by (focus (repeat (first | exact HC.out | apply Rst.drewN | apply Rst.bump | apply Rst.bump3 | apply Rst.setop1 | apply Rst.setcaps1 | apply Rst.alloc)))) hr ho); have hr1 := HC.out.env.rs; have c1 := hr1.c1; have c2 := hr1.c2; have c3 := hr1.c3; have f1 := hr1.fr 1; have f2 := hr1.fr 2; have f3 := hr1.fr 3; have hrl := HC.out.rbl; clear hr1; clear hr ho hb))
    go_ret
    rw [HY.out]
    exact PostR.of HC.out.env.rs HC.out.only (by rw [RX.St.fail_at]; omega) SlB.nil_ rfl
  · have HY := Lib.hid (RX.atomP_bad (alt := alt) (.inl (beq_iff_eq.1 h42)))
    go_enter Tryz.func80, Tryz.ntmps80
    go_wp2_with (first | (go_at_call 57; apply Calls.mono; apply peek_any (w0 := w0) (rb := rb) (sv := sv) (s := s); (apply Rst.env; (focus (repeat (first | exact HC.out | apply Rst.drewN | apply Rst.bump | apply Rst.bump3 | apply Rst.setop1 | apply Rst.setcaps1 | apply Rst.alloc)))); (first | omega | (simp only [RX.St.bump] at *; omega)); rintro e w' ⟨rfl, n, rfl⟩) | (go_at_call 37; apply Calls.mono; apply fail_any (w0 := w0) (rb := rb) (sv := sv) (s := s); (apply Rst.env; (focus (repeat (first | exact HC.out | apply Rst.drewN | apply Rst.bump | apply Rst.bump3 | apply Rst.setop1 | apply Rst.setcaps1 | apply Rst.alloc)))); rintro e w' ⟨rfl, hr, ho, hb⟩; have HC := Lib.hid (Rst.call (by (focus (repeat (first | exact HC.out | apply Rst.drewN | apply Rst.bump | apply Rst.bump3 | apply Rst.setop1 | apply Rst.setcaps1 | apply Rst.alloc)))) hr ho); have hr1 := HC.out.env.rs; have c1 := hr1.c1; have c2 := hr1.c2; have c3 := hr1.c3; have f1 := hr1.fr 1; have f2 := hr1.fr 2; have f3 := hr1.fr 3; have hrl := HC.out.rbl; clear hr1; clear hr ho hb))
    go_ret
    rw [HY.out]
    exact PostR.of HC.out.env.rs HC.out.only (by rw [RX.St.fail_at]; omega) SlB.nil_ rfl

set_option maxRecDepth 100000 in
set_option maxHeartbeats 4000000 in
theorem item_any (w : World) (st : RX.St) (alt : RX.St → List RX.ReN × RX.St) (he : Env w0 rb sv s w st) (hok : st.ok = true) (ha : st.at_ < s.length) (h9 : st.caps ≤ 9) {c : Nat} {d : Int} (hk : RX.AltOk s c d alt) (hc : c ≤ 20) (hd : d ≤ 100) (hd0 : 0 ≤ d) (HA : st.op < 12 → AltC w0 rb sv s alt (st.op + 1)) :
    Calls Tryz.prog 73 #[.pointer (some ⟨rb, 0, none⟩)] w (PostR (fun w' v => SlRe (rb + 1) (rb + 1) w' v (RX.itemP s alt st).1) rb sv w (RX.itemP s alt st).2 (s.length + 30)) := by
  have HC := Lib.hid (Rst.start he)
  have hl60 := he.len
  have hfw := RX.atomP_fwd hk hd0 hok ha h9
  have hifw := RX.itemP_fwd hk hd0 hok ha h9
  have HH := Lib.hid hifw.1
  have hat : (RX.atomP s alt st).2.at_ ≤ s.length + (c + 1) := hfw.1.hi
  have hsm := small_of hfw.2.1 (by omega) (by omega)
  have HGa := Lib.hid (fun w he => atom_any (w0 := w0) (rb := rb) (sv := sv) (s := s) w st alt he hok ha h9 hk hc hd hd0 HA)
  have HGt := Lib.hid (fun w va (he : Env w0 rb sv s w (RX.atomP s alt st).2) hv => repeat_any (w0 := w0) (rb := rb) (sv := sv) (s := s) w (RX.atomP s alt st).2 (RX.atomP s alt st).1 va he (by omega) hv hsm)
  clear he hk HA hok hd hd0 hfw hifw hsm
  have hr1 := HC.out.env.rs; have c1 := hr1.c1; have c2 := hr1.c2; have c3 := hr1.c3; have f1 := hr1.fr 1; have f2 := hr1.fr 2; have f3 := hr1.fr 3; have hrl := HC.out.rbl; clear hr1
  rcases h94 : (RX.nxt s st 0 == 94) with _ | _
  rcases h36 : (RX.nxt s st 0 == 36) with _ | _
  · have HY := Lib.hid (RX.itemP_atom (alt := alt) (beq_eq_false_iff_ne.1 h94) (beq_eq_false_iff_ne.1 h36))
    generalize RX.atomP s alt st = a at HGa HGt HY hat
    rcases hok2 : a.2.ok with _ | _
    · go_enter Tryz.func73, Tryz.ntmps73
      go_wp2_with (first | (go_at_call 57; apply Calls.mono; apply peek_any (w0 := w0) (rb := rb) (sv := sv) (s := s); (apply Rst.env; (focus (repeat (first | exact HC.out | apply Rst.drewN | apply Rst.bump | apply Rst.bump3 | apply Rst.setop1 | apply Rst.setcaps1 | apply Rst.alloc)))); (first | omega | (simp only [RX.St.bump] at *; omega)); rintro e w' ⟨rfl, n, rfl⟩) | (go_at_call 80; refine (HGa.out _ ?hen).mono ?_; (case hen => (apply Rst.env; (focus (repeat (first | exact HC.out | apply Rst.drewN | apply Rst.bump | apply Rst.bump3 | apply Rst.setop1 | apply Rst.setcaps1 | apply Rst.alloc))))); rintro e w' ⟨v, rfl, hv, hr, ho, hb⟩; have HC := Lib.hid (Rst.call (by (focus (repeat (first | exact HC.out | apply Rst.drewN | apply Rst.bump | apply Rst.bump3 | apply Rst.setop1 | apply Rst.setcaps1 | apply Rst.alloc)))) hr ho); have hr1 := HC.out.env.rs; have c1 := hr1.c1; have c2 := hr1.c2; have c3 := hr1.c3; have f1 := hr1.fr 1; have f2 := hr1.fr 2; have f3 := hr1.fr 3; have hrl := HC.out.rbl; clear hr1; clear hr ho hb; obtain ⟨Aa, ca, rfl, _⟩ := hv.form; have HV := Lib.hid hv; clear hv) | (go_at_call 36; apply Calls.mono; apply ok_any (w0 := w0) (rb := rb) (sv := sv) (s := s); (apply Rst.env; (focus (repeat (first | exact HC.out | apply Rst.drewN | apply Rst.bump | apply Rst.bump3 | apply Rst.setop1 | apply Rst.setcaps1 | apply Rst.alloc)))); rintro e w' ⟨rfl, n, rfl⟩))
      go_ret
      have hy := HY.out
      rw [hok2, if_neg (by decide)] at hy
      rw [hy]
      have HX := Rst.drewN (n := n) HC.out
      exact PostR.of HX.env.rs HX.only (by omega) SlB.nil_ rfl
    · go_enter Tryz.func73, Tryz.ntmps73
      go_upto_region 11 with (first | (go_at_call 57; apply Calls.mono; apply peek_any (w0 := w0) (rb := rb) (sv := sv) (s := s); (apply Rst.env; (focus (repeat (first | exact HC.out | apply Rst.drewN | apply Rst.bump | apply Rst.bump3 | apply Rst.setop1 | apply Rst.setcaps1 | apply Rst.alloc)))); (first | omega | (simp only [RX.St.bump] at *; omega)); rintro e w' ⟨rfl, n, rfl⟩) | (go_at_call 80; refine (HGa.out _ ?hen).mono ?_; (case hen => (apply Rst.env; (focus (repeat (first | exact HC.out | apply Rst.drewN | apply Rst.bump | apply Rst.bump3 | apply Rst.setop1 | apply Rst.setcaps1 | apply Rst.alloc))))); rintro e w' ⟨v, rfl, hv, hr, ho, hb⟩; have HC := Lib.hid (Rst.call (by (focus (repeat (first | exact HC.out | apply Rst.drewN | apply Rst.bump | apply Rst.bump3 | apply Rst.setop1 | apply Rst.setcaps1 | apply Rst.alloc)))) hr ho); have hr1 := HC.out.env.rs; have c1 := hr1.c1; have c2 := hr1.c2; have c3 := hr1.c3; have f1 := hr1.fr 1; have f2 := hr1.fr 2; have f3 := hr1.fr 3; have hrl := HC.out.rbl; clear hr1; clear hr ho hb; obtain ⟨Aa, ca, rfl, _⟩ := hv.form; have HV := Lib.hid hv; clear hv) | (go_at_call 36; apply Calls.mono; apply ok_any (w0 := w0) (rb := rb) (sv := sv) (s := s); (apply Rst.env; (focus (repeat (first | exact HC.out | apply Rst.drewN | apply Rst.bump | apply Rst.bump3 | apply Rst.setop1 | apply Rst.setcaps1 | apply Rst.alloc)))); rintro e w' ⟨rfl, n, rfl⟩))
      have HC := Lib.hid (Rst.setv HC.out HV.out)
      go_wp2_with (first | (go_at_call 81; refine (HGt.out _ _ ?hen ?hvv).mono ?_; (case hen => (apply Rst.env; (focus (repeat (first | exact HC.out | apply Rst.drewN | apply Rst.bump | apply Rst.bump3 | apply Rst.setop1 | apply Rst.setcaps1 | apply Rst.alloc))))); (case hvv => (apply Rst.val; (focus (repeat (first | exact HC.out | apply Rst.drewN | apply Rst.bump | apply Rst.bump3 | apply Rst.setop1 | apply Rst.setcaps1 | apply Rst.alloc))))); rintro e w' ⟨v, rfl, hv, hr, ho, hb⟩; have HC := Lib.hid (Rst.call (by (focus (repeat (first | exact HC.out | apply Rst.drewN | apply Rst.bump | apply Rst.bump3 | apply Rst.setop1 | apply Rst.setcaps1 | apply Rst.alloc)))) hr ho); have hr1 := HC.out.env.rs; have c1 := hr1.c1; have c2 := hr1.c2; have c3 := hr1.c3; have f1 := hr1.fr 1; have f2 := hr1.fr 2; have f3 := hr1.fr 3; have hrl := HC.out.rbl; clear hr1; clear hr ho hb; obtain ⟨Aa, ca, rfl, _⟩ := hv.form; have HV := Lib.hid hv; clear hv))
      go_ret
      have hy := HY.out
      rw [hok2, if_pos rfl] at hy
      have hh := HH.out.hi
      rw [hy] at hh
      rw [hy]
      exact PostR.of HC.out.env.rs HC.out.only (by omega) HV.out rfl
  · have HY := Lib.hid (RX.itemP_end (alt := alt) (beq_iff_eq.1 h36))
    go_enter Tryz.func73, Tryz.ntmps73
    go_wp2_with (first | (go_at_call 57; apply Calls.mono; apply peek_any (w0 := w0) (rb := rb) (sv := sv) (s := s); (apply Rst.env; (focus (repeat (first | exact HC.out | apply Rst.drewN | apply Rst.bump | apply Rst.bump3 | apply Rst.setop1 | apply Rst.setcaps1 | apply Rst.alloc)))); (first | omega | (simp only [RX.St.bump] at *; omega)); rintro e w' ⟨rfl, n, rfl⟩))
    go_ret
    rw [HY.out]
    have HX := Rst.bump (Rst.drewN (n := n) HC.out)
    refine PostR.of HX.alloc.env.rs HX.alloc.only (by show st.at_ + 1 ≤ _; omega) ?_ rfl
    exact re_lit _ (RX.node 4 0 0 false false []) _ _ (by simp) (by simp; omega) CR.mk0
  · have HY := Lib.hid (RX.itemP_start (alt := alt) (beq_iff_eq.1 h94))
    go_enter Tryz.func73, Tryz.ntmps73
    go_wp2_with (first | (go_at_call 57; apply Calls.mono; apply peek_any (w0 := w0) (rb := rb) (sv := sv) (s := s); (apply Rst.env; (focus (repeat (first | exact HC.out | apply Rst.drewN | apply Rst.bump | apply Rst.bump3 | apply Rst.setop1 | apply Rst.setcaps1 | apply Rst.alloc)))); (first | omega | (simp only [RX.St.bump] at *; omega)); rintro e w' ⟨rfl, n, rfl⟩))
    go_ret
    rw [HY.out]
    have HX := Rst.bump (Rst.drewN (n := n) HC.out)
    refine PostR.of HX.alloc.env.rs HX.alloc.only (by show st.at_ + 1 ≤ _; omega) ?_ rfl
    exact re_lit _ (RX.node 3 0 0 false false []) _ _ (by simp) (by simp; omega) CR.mk0
end
end Go.Proofs.YtfblkahjefdmaaaGreat

/- Walks: row, alternatives of package resyn. -/
namespace Go.Proofs.YtfblkahjefdmaaaGreat
open Go.RowKit

theorem OwnB.keepB2 {α : Type} {t sz B b : Nat} {C : World → List Value → α → Prop} {w w' : World} {v : Value} {xs : List α} (h : OwnB t sz C B w v xs) (hC : KeepsB b C) (hb : b ≤ B) (hk : KeepB b w w') : OwnB t sz C B w' v xs := by
  obtain ⟨flat, ⟨hl, hown⟩, h2⟩ := h
  refine ⟨flat, ⟨hl, ?_⟩, fun k x hx => ?_⟩
  · rcases hown with hn | ⟨g, cap, cur, hv, hb', hg, rest⟩
    · exact .inl hn
    · exact .inr ⟨g, cap, cur, hv, hb', hk g _ (Nat.le_trans hb hb') hg, rest⟩
  · obtain ⟨cs, h6, h7⟩ := h2 k x hx
    exact ⟨cs, hC _ _ _ _ hk h6, h7⟩
section
variable {w0 : World} {rb : Nat} {sv : Value} {s : List Int}
/-- Inside of row, alternatives: the reader; the rows so far. -/
structure Rws (w0 : World) (rb : Nat) (sv : Value) (s : List Int) (w : World) (st : RX.St) (v : Value) (rows : List (List RX.ReN)) (wr : World) : Prop where
  env : Env w0 rb sv s wr st
  only : Only w wr rb
  own : OwnB 51 1 (CL (rb + 1)) w.heap.size wr v rows
  le : rb + 1 ≤ w.heap.size
variable {w wr w' : World} {st st' : RX.St} {v v' : Value} {rows rows' : List (List RX.ReN)}
theorem Rws.step (h : Rws w0 rb sv s w st v rows wr) (he : Env w0 rb sv s w' st') (ho : Only wr w' rb) : Rws w0 rb sv s w st' v rows w' :=
  ⟨he, h.only.trans ho, h.own.keepB2 (keepsB_l _) h.le (KeepB.only ho), h.le⟩
theorem Rws.drewN {n : Nat} (h : Rws w0 rb sv s w st v rows wr) : Rws w0 rb sv s w st v rows (wr.drewN n) := h.step (h.env.drewN n) ((Only.refl _ _).drewN n)
theorem Rws.bump (h : Rws w0 rb sv s w st v rows wr) : Rws w0 rb sv s w (st.bump 1) v rows (wr.setCell ⟨rb, 1, none⟩ (.int .i64 ((st.at_ : Int) + 1))) := h.step h.env.bump1 ((Only.refl _ _).set _)
theorem Rws.alloc {o : Obj} (h : Rws w0 rb sv s w st v rows wr) : Rws w0 rb sv s w st v rows (wr.alloc o) := h.step (h.env.alloc o) ((Only.refl _ _).alloc o)
theorem Rws.call (h : Rws w0 rb sv s w st v rows wr) (hr : RS rb sv w' st') (ho : Only wr w' rb) : Rws w0 rb sv s w st' v rows w' := h.step (h.env.step ho hr) ho
theorem Rws.ext (h : Rws w0 rb sv s w st v rows wr) (hx : Ext wr w') : Rws w0 rb sv s w st v rows w' := h.step (h.env.ext hx) (Only.of_ext hx rb)
theorem Rws.rbl (h : Rws w0 rb sv s w st v rows wr) : rb < wr.heap.size := heap_lt h.env.rs
theorem Rws.start (he : Env w0 rb sv s w st) : Rws w0 rb sv s w st (.slice none 0 0) [] w := ⟨he, Only.refl w rb, OwnB.nil_, he.rbl⟩
/-- Behind an append. -/
theorem Rws.app (h : Rws w0 rb sv s w st v rows wr) (h1 : OwnB 51 1 (CL (rb + 1)) w.heap.size w' v' rows') (h2 : wr.grownBy w' v.ownBlock) : Rws w0 rb sv s w st v' rows' w' :=
  ⟨Env.own (nb := rb + 1) h.env h2 (fun k hk => Nat.le_trans h.le (h.own.lt k hk).1) (by omega), Only.own (nb := w.heap.size) h.only h2 (fun k hk => (h.own.lt k hk).1) (Nat.le_refl _), h1, h.le⟩

theorem rowEnds_cases {x : Int} (h : RX.rowEnds x = true) : x = -1 ∨ (x ≠ -1 ∧ x = 124) ∨ (x ≠ -1 ∧ x ≠ 124 ∧ x = 41) := by
  unfold RX.rowEnds at h; simp at h; omega
theorem rowEnds_not {x : Int} (h : RX.rowEnds x = false) : x ≠ -1 ∧ x ≠ 124 ∧ x ≠ 41 := by
  unfold RX.rowEnds at h; simp at h; omega
namespace RX
variable {alt : St → List ReN × St}
theorem rowLoop_bad {k : Nat} {st : St} {items : List (List ReN)} (h : st.ok = false) : rowLoop s alt k st items = ([], st) := by
  cases k with
  | zero => rfl
  | succ k => unfold rowLoop; rw [h]; rfl
theorem rowLoop_end {k : Nat} {st : St} {items : List (List ReN)} (h : st.ok = true) (he : rowEnds (nxt s st 0) = true) : rowLoop s alt (k + 1) st items = (under (node 0 0 0 false false []) items, st) := by
  unfold rowLoop; rw [h, he]; rfl
theorem rowLoop_on {k : Nat} {st : St} {items : List (List ReN)} (h : st.ok = true) (he : rowEnds (nxt s st 0) = false) : rowLoop s alt (k + 1) st items = rowLoop s alt k (itemP s alt st).2 (items ++ [(itemP s alt st).1]) := by
  rw [rowLoop, h, he]; rfl
end RX

set_option maxRecDepth 100000 in
set_option maxHeartbeats 4000000 in
theorem row_any (w : World) (st : RX.St) (alt : RX.St → List RX.ReN × RX.St) (he : Env w0 rb sv s w st) (ha : st.at_ ≤ s.length) (h9 : st.caps ≤ 9) {c : Nat} {d : Int} (hk : RX.AltOk s c d alt) (hc : c ≤ 20) (hd : d ≤ 100) (hd0 : 0 ≤ d) (HA : st.op < 12 → AltC w0 rb sv s alt (st.op + 1)) :
    Calls Tryz.prog 56 #[.pointer (some ⟨rb, 0, none⟩)] w (PostR (fun w' v => SlRe (rb + 1) (rb + 1) w' v (RX.rowP s alt st).1) rb sv w (RX.rowP s alt st).2 (s.length + 30)) := by
  have HC := Lib.hid (Rws.start he)
  have hl60 := he.len
  have H9 := Lib.hid (And.intro hk (And.intro hc (And.intro hd (And.intro hd0 HA))))
  have HB := Lib.hid (RX.rowP_fwd hk hd0 ha h9).1
  have HF := Lib.hid (RX.Fwd.refl (s := s) (c + 1) ha h9)
  obtain ⟨R, hR⟩ : ∃ R, RX.rowP s alt st = R := ⟨_, rfl⟩
  rw [hR] at HB
  have HR := Lib.hid hR
  clear he hk hd hd0 HA hR
  rw [HR.out]
  go_enter Tryz.func56, Tryz.ntmps56
  go_wp2_with fail
  go_loopg [3] (s.length + 2 - st.at_) (fun k v wr => ∃ (st' : RX.St) (items : List (List RX.ReN)), Rws w0 rb sv s w st' v items wr ∧ RX.rowLoop s alt k st' items = R ∧ RX.Fwd s (c + 1) st st' ∧ (st'.ok = true → s.length + 1 ≤ k + st'.at_ ∧ items.length ≤ st'.at_ - st.at_) ∧ items.length ≤ 200 ∧
    (∀ l ∈ items, ∀ x ∈ l, 0 ≤ x.deep ∧ x.deep ≤ d + 2) ∧ items.flatten.length ≤ 2 * (st'.at_ - st.at_))
  case atStart => exact ⟨st, [], HC.out, HR.out, HF.out, fun _ => ⟨by omega, by simp⟩, by simp, by simp, by simp⟩
  case round =>
    obtain ⟨st', items, hcs, hlo, hfw, hrd, hil, hdp, hfl⟩ := hrel
    have HC := Lib.hid hcs
    have HL := Lib.hid hlo
    have HF := Lib.hid hfw
    have HD := Lib.hid hrd
    have HP := Lib.hid hdp
    have hat : st'.at_ ≤ s.length + (c + 1) := hfw.hi
    obtain ⟨Ai, ci, rfl, hci, hcm⟩ := hcs.own.form
    clear hcs hlo hrd hdp hfw
    have hr1 := HC.out.env.rs; have c1 := hr1.c1; have f1 := hr1.fr 1; have hrl := HC.out.rbl; clear hr1
    rcases hok : st'.ok with _ | _
    · go_wp2_with (first | (go_at_call 36; apply Calls.mono; apply ok_any (w0 := w0) (rb := rb) (sv := sv) (s := s); (apply Rws.env; (focus (repeat (first | exact HC.out | apply Rws.drewN | apply Rws.bump | apply Rws.alloc)))); rintro e w' ⟨rfl, n, rfl⟩))
      go_ret
      have hz := HL.out
      rw [RX.rowLoop_bad hok] at hz
      rw [← hz]
      have HX := HC.out.drewN (n := n)
      exact PostR.of HX.env.rs HX.only (by omega) SlB.nil_ rfl
    · obtain ⟨hrd, hil2⟩ := HD.out hok
      have hatl := HF.out.okl hok
      obtain ⟨k, rfl⟩ : ∃ k, gk = k + 1 := ⟨gk - 1, by omega⟩
      rcases hre : RX.rowEnds (RX.nxt s st' 0) with _ | _
      · have hne := rowEnds_not hre
        have hlt := RX.nxt_in (k := 0) hne.1
        obtain ⟨hk, hc2, hd, hd0, hHA⟩ := H9.out
        have hop : st'.op = st.op := HF.out.op
        have hif := RX.itemP_fwd hk hd0 hok hlt HF.out.caps9
        have HGi := Lib.hid (fun w he => item_any (w0 := w0) (rb := rb) (sv := sv) (s := s) w st' alt he hok hlt HF.out.caps9 hk hc hd hd0 (hop ▸ hHA))
        have HI := Lib.hid hif
        have HZ := Lib.hid (show RX.rowLoop s alt k (RX.itemP s alt st').2 (items ++ [(RX.itemP s alt st').1]) = R by rw [← HL.out, RX.rowLoop_on hok hre])
        generalize RX.itemP s alt st' = it at HGi HI HZ
        have b1 : (RX.nxt s st' 0 == -1) = false := by simpa using hne.1
        have b2 : (RX.nxt s st' 0 == 124) = false := by simpa using hne.2.1
        have b3 : (RX.nxt s st' 0 == 41) = false := by simpa using hne.2.2
        clear hk hd hd0 hHA hop hif hne hre
        go_wp2_with (first | (go_at_call 36; apply Calls.mono; apply ok_any (w0 := w0) (rb := rb) (sv := sv) (s := s); (apply Rws.env; (focus (repeat (first | exact HC.out | apply Rws.drewN | apply Rws.bump | apply Rws.alloc)))); rintro e w' ⟨rfl, n, rfl⟩) | (go_at_call 57; apply Calls.mono; apply peek_any (w0 := w0) (rb := rb) (sv := sv) (s := s); (apply Rws.env; (focus (repeat (first | exact HC.out | apply Rws.drewN | apply Rws.bump | apply Rws.alloc)))); (first | omega | (simp only [RX.St.bump] at *; omega)); rintro e w' ⟨rfl, n, rfl⟩) | (go_at_call 73; refine (HGi.out _ ?hen).mono ?_; (case hen => (apply Rws.env; (focus (repeat (first | exact HC.out | apply Rws.drewN | apply Rws.bump | apply Rws.alloc))))); rintro e w' ⟨v, rfl, hv, hr, ho, hb⟩; have HC := Lib.hid (Rws.call (by (focus (repeat (first | exact HC.out | apply Rws.drewN | apply Rws.bump | apply Rws.alloc)))) hr ho); have hr1 := HC.out.env.rs; have c1 := hr1.c1; have f1 := hr1.fr 1; have hrl := HC.out.rbl; clear hr1; clear hr ho hb; obtain ⟨Aa, ca, rfl, _⟩ := hv.form; have HV := Lib.hid hv; clear hv) | (at_builtin; go_loud (refine app_one Tryz.underlying102 info_rows rfl Nat.one_pos ?hby (keeps_l (rb + 1)) ?hT rfl _ _ rfl w.heap.size _ items it.1 [.slice Aa it.1.length ca] 51 ?hown ?hy rfl ?h1 rfl _ rfl ?hnb ?hn ?hB ?_; (case hby => decide); (case hT => decide); (case hown => (apply Rws.own; (focus (repeat (first | exact HC.out | apply Rws.drewN | apply Rws.bump | apply Rws.alloc))))); (case hy => exact ⟨_, rfl, HV.out⟩); (case h1 => (intro u hu; simp at hu; subst hu; rfl)); (case hnb => (first | rfl | simp)); (case hn => omega); (case hB => exact HC.out.only.size); intro v' w' h1 h2; have hz := Rws.app (Rws.alloc HC.out) h1 h2; obtain ⟨Ax, cx, rfl, hcx, hcy⟩ := h1.form; have HX := Lib.hid hz; clear h1 h2 hz)))
        go_roundg k
        case measure => omega
        case rel =>
          have hif := HI.out
          have hz := HX.out
          rw [List.length_append] at hz
          refine ⟨it.2, items ++ [it.1], hz, HZ.out, HF.out.trans hif.1, fun ho => ?_, ?_, ?_, ?_⟩
          · have := hif.2.2 ho
            have := HF.out.mono
            rw [List.length_append]; simp only [List.length_cons, List.length_nil]
            omega
          · rw [List.length_append]; simp only [List.length_cons, List.length_nil]; omega
          · intro l hl x hx
            rcases List.mem_append.1 hl with hl | hl
            · exact HP.out l hl x hx
            · simp at hl; subst hl; exact hif.2.1.2 x hx
          · rw [List.flatten_append, List.length_append, List.flatten_singleton]
            have := hif.2.1.1
            have := hif.1.mono
            have := HF.out.mono
            omega
      · have HZ := Lib.hid (show (RX.under (RX.node 0 0 0 false false []) items, st') = R by rw [← HL.out, RX.rowLoop_end hok hre])
        have HS := Lib.hid (show Small (RX.node 0 0 0 false false []) items from ⟨by rw [RX.under_len]; omega, fun l hl x hx => by have := HP.out l hl x hx; have := H9.out.2.2.1; omega⟩)
        rcases rowEnds_cases hre with h | ⟨h1, h⟩ | ⟨h1, h2, h⟩
        · have b1 : (RX.nxt s st' 0 == -1) = true := by simpa using h
          clear h hre
          go_wp2_with (first | (go_at_call 36; apply Calls.mono; apply ok_any (w0 := w0) (rb := rb) (sv := sv) (s := s); (apply Rws.env; (focus (repeat (first | exact HC.out | apply Rws.drewN | apply Rws.bump | apply Rws.alloc)))); rintro e w' ⟨rfl, n, rfl⟩) | (go_at_call 57; apply Calls.mono; apply peek_any (w0 := w0) (rb := rb) (sv := sv) (s := s); (apply Rws.env; (focus (repeat (first | exact HC.out | apply Rws.drewN | apply Rws.bump | apply Rws.alloc)))); (first | omega | (simp only [RX.St.bump] at *; omega)); rintro e w' ⟨rfl, n, rfl⟩) | (go_at_call 58; apply Calls.mono; apply under_any (B := rb + 1); apply CR.mk0; (exact SlB.weaken (OwnB.sl (Rws.own (by (focus (repeat (first | exact HC.out | apply Rws.drewN | apply Rws.bump | apply Rws.alloc)))))) HC.out.le); exact HS.out; rintro e w' ⟨vr, rfl, hown, hx⟩; have HV := Lib.hid (SlB.weaken (base' := rb + 1) hown.sl (by (focus (first | omega | (simp; omega))))); have HC := Lib.hid (Rws.ext (by (focus (repeat (first | exact HC.out | apply Rws.drewN | apply Rws.bump | apply Rws.alloc)))) hx); have hr1 := HC.out.env.rs; have c1 := hr1.c1; have f1 := hr1.fr 1; have hrl := HC.out.rbl; clear hr1; clear hx hown))
          go_ret
          rw [← HZ.out]
          exact PostR.of HC.out.env.rs HC.out.only (by omega) HV.out rfl
        · have b1 : (RX.nxt s st' 0 == -1) = false := by simpa using h1
          have b2 : (RX.nxt s st' 0 == 124) = true := by simpa using h
          clear h h1 hre
          go_wp2_with (first | (go_at_call 36; apply Calls.mono; apply ok_any (w0 := w0) (rb := rb) (sv := sv) (s := s); (apply Rws.env; (focus (repeat (first | exact HC.out | apply Rws.drewN | apply Rws.bump | apply Rws.alloc)))); rintro e w' ⟨rfl, n, rfl⟩) | (go_at_call 57; apply Calls.mono; apply peek_any (w0 := w0) (rb := rb) (sv := sv) (s := s); (apply Rws.env; (focus (repeat (first | exact HC.out | apply Rws.drewN | apply Rws.bump | apply Rws.alloc)))); (first | omega | (simp only [RX.St.bump] at *; omega)); rintro e w' ⟨rfl, n, rfl⟩) | (go_at_call 58; apply Calls.mono; apply under_any (B := rb + 1); apply CR.mk0; (exact SlB.weaken (OwnB.sl (Rws.own (by (focus (repeat (first | exact HC.out | apply Rws.drewN | apply Rws.bump | apply Rws.alloc)))))) HC.out.le); exact HS.out; rintro e w' ⟨vr, rfl, hown, hx⟩; have HV := Lib.hid (SlB.weaken (base' := rb + 1) hown.sl (by (focus (first | omega | (simp; omega))))); have HC := Lib.hid (Rws.ext (by (focus (repeat (first | exact HC.out | apply Rws.drewN | apply Rws.bump | apply Rws.alloc)))) hx); have hr1 := HC.out.env.rs; have c1 := hr1.c1; have f1 := hr1.fr 1; have hrl := HC.out.rbl; clear hr1; clear hx hown))
          go_ret
          rw [← HZ.out]
          exact PostR.of HC.out.env.rs HC.out.only (by omega) HV.out rfl
        · have b1 : (RX.nxt s st' 0 == -1) = false := by simpa using h1
          have b2 : (RX.nxt s st' 0 == 124) = false := by simpa using h2
          have b3 : (RX.nxt s st' 0 == 41) = true := by simpa using h
          clear h h1 h2 hre
          go_wp2_with (first | (go_at_call 36; apply Calls.mono; apply ok_any (w0 := w0) (rb := rb) (sv := sv) (s := s); (apply Rws.env; (focus (repeat (first | exact HC.out | apply Rws.drewN | apply Rws.bump | apply Rws.alloc)))); rintro e w' ⟨rfl, n, rfl⟩) | (go_at_call 57; apply Calls.mono; apply peek_any (w0 := w0) (rb := rb) (sv := sv) (s := s); (apply Rws.env; (focus (repeat (first | exact HC.out | apply Rws.drewN | apply Rws.bump | apply Rws.alloc)))); (first | omega | (simp only [RX.St.bump] at *; omega)); rintro e w' ⟨rfl, n, rfl⟩) | (go_at_call 58; apply Calls.mono; apply under_any (B := rb + 1); apply CR.mk0; (exact SlB.weaken (OwnB.sl (Rws.own (by (focus (repeat (first | exact HC.out | apply Rws.drewN | apply Rws.bump | apply Rws.alloc)))))) HC.out.le); exact HS.out; rintro e w' ⟨vr, rfl, hown, hx⟩; have HV := Lib.hid (SlB.weaken (base' := rb + 1) hown.sl (by (focus (first | omega | (simp; omega))))); have HC := Lib.hid (Rws.ext (by (focus (repeat (first | exact HC.out | apply Rws.drewN | apply Rws.bump | apply Rws.alloc)))) hx); have hr1 := HC.out.env.rs; have c1 := hr1.c1; have f1 := hr1.fr 1; have hrl := HC.out.rbl; clear hr1; clear hx hown))
          go_ret
          rw [← HZ.out]
          exact PostR.of HC.out.env.rs HC.out.only (by omega) HV.out rfl
end
end Go.Proofs.YtfblkahjefdmaaaGreat

/- Walks: alternatives of package resyn, on every level. -/
namespace Go.Proofs.YtfblkahjefdmaaaGreat
open Go.RowKit
namespace RX
variable {s : List Int} {alt : St → List ReN × St}
theorem altLoop_off {k : Nat} {st : St} {rows : List (List ReN)} (h : (st.ok && decide (nxt s st 0 = 124)) = false) : altLoop s alt k st rows = (rows, st) := by
  cases k with
  | zero => rfl
  | succ k => unfold altLoop; rw [h]; rfl
theorem altLoop_on {k : Nat} {st : St} {rows : List (List ReN)} (h : (st.ok && decide (nxt s st 0 = 124)) = true) : altLoop s alt (k + 1) st rows = altLoop s alt k (rowP s alt (st.bump 1)).2 (rows ++ [(rowP s alt (st.bump 1)).1]) := by
  rw [altLoop, if_pos h]
/-- What is made of the rows. -/
def joined (rows : List (List ReN)) : List ReN := if rows.length = 1 then rows.headD [] else under (node 1 0 0 false false []) rows
theorem altP_eq (st : St) : altP s alt st = (joined (altLoop s alt (s.length + 2 - (rowP s alt st).2.at_) (rowP s alt st).2 [(rowP s alt st).1]).1, (altLoop s alt (s.length + 2 - (rowP s alt st).2.at_) (rowP s alt st).2 [(rowP s alt st).1]).2) := rfl
end RX
theorem eq_dec (x : Int) : (x == 124) = (true && decide (x = 124)) := by simp; rfl
section
variable {w0 : World} {rb : Nat} {sv : Value} {s : List Int}
set_option maxRecDepth 100000 in
set_option maxHeartbeats 4000000 in
theorem alt_any (w : World) (st : RX.St) (alt : RX.St → List RX.ReN × RX.St) (he : Env w0 rb sv s w st) (hok : st.ok = true) (ha : st.at_ ≤ s.length) (h9 : st.caps ≤ 9) {c : Nat} {d : Int} (hk : RX.AltOk s c d alt) (hc : c ≤ 20) (hd : d ≤ 100) (hd0 : 0 ≤ d) (HA : st.op < 12 → AltC w0 rb sv s alt (st.op + 1)) :
    Calls Tryz.prog 35 #[.pointer (some ⟨rb, 0, none⟩)] w (PostR (fun w' v => SlRe (rb + 1) (rb + 1) w' v (RX.altP s alt st).1) rb sv w (RX.altP s alt st).2 (s.length + 30)) := by
  have HC := Lib.hid (Rws.start he)
  have hl60 := he.len
  have hrl := he.rbl
  have H9 := Lib.hid (And.intro hk (And.intro hc (And.intro hd (And.intro hd0 HA))))
  have HB := Lib.hid (RX.altP_ok hk hd0 st hok ha h9).1
  have HRw := Lib.hid (RX.rowP_fwd hk hd0 ha h9)
  have HGr := Lib.hid (fun w he => row_any (w0 := w0) (rb := rb) (sv := sv) (s := s) w st alt he ha h9 hk hc hd hd0 HA)
  rw [RX.altP_eq] at HB
  rw [RX.altP_eq]
  generalize RX.rowP s alt st = it at HGr HB HRw ⊢
  obtain ⟨R, hR⟩ : ∃ R, RX.altLoop s alt (s.length + 2 - it.2.at_) it.2 [it.1] = R := ⟨_, rfl⟩
  rw [hR] at HB
  have HR := Lib.hid hR
  have hat0 : it.2.at_ ≤ s.length + (c + 1) := HRw.out.1.hi
  clear he hk hd hd0 HA hR
  rw [HR.out]
  go_enter Tryz.func35, Tryz.ntmps35
  go_wp2_with (first | (go_at_call 56; refine (HGr.out _ ?hen).mono ?_; (case hen => (apply Rws.env; (focus (repeat (first | exact HC.out | apply Rws.drewN | apply Rws.bump | apply Rws.alloc))))); rintro e w' ⟨v, rfl, hv, hr, ho, hb⟩; have HC := Lib.hid (Rws.call (by (focus (repeat (first | exact HC.out | apply Rws.drewN | apply Rws.bump | apply Rws.alloc)))) hr ho); have hr1 := HC.out.env.rs; have c1 := hr1.c1; have f1 := hr1.fr 1; have hrl := HC.out.rbl; clear hr1; clear hr ho hb; obtain ⟨Aa, ca, rfl, _⟩ := hv.form; have HV := Lib.hid hv; clear hv))
  have HX := Lib.hid (show Rws w0 rb sv s w it.2 (.slice (some ⟨w'.heap.size, 0, none⟩) 1 1) [it.1] (w'.alloc (.cells #[.slice Aa it.1.length ca] 51)) from
    ⟨HC.out.env.alloc _, HC.out.only.alloc _, OwnB.lit (sz := 1) (w := w') _ [it.1] _ _ rfl rfl HC.out.only.size (by simp) (by simp) (by
      intro k y hy
      match k, hy with
      | 0, hy =>
        simp at hy; subst hy
        exact ⟨[.slice Aa it.1.length ca], ⟨_, rfl, SlB.keepB HV.out (keepsB_re _) (KeepB.only ((Only.refl w' rb).alloc _))⟩, rfl, fun i u hu => by simpa using hu⟩), HC.out.le⟩)
  have HC := HX
  clear c1 f1
  go_loopg [3] (s.length + 2 - it.2.at_) (fun k v wr => ∃ (st' : RX.St) (items : List (List RX.ReN)), Rws w0 rb sv s w st' v items wr ∧ RX.altLoop s alt k st' items = R ∧ RX.Fwd s (c + 1) st st' ∧ (st'.ok = true → s.length + 1 ≤ k + st'.at_) ∧ items.length ≤ 1 + st'.at_ ∧ 1 ≤ items.length ∧
    (∀ l ∈ items, ∀ x ∈ l, 0 ≤ x.deep ∧ x.deep ≤ d + 3) ∧ items.flatten.length ≤ 2 * (st'.at_ - st.at_) + 1)
  case atStart =>
    refine ⟨it.2, [it.1], HC.out, HR.out, HRw.out.1, fun ho => ?_, by simp, by simp, ?_, ?_⟩
    · have := HRw.out.1.okl ho; omega
    · intro l hl x hx; simp at hl; subst hl; exact HRw.out.2.2 x hx
    · simpa using HRw.out.2.1
  case round =>
    obtain ⟨st', items, hcs, hlo, hfw, hrd, hil, hil1, hdp, hfl⟩ := hrel
    have HC := Lib.hid hcs
    have HL := Lib.hid hlo
    have HF := Lib.hid hfw
    have HD := Lib.hid hrd
    have HP := Lib.hid hdp
    have hat : st'.at_ ≤ s.length + (c + 1) := hfw.hi
    obtain ⟨Ai, ci, rfl, hci, hcm⟩ := hcs.own.form
    clear hcs hlo hrd hdp hfw
    have hr1 := HC.out.env.rs; have c1 := hr1.c1; have f1 := hr1.fr 1; have hrl := HC.out.rbl; clear hr1
    go_upto_region 2 with fail
    go_cut [13] (fun s13 wx => ∃ b, s13 = .bool b ∧ b = (st'.ok && decide (RX.nxt s st' 0 = 124)) ∧ Rws w0 rb sv s w st' (.slice Ai items.length ci) items wx)
    case first =>
      rcases hok2 : st'.ok with _ | _
      · go_wp2_with (first | (go_at_call 36; apply Calls.mono; apply ok_any (w0 := w0) (rb := rb) (sv := sv) (s := s); (apply Rws.env; (focus (repeat (first | exact HC.out | apply Rws.drewN | apply Rws.bump | apply Rws.alloc)))); rintro e w' ⟨rfl, n, rfl⟩))
        go_meet
        exact ⟨_, rfl, by rw [hok2]; rfl, by (focus (repeat (first | exact HC.out | apply Rws.drewN | apply Rws.bump | apply Rws.alloc)))⟩
      · go_wp2_with (first | (go_at_call 36; apply Calls.mono; apply ok_any (w0 := w0) (rb := rb) (sv := sv) (s := s); (apply Rws.env; (focus (repeat (first | exact HC.out | apply Rws.drewN | apply Rws.bump | apply Rws.alloc)))); rintro e w' ⟨rfl, n, rfl⟩) | (go_at_call 57; apply Calls.mono; apply peek_any (w0 := w0) (rb := rb) (sv := sv) (s := s); (apply Rws.env; (focus (repeat (first | exact HC.out | apply Rws.drewN | apply Rws.bump | apply Rws.alloc)))); (first | omega | (simp only [RX.St.bump] at *; omega)); rintro e w' ⟨rfl, n, rfl⟩))
        go_meet
        exact ⟨_, rfl, by rw [hok2]; exact eq_dec _, by (focus (repeat (first | exact HC.out | apply Rws.drewN | apply Rws.bump | apply Rws.alloc)))⟩
    case rest =>
      obtain ⟨b, rfl, hb, hcc⟩ := hcut
      have HC := Lib.hid hcc
      have HB2 := Lib.hid hb
      clear hcc hb
      have hr1 := HC.out.env.rs; have c1 := hr1.c1; have f1 := hr1.fr 1; have hrl := HC.out.rbl; clear hr1
      rcases b with _ | _
      · have hz := HL.out
        rw [RX.altLoop_off HB2.out.symm] at hz
        have HZ := Lib.hid hz
        clear hz
        by_cases h1 : items.length = 1
        · have hb1 : ((items.length : Int) == 1) = true := by simp [h1]
          obtain ⟨l1, hl1⟩ : ∃ l, items = [l] := by
            match items, h1 with
            | [l], _ => exact ⟨l, rfl⟩
          have hJ : RX.joined items = l1 := by rw [hl1]; rfl
          have hat2 := HC.out.own.sl.at_ (k := 0) (by omega)
          obtain ⟨g, o, cs, rfl, hcl, hce⟩ := hat2
          obtain ⟨va, rfl, hva⟩ := hcl
          have c0 := hce 0 va rfl
          rw [Nat.zero_mul, Nat.add_zero] at c0
          have hx0 : items[0] = l1 := by simp [hl1]
          rw [hx0] at hva
          have HV := Lib.hid hva
          obtain ⟨Aa, ca, rfl, _⟩ := hva.form
          have HJ := Lib.hid (And.intro hJ h1)
          have hb2 : 0 < items.length := by omega
          clear hva hce hJ hx0 hl1 h1
          go_wp2_with fail
          go_ret
          rw [← HZ.out, HJ.out.1]
          exact PostR.of HC.out.env.rs HC.out.only (by omega) HV.out rfl
        · have hb1 : ((items.length : Int) == 1) = false := by simpa using (by omega : ¬ (items.length : Int) = 1)
          have hJ : RX.joined items = RX.under (RX.node 1 0 0 false false []) items := by unfold RX.joined; rw [if_neg h1]
          have HJ := Lib.hid hJ
          have HS := Lib.hid (show Small (RX.node 1 0 0 false false []) items from ⟨by rw [RX.under_len]; omega, fun l hl x hx => by have := HP.out l hl x hx; have := H9.out.2.2.1; omega⟩)
          clear hJ h1
          go_wp2_with (first | (go_at_call 58; apply Calls.mono; apply under_any (B := rb + 1); apply CR.mk0; (exact SlB.weaken (OwnB.sl (Rws.own (by (focus (repeat (first | exact HC.out | apply Rws.drewN | apply Rws.bump | apply Rws.alloc)))))) HC.out.le); exact HS.out; rintro e w' ⟨vr, rfl, hown, hx⟩; have HV := Lib.hid (SlB.weaken (base' := rb + 1) hown.sl (by (focus (first | omega | (simp; omega))))); have HC := Lib.hid (Rws.ext (by (focus (repeat (first | exact HC.out | apply Rws.drewN | apply Rws.bump | apply Rws.alloc)))) hx); have hr1 := HC.out.env.rs; have c1 := hr1.c1; have f1 := hr1.fr 1; have hrl := HC.out.rbl; clear hr1; clear hx hown))
          go_ret
          rw [← HZ.out, HJ.out]
          exact PostR.of HC.out.env.rs HC.out.only (by omega) HV.out rfl
      · have h0 := HB2.out.symm
        simp only [Bool.and_eq_true, decide_eq_true_eq] at h0
        have hrd := HD.out h0.1
        have hatl := HF.out.okl h0.1
        obtain ⟨k, rfl⟩ : ∃ k, gk = k + 1 := ⟨gk - 1, by omega⟩
        have hlt := RX.nxt_in (s := s) (k := 0) (st := st') (by omega)
        have HF2 := Lib.hid (HF.out.bump 1 hlt)
        obtain ⟨hk, hc2, hd, hd0, hHA⟩ := H9.out
        have hop : st'.op = st.op := HF.out.op
        have hrw := RX.rowP_fwd hk hd0 (st := st'.bump 1) hlt HF.out.caps9
        have HGr := Lib.hid (fun w he => row_any (w0 := w0) (rb := rb) (sv := sv) (s := s) w (st'.bump 1) alt he hlt HF.out.caps9 hk hc hd hd0 (show st'.op < 12 → AltC w0 rb sv s alt (st'.op + 1) from hop ▸ hHA))
        have HI := Lib.hid hrw
        have HZ := Lib.hid (show RX.altLoop s alt k (RX.rowP s alt (st'.bump 1)).2 (items ++ [(RX.rowP s alt (st'.bump 1)).1]) = R by rw [← HL.out, RX.altLoop_on HB2.out.symm])
        clear HRw hat0
        generalize RX.rowP s alt (st'.bump 1) = it at HGr HI HZ
        have hm : st'.at_ + 1 ≤ it.2.at_ := HI.out.1.mono
        clear hk hd hd0 hHA hop hrw h0
        go_wp2_with (first | (go_at_call 56; refine (HGr.out _ ?hen).mono ?_; (case hen => (apply Rws.env; (focus (repeat (first | exact HC.out | apply Rws.drewN | apply Rws.bump | apply Rws.alloc))))); rintro e w' ⟨v, rfl, hv, hr, ho, hb⟩; have HC := Lib.hid (Rws.call (by (focus (repeat (first | exact HC.out | apply Rws.drewN | apply Rws.bump | apply Rws.alloc)))) hr ho); have hr1 := HC.out.env.rs; have c1 := hr1.c1; have f1 := hr1.fr 1; have hrl := HC.out.rbl; clear hr1; clear hr ho hb; obtain ⟨Aa, ca, rfl, _⟩ := hv.form; have HV := Lib.hid hv; clear hv) | (at_builtin; go_loud (refine app_one Tryz.underlying102 info_rows rfl Nat.one_pos ?hby (keeps_l (rb + 1)) ?hT rfl _ _ rfl w.heap.size _ items it.1 [.slice Aa it.1.length ca] 51 ?hown ?hy rfl ?h1 rfl _ rfl ?hnb ?hn ?hB ?_; (case hby => decide); (case hT => decide); (case hown => (apply Rws.own; (focus (repeat (first | exact HC.out | apply Rws.drewN | apply Rws.bump | apply Rws.alloc))))); (case hy => exact ⟨_, rfl, HV.out⟩); (case h1 => (intro u hu; simp at hu; subst hu; rfl)); (case hnb => (first | rfl | simp)); (case hn => omega); (case hB => exact HC.out.only.size); intro v' w' h1 h2; have hz := Rws.app (Rws.alloc HC.out) h1 h2; obtain ⟨Ax, cx, rfl, hcx, hcy⟩ := h1.form; have HX := Lib.hid hz; clear h1 h2 hz)))
        go_roundg k
        case measure => omega
        case rel =>
          have hif := HI.out
          have hz := HX.out
          rw [List.length_append] at hz
          refine ⟨it.2, items ++ [it.1], hz, HZ.out, HF2.out.trans hif.1, fun ho => ?_, ?_, ?_, ?_, ?_⟩
          · omega
          · rw [List.length_append]; simp only [List.length_cons, List.length_nil]; omega
          · rw [List.length_append]; simp only [List.length_cons, List.length_nil]; omega
          · intro l hl x hx
            rcases List.mem_append.1 hl with hl | hl
            · exact HP.out l hl x hx
            · simp at hl; subst hl; exact hif.2.2 x hx
          · rw [List.flatten_append, List.length_append, List.flatten_singleton]
            have h5 := hif.2.1
            have h6 : (st'.bump 1).at_ = st'.at_ + 1 := rfl
            have := HF.out.mono
            omega

theorem altN_c (s : List Int) : ∀ (n op : Nat), op + n = 12 → AltC w0 rb sv s (RX.altN s n) op
  | 0, op, h => fun w st he hok ha h9 hop =>
    alt_any w st _ he hok ha h9 (c := 1) (d := 0) RX.AltOk.stub (by omega) (by omega) (by omega) (fun h1 => by omega)
  | n + 1, op, h => fun w st he hok ha h9 hop =>
    alt_any w st _ he hok ha h9 (RX.altN_ok s n) (by omega) (by omega) (by omega) (fun _ => altN_c s n (st.op + 1) (by omega))
end
end Go.Proofs.YtfblkahjefdmaaaGreat

/- Walks: slices.IndexFunc, Parse, Groups of package resyn. -/
namespace Go.Proofs.YtfblkahjefdmaaaGreat
open Go.RowKit

set_option maxHeartbeats 400000 in
theorem none_any (c : Int) (w : World) : Calls Tryz.prog 33 #[.int .i32 c] w (RetD (.bool (RX.classOf c == 0)) w) := by
  go_enter Tryz.func33, Tryz.ntmps33
  go_wp2_with fail
  refine (class_any _ _).mono ?_
  rintro e w' ⟨rfl, n, rfl⟩
  go_wp2_with fail
  go_ret
  exact ⟨rfl, _, rfl⟩

/-- The first place of a sign that is none; -1: there is no such place. -/
def firstNo (s : List Int) : Int := match s.findIdx? (fun c => RX.classOf c == 0) with | some i => i | none => -1
theorem firstNo_none {s : List Int} (h : ∀ x ∈ s, (RX.classOf x == 0) = false) : firstNo s = -1 := by
  unfold firstNo
  rw [List.findIdx?_eq_none_iff.2 (by intro x hx; simpa using h x hx)]
theorem firstNo_at {s : List Int} {k : Nat} (hk : k < s.length) (h : ∀ j (hj : j < k), (RX.classOf (s[j]'(by omega)) == 0) = false) (h1 : (RX.classOf s[k] == 0) = true) : firstNo s = k := by
  unfold firstNo
  rw [List.findIdx?_eq_some_iff_getElem.2 ⟨hk, h1, fun j hj => by rw [h j hj]; decide⟩]

set_option maxHeartbeats 1000000 in
theorem index_any (s : List Int) (v : Value) (w : World) (hv : SlC w v s) (_hl : s.length ≤ 1000000) : Calls Tryz.prog 32 #[v, .func (.func 33) #[] #[]] w (RetD (.int .i64 (firstNo s)) w) := by
  obtain ⟨A, c, rfl, hlc, hcm, _⟩ := id hv
  have HV := Lib.hid hv
  clear hv
  go_enter Tryz.func32, Tryz.ntmps32
  go_wp2_with fail
  go_loopw [8] (fun i wr => ∃ k n : Nat, k ≤ s.length ∧ i = .int .i64 k ∧ wr = w.drewN n ∧ ∀ x ∈ s.take k, (RX.classOf x == 0) = false) (fun i _ => s.length - (intOf i).toNat)
  case atStart => exact ⟨0, 0, Nat.zero_le _, rfl, rfl, by simp⟩
  case round =>
    obtain ⟨k, n, hk, rfl, rfl, hall⟩ := hrel
    have HALL := Lib.hid hall
    clear hall
    by_cases hlt : k < s.length
    · obtain ⟨b, o, rfl, hc⟩ := HV.out.at_ hlt
      obtain ⟨x, hx⟩ : ∃ x, s[k] = x := ⟨_, rfl⟩
      rw [hx] at hc
      have HX := Lib.hid hx
      clear hx
      rcases hz : (RX.classOf x == 0) with _ | _
      · go_wp2_with (go_at_call 33; refine (none_any _ _).mono ?_; rintro e w' ⟨rfl, n2, rfl⟩)
        go_roundw
        case rel =>
          refine ⟨k + 1, _, by omega, by go_num, rfl, fun y hy => ?_⟩
          rw [List.take_succ_eq_append_getElem hlt] at hy
          rcases List.mem_append.1 hy with hy | hy
          · exact HALL.out y hy
          · simp at hy; subst hy; rw [HX.out]; exact hz
        case measure => simp [intOf]; omega
      · go_wp2_with (go_at_call 33; refine (none_any _ _).mono ?_; rintro e w' ⟨rfl, n2, rfl⟩)
        go_ret
        refine ⟨ret_congr ?_, _, rfl⟩
        rw [firstNo_at hlt (fun j hj => HALL.out _ (List.mem_take_iff_getElem.2 ⟨j, by omega, rfl⟩)) (by rw [HX.out]; exact hz)]; rfl
    · have hkl : k = s.length := by omega
      have HK := Lib.hid hkl
      clear hkl
      go_wp2_with fail
      go_ret
      refine ⟨ret_congr ?_, _, rfl⟩
      rw [firstNo_none (by intro x hx; exact HALL.out x (by rw [HK.out, List.take_length]; exact hx))]; rfl

/-- Inside of Parse: the reader behind the fault's cells; the tree. -/
structure Pst (w : World) (nb : Nat) (s : List Int) (sv : Value) (st : RX.St) (vl : Value) (l : List RX.ReN) (wr : World) : Prop where
  env : Env (w.alloc (.cells #[.int .i64 0, .int .i64 0] 31)) (nb + 1) sv s wr st
  ext : Ext w wr
  box : wr.heap[nb]? = some (.cells #[.int .i64 0, .int .i64 0] 31 (0, 0))
  val : SlRe (nb + 2) (nb + 2) wr vl l
  nbs : nb = w.heap.size
section
variable {w wr w' : World} {nb : Nat} {s : List Int} {sv vl vl' : Value} {st st' : RX.St} {l l' : List RX.ReN}
theorem Pst.step (h : Pst w nb s sv st vl l wr) (he : Env (w.alloc (.cells #[.int .i64 0, .int .i64 0] 31)) (nb + 1) sv s w' st') (ho : Only wr w' (nb + 1)) : Pst w nb s sv st' vl l w' :=
  ⟨he, h.ext.only ho (by have := h.nbs; omega), (ho.block nb (heap_lt h.box) (by intro e; injection e with e; omega)).trans h.box, SlB.only h.val (keepsB_re _) ho, h.nbs⟩
theorem Pst.drewN {n : Nat} (h : Pst w nb s sv st vl l wr) : Pst w nb s sv st vl l (wr.drewN n) := h.step (h.env.drewN n) ((Only.refl _ _).drewN n)
theorem Pst.call (h : Pst w nb s sv st vl l wr) (hr : RS (nb + 1) sv w' st') (ho : Only wr w' (nb + 1)) : Pst w nb s sv st' vl l w' := h.step (h.env.step ho hr) ho
theorem Pst.setv (h : Pst w nb s sv st vl l wr) (hv : SlRe (nb + 2) (nb + 2) wr vl' l') : Pst w nb s sv st vl' l' wr := ⟨h.env, h.ext, h.box, hv, h.nbs⟩

theorem SlRe.weak {B B' : Nat} (h : SlRe B B w vl l) (hb : B' ≤ B) : SlRe B' B' w vl l := SlB.weaken (SlB.imp h fun _ _ ⟨sv, e, hs⟩ => ⟨sv, e, hs.weaken hb⟩) hb
/-- Behind the store of the fault. -/
theorem Pst.done {n : Nat} {x y : Value} (h : Pst w nb s sv st vl l wr) : SlRe w.heap.size w.heap.size (((wr.drewN n).setCell ⟨nb, 0, none⟩ x).setCell ⟨nb, 1, none⟩ y) vl l ∧ Ext w (((wr.drewN n).setCell ⟨nb, 0, none⟩ x).setCell ⟨nb, 1, none⟩ y) := by
  have hb := h.nbs
  have ho : Only wr (((wr.drewN n).setCell ⟨nb, 0, none⟩ x).setCell ⟨nb, 1, none⟩ y) nb := (((Only.refl _ _).drewN n).set _).set _
  exact ⟨SlRe.weak (SlB.keepB h.val (keepsB_re _) (KeepB.low ho (by omega))) (by omega), h.ext.only ho (by omega)⟩

def ParseP (s : List Int) (w : World) : Ending → World → Prop :=
  RetP2 (fun w' a b => SlRe w.heap.size w.heap.size w' a (RX.parse s).1 ∧ b = .agg #[.int .i64 (RX.parse s).2.1, .int .i64 (RX.parse s).2.2]) w

set_option maxRecDepth 100000 in
set_option maxHeartbeats 4000000 in
theorem parse_any (s : List Int) (v : Value) (w : World) (hv : SlC w v s) : Calls Tryz.prog 19 #[v] w (ParseP s w) := by
  obtain ⟨A, c, rfl, hlc, hcm, _⟩ := id hv
  by_cases hlen : 60 < s.length
  · have hP := Lib.hid (show RX.parse s = ([], 3, 60) by unfold RX.parse; rw [if_pos hlen])
    have hd : decide ((60 : Int) < s.length) = true := by simp; omega
    clear hv
    go_enter Tryz.func19, Tryz.ntmps19
    go_wp2_with fail
    refine bodyPost_ret (v := .tuple #[.slice none 0 0, .agg #[.int .i64 3, .int .i64 60]]) (by simp [results, Tryz.results19, go_sem]) rfl ?_
    exact ⟨_, _, rfl, by rw [hP.out]; exact ⟨SlB.nil_, rfl⟩, (Ext.refl w).alloc _⟩
  have hd : decide ((60 : Int) < s.length) = false := by simp; omega
  have hl60 : s.length ≤ 60 := by omega
  have HX := Lib.hid (fun w' (h : Ext w w') => index_any s _ w' (hv.ext h) (by omega))
  rcases hf : s.findIdx? (fun c => RX.classOf c == 0) with _ | i
  · have hz : firstNo s = -1 := by unfold firstNo; rw [hf]
    rw [hz] at HX
    have HF := Lib.hid hf
    clear hz hf
    go_enter Tryz.func19, Tryz.ntmps19
    go_wp2_with (go_at_call 32; refine (HX.out _ ((Ext.refl w).alloc _)).mono ?_; rintro e w' ⟨rfl, n, rfl⟩)
    have HNB := Lib.hid (rfl : w.heap.size = w.heap.size)
    obtain ⟨nb, hnb⟩ : ∃ nb, nb = w.heap.size := ⟨_, rfl⟩
    have hpre : Pst w nb s (.slice A s.length c) ⟨0, 0, 0, 0, 0⟩ (.slice none 0 0) [] (((w.alloc (.cells #[.int .i64 0, .int .i64 0] 31)).drewN n).alloc (.cells #[.slice A s.length c, .int .i64 0, .int .i64 0, .int .i64 0, .int .i64 0, .int .i64 0] 78)) :=
      ⟨⟨hv.ext ((Ext.refl w).alloc _), by simp; omega, hl60, ((Ext.refl _).drewN n).alloc _, by
          have := heap_alloc_new ((w.alloc (.cells #[.int .i64 0, .int .i64 0] 31)).drewN n) (.cells #[.slice A s.length c, .int .i64 0, .int .i64 0, .int .i64 0, .int .i64 0, .int .i64 0] 78)
          rw [show nb + 1 = ((w.alloc (.cells #[.int .i64 0, .int .i64 0] 31)).drewN n).heap.size by simp; omega]
          exact this⟩, (((Ext.refl w).alloc _).drewN n).alloc _,
        (((Ext.refl _).drewN n).alloc _).heap (hnb ▸ heap_alloc_new w _), SlB.nil_, hnb⟩
    have HC := Lib.hid hpre
    have hN := RX.altN_ok s 12 ⟨0, 0, 0, 0, 0⟩ rfl (Nat.zero_le _) (by decide)
    have hA : ∀ w2, Env (w.alloc (.cells #[.int .i64 0, .int .i64 0] 31)) (nb + 1) (.slice A s.length c) s w2 ⟨0, 0, 0, 0, 0⟩ → Calls Tryz.prog 35 #[.pointer (some ⟨nb + 1, 0, none⟩)] w2 (PostR (fun w' v => SlRe (nb + 2) (nb + 2) w' v (RX.altN s 12 ⟨0, 0, 0, 0, 0⟩).1) (nb + 1) (.slice A s.length c) w2 (RX.altN s 12 ⟨0, 0, 0, 0, 0⟩).2 (s.length + 30)) :=
      fun w2 he => altN_c s 12 0 rfl w2 _ he rfl (Nat.zero_le _) (by decide) rfl
    have hP : RX.parse s = (if (if (RX.altN s 12 ⟨0, 0, 0, 0, 0⟩).2.ok = true ∧ (RX.altN s 12 ⟨0, 0, 0, 0, 0⟩).2.at_ < s.length then (RX.altN s 12 ⟨0, 0, 0, 0, 0⟩).2.fail 5 (RX.altN s 12 ⟨0, 0, 0, 0, 0⟩).2.at_ else (RX.altN s 12 ⟨0, 0, 0, 0, 0⟩).2).ok = true then ((RX.altN s 12 ⟨0, 0, 0, 0, 0⟩).1, 0, 0) else ([], (if (RX.altN s 12 ⟨0, 0, 0, 0, 0⟩).2.ok = true ∧ (RX.altN s 12 ⟨0, 0, 0, 0, 0⟩).2.at_ < s.length then (RX.altN s 12 ⟨0, 0, 0, 0, 0⟩).2.fail 5 (RX.altN s 12 ⟨0, 0, 0, 0, 0⟩).2.at_ else (RX.altN s 12 ⟨0, 0, 0, 0, 0⟩).2).code, (if (RX.altN s 12 ⟨0, 0, 0, 0, 0⟩).2.ok = true ∧ (RX.altN s 12 ⟨0, 0, 0, 0, 0⟩).2.at_ < s.length then (RX.altN s 12 ⟨0, 0, 0, 0, 0⟩).2.fail 5 (RX.altN s 12 ⟨0, 0, 0, 0, 0⟩).2.at_ else (RX.altN s 12 ⟨0, 0, 0, 0, 0⟩).2).bat)) := by
      unfold RX.parse; rw [if_neg hlen, HF.out]
    generalize RX.altN s 12 ⟨0, 0, 0, 0, 0⟩ = r at hN hA hP
    have hat : r.2.at_ ≤ s.length + 14 := hN.1.hi
    have HA := Lib.hid hA
    have HP := Lib.hid hP
    have HW := Lib.hid hnb
    rw [← hnb]
    clear hpre hN hA hP hnb hv HX
    generalize World.alloc _ _ = wb at HC ⊢
    have hr1 := HC.out.env.rs; have c1 := hr1.c1; have c4 := hr1.c4; have c5 := hr1.c5; have f1 := hr1.fr 1; clear hr1
    have hq := (HA.out _ HC.out.env)
    refine hq.mono ?_
    rintro e w' ⟨v, rfl, hv, hr, ho, hb⟩
    have HC := Lib.hid (Pst.call (by (focus (repeat (first | exact HC.out | apply Pst.drewN)))) hr ho); have hr1 := HC.out.env.rs; have c1 := hr1.c1; have c4 := hr1.c4; have c5 := hr1.c5; have f1 := hr1.fr 1; clear hr1; clear hr ho hb
    obtain ⟨Aa, ca, rfl, _⟩ := hv.form; have HV := Lib.hid hv; clear hv
    have HC := Lib.hid (Pst.setv HC.out HV.out)
    go_upto_region 8 with fail
    go_cut [32] (fun s32 wx => ∃ b, s32 = .bool b ∧ b = (r.2.ok && decide (r.2.at_ < s.length)) ∧ Pst w nb s (.slice A s.length c) r.2 (.slice Aa r.1.length ca) r.1 wx)
    case first =>
      rcases hok : r.2.ok with _ | _
      · go_wp2_with (first | (go_at_call 36; apply Calls.mono; apply ok_any (w0 := w.alloc (.cells #[.int .i64 0, .int .i64 0] 31)) (rb := nb + 1) (sv := .slice A s.length c) (s := s); (apply Pst.env; (focus (repeat (first | exact HC.out | apply Pst.drewN)))); rintro e w' ⟨rfl, n, rfl⟩))
        go_meet
        exact ⟨_, rfl, by rw [hok]; rfl, by (focus (repeat (first | exact HC.out | apply Pst.drewN)))⟩
      · go_wp2_with (first | (go_at_call 36; apply Calls.mono; apply ok_any (w0 := w.alloc (.cells #[.int .i64 0, .int .i64 0] 31)) (rb := nb + 1) (sv := .slice A s.length c) (s := s); (apply Pst.env; (focus (repeat (first | exact HC.out | apply Pst.drewN)))); rintro e w' ⟨rfl, n, rfl⟩))
        go_meet
        exact ⟨_, rfl, by rw [hok]; rfl, by (focus (repeat (first | exact HC.out | apply Pst.drewN)))⟩
    case rest =>
      obtain ⟨b, rfl, hb, hcc⟩ := hcut
      have HC := Lib.hid hcc
      have HB := Lib.hid hb
      clear hb hcc c1 c4 c5 f1
      have hr1 := HC.out.env.rs; have c1 := hr1.c1; have c4 := hr1.c4; have c5 := hr1.c5; have f1 := hr1.fr 1; clear hr1
      go_upto_if 32 with fail
      go_cut [] (fun wx => Pst w nb s (.slice A s.length c) (if r.2.ok = true ∧ r.2.at_ < s.length then r.2.fail 5 r.2.at_ else r.2) (.slice Aa r.1.length ca) r.1 wx)
      case first =>
        rcases b with _ | _
        · have HY := Lib.hid (show ¬ (r.2.ok = true ∧ r.2.at_ < s.length) by have := HB.out; intro h; rw [h.1, decide_eq_true h.2] at this; cases this)
          go_wp2_with fail
          go_meet
          rw [if_neg HY.out]; (focus (repeat (first | exact HC.out | apply Pst.drewN)))
        · have HY := Lib.hid (show r.2.ok = true ∧ r.2.at_ < s.length by have := HB.out.symm; simp only [Bool.and_eq_true, decide_eq_true_eq] at this; exact this)
          go_wp2_with (first | (go_at_call 37; apply Calls.mono; apply fail_any (w0 := w.alloc (.cells #[.int .i64 0, .int .i64 0] 31)) (rb := nb + 1) (sv := .slice A s.length c) (s := s); (apply Pst.env; (focus (repeat (first | exact HC.out | apply Pst.drewN)))); rintro e w' ⟨rfl, hr, ho, hb⟩; have HC := Lib.hid (Pst.call (by (focus (repeat (first | exact HC.out | apply Pst.drewN)))) hr ho); have hr1 := HC.out.env.rs; have c1 := hr1.c1; have c4 := hr1.c4; have c5 := hr1.c5; have f1 := hr1.fr 1; clear hr1; clear hr ho hb))
          go_meet
          rw [if_pos HY.out]; (focus (repeat (first | exact HC.out | apply Pst.drewN)))
      case rest =>
        generalize (if r.2.ok = true ∧ r.2.at_ < s.length then r.2.fail 5 r.2.at_ else r.2) = st2 at hcut HP
        have HC := Lib.hid hcut
        clear hcut c1 c4 c5 f1
        have hr1 := HC.out.env.rs; have c1 := hr1.c1; have c4 := hr1.c4; have c5 := hr1.c5; have f1 := hr1.fr 1; clear hr1
        have b0 := cell_of_row _ nb 0 _ _ _ HC.out.box
        have b1 := cell_of_row _ nb 1 _ _ _ HC.out.box
        have g0 := frozen_of_row _ nb 0 _ _ HC.out.box
        have g1 := frozen_of_row _ nb 1 _ _ HC.out.box
        rcases hok : st2.ok with _ | _
        · go_wp2_with (first | (go_at_call 36; apply Calls.mono; apply ok_any (w0 := w.alloc (.cells #[.int .i64 0, .int .i64 0] 31)) (rb := nb + 1) (sv := .slice A s.length c) (s := s); (apply Pst.env; (focus (repeat (first | exact HC.out | apply Pst.drewN)))); rintro e w' ⟨rfl, n, rfl⟩))
          go_region
          all_goals go_wp2_with fail
          all_goals refine bodyPost_ret (v := .tuple #[.slice none 0 0, .agg #[.int .i64 st2.code, .int .i64 st2.bat]]) (by simp [results, Tryz.results19, go_sem, *]) rfl ?_
          all_goals
            have hp := HP.out
            rw [hok, if_neg (by decide)] at hp
            have hd := HC.out.done (n := n + 1) (x := .int .i64 st2.code) (y := .int .i64 st2.bat)
            exact ⟨_, _, rfl, by rw [hp]; exact ⟨SlB.nil_, rfl⟩, hd.2⟩
        · go_wp2_with (first | (go_at_call 36; apply Calls.mono; apply ok_any (w0 := w.alloc (.cells #[.int .i64 0, .int .i64 0] 31)) (rb := nb + 1) (sv := .slice A s.length c) (s := s); (apply Pst.env; (focus (repeat (first | exact HC.out | apply Pst.drewN)))); rintro e w' ⟨rfl, n, rfl⟩))
          refine bodyPost_ret (v := .tuple #[.slice Aa r.1.length ca, .agg #[.int .i64 0, .int .i64 0]]) (by simp [results, Tryz.results19, go_sem, b0, b1]) rfl ?_
          have hp := HP.out
          rw [hok, if_pos rfl] at hp
          have hd := HC.out.done (n := n) (x := .int .i64 0) (y := .int .i64 0)
          exact ⟨_, _, rfl, by rw [hp]; exact ⟨hd.1, rfl⟩, hd.2⟩
  · have hz : firstNo s = i := by unfold firstNo; rw [hf]
    rw [hz] at HX
    have hP := Lib.hid (show RX.parse s = ([], 1, (i : Int)) by unfold RX.parse; rw [if_neg hlen, hf])
    clear hz hf hv
    go_enter Tryz.func19, Tryz.ntmps19
    go_wp2_with (go_at_call 32; refine (HX.out _ ((Ext.refl w).alloc _)).mono ?_; rintro e w' ⟨rfl, n, rfl⟩)
    refine bodyPost_ret (v := .tuple #[.slice none 0 0, .agg #[.int .i64 1, .int .i64 i]]) (by simp [results, Tryz.results19, go_sem]) rfl ?_
    exact ⟨_, _, rfl, by rw [hP.out]; exact ⟨SlB.nil_, rfl⟩, ((((Ext.refl w).alloc _).drewN n).set (by simp) _).set (by simp) _⟩
end
end Go.Proofs.YtfblkahjefdmaaaGreat

/- Walks: Groups; what every program answers that parses regular texts. -/
namespace Go.Proofs.YtfblkahjefdmaaaGreat
open Go.RowKit

theorem parse_k1 : RX.parse [97, 124, 40, 98, 41] = ([⟨1, 0, 0, 0, false, false, []⟩, ⟨0, 1, 0, 0, false, false, []⟩, ⟨2, 2, 0, 0, false, false, [97, 97]⟩, ⟨0, 1, 0, 0, false, false, []⟩, ⟨5, 2, 1, 0, false, false, []⟩, ⟨0, 3, 0, 0, false, false, []⟩, ⟨2, 4, 0, 0, false, false, [98, 98]⟩], 0, 0) := by kernel_rfl
theorem parse_k2 : RX.parse [97, 42, 42] = ([], 5, 2) := by kernel_rfl
theorem groups_take (l : List RX.ReN) {k : Nat} (h : k < l.length) : RX.groups (l.take (k + 1)) = RX.groups (l.take k) + (if l[k].kind = 5 ∧ 0 < l[k].lo then 1 else 0) := by
  unfold RX.groups
  rw [List.take_succ_eq_append_getElem h, List.filter_append, List.length_append]
  congr 1
  by_cases h1 : l[k].kind = 5 ∧ 0 < l[k].lo
  · rw [if_pos h1]; simp [h1.1, h1.2]
  · rw [if_neg h1]
    have : (decide (l[k].kind = 5) && decide (0 < l[k].lo)) = false := by
      rcases hb : (decide (l[k].kind = 5) && decide (0 < l[k].lo)) with _ | _
      · rfl
      · exact absurd (by simpa using hb) h1
    simp [this]

set_option maxRecDepth 100000 in
set_option maxHeartbeats 1000000 in
theorem groups_any (l : List RX.ReN) (B : Nat) (v : Value) (w : World) (hv : SlRe B B w v l) (_hl : l.length ≤ 1000000) : Calls Tryz.prog 20 #[v] w (Ret (.int .i64 (RX.groups l : Nat)) w) := by
  obtain ⟨A, c, rfl, hlc, hcm⟩ := hv.form
  have HV := Lib.hid hv
  clear hv
  go_enter Tryz.func20, Tryz.ntmps20
  go_wp2_with fail
  go_loopw [3, 8] (fun n i wr => ∃ k : Nat, k ≤ l.length ∧ i = .int .i64 k ∧ n = .int .i64 (RX.groups (l.take k) : Nat) ∧ RX.groups (l.take k) ≤ k ∧ Ext w wr) (fun _ i _ => l.length - (intOf i).toNat)
  case atStart => exact ⟨0, Nat.zero_le _, rfl, rfl, Nat.le_refl _, Ext.refl w⟩
  case round =>
    obtain ⟨k, hk, rfl, rfl, hg, hE⟩ := hrel
    have HE := Lib.hid hE
    by_cases hlt : k < l.length
    · obtain ⟨g, o, cs, rfl, hcr, hcell⟩ := (HV.out.keep (keeps_re B) (KeepT.of_ext hE) (KeepT.of_ext hE)).at_ hlt
      have HT := Lib.hid (groups_take l hlt)
      generalize l[k] = x at hcr HT
      obtain ⟨n2, hn2⟩ : ∃ n2, RX.groups (l.take (k + 1)) = n2 := ⟨_, rfl⟩
      rw [hn2] at HT
      have HN := Lib.hid hn2
      clear hn2
      generalize RX.groups (l.take k) = n1 at HT hg ⊢
      obtain ⟨Ax, cx, rfl⟩ := hcr.cells
      have c0 := hcell 0 _ rfl
      have c1 := hcell 1 _ rfl
      have c2 := hcell 2 _ rfl
      have c3 := hcell 3 _ rfl
      have c4 := hcell 4 _ rfl
      have c5 := hcell 5 _ rfl
      have c6 := hcell 6 _ rfl
      rw [Nat.add_zero] at c0
      clear hcell hcr hE
      rcases h5 : (x.kind == 5) with _ | _
      · have HX := Lib.hid (show n2 = n1 by rw [HT.out, if_neg (fun h => beq_eq_false_iff_ne.1 h5 h.1)]; rfl)
        go_wp2_with fail
        go_roundw
        case rel => exact ⟨k + 1, by omega, by go_num, by rw [HN.out, HX.out], by rw [HN.out, HX.out]; omega, HE.out.alloc _⟩
        case measure => simp [intOf]; omega
      · rcases h0 : decide (0 < x.lo) with _ | _
        · have HX := Lib.hid (show n2 = n1 by rw [HT.out, if_neg (fun h => of_decide_eq_false h0 h.2)]; rfl)
          go_wp2_with fail
          go_roundw
          case rel => exact ⟨k + 1, by omega, by go_num, by rw [HN.out, HX.out], by rw [HN.out, HX.out]; omega, HE.out.alloc _⟩
          case measure => simp [intOf]; omega
        · have HX := Lib.hid (show n2 = n1 + 1 by rw [HT.out, if_pos ⟨beq_iff_eq.1 h5, of_decide_eq_true h0⟩])
          go_wp2_with fail
          go_roundw
          case rel => exact ⟨k + 1, by omega, by go_num, by rw [HN.out, HX.out]; go_num, by rw [HN.out, HX.out]; omega, HE.out.alloc _⟩
          case measure => simp [intOf]; omega
    · have hkl : k = l.length := by omega
      have HK := Lib.hid hkl
      clear hkl hE
      go_wp2_with fail
      go_ret
      exact ⟨ret_congr (by rw [HK.out, List.take_length]; rfl), HE.out⟩

theorem SlB.slc {t B : Nat} {w : World} {v : Value} {xs : List Int} (h : SlB t 1 Cc B w v xs) : SlC w v xs := by
  obtain ⟨A, c, rfl, hl, hc, hn, ha⟩ := h
  refine ⟨A, c, rfl, hl, hc, fun k x hx => ?_, hn⟩
  cases A with
  | none =>
    have := hn rfl
    rw [List.getElem?_eq_none (by omega)] at hx; cases hx
  | some ad =>
    obtain ⟨g, o, cur, rfl, _, h3, _, h5⟩ := ha ad rfl
    obtain ⟨cs, h6, h7⟩ := h5 k x hx
    have h6 : cs = _ := h6
    subst h6
    exact ⟨g, o, rfl, (cell_of_row w g _ cur t (0, 0) h3).trans (h7 0 _ rfl)⟩
theorem parse_lit {s : List Int} {L : List RX.ReN} {c a : Int} {v : Value} {w : World} (h : RX.parse s = (L, c, a)) (hv : SlC w v s) :
    Calls Tryz.prog 19 #[v] w (RetP2 (fun w' x y => SlRe w.heap.size w.heap.size w' x L ∧ y = .agg #[.int .i64 c, .int .i64 a]) w) := by
  refine (parse_any s v w hv).mono ?_
  rintro e w' ⟨x, y, rfl, ⟨h1, rfl⟩, hE⟩
  rw [h] at h1 ⊢
  exact ⟨x, _, rfl, ⟨h1, rfl⟩, hE⟩
def known8L : List RX.ReN := [⟨1, 0, 0, 0, false, false, []⟩, ⟨0, 1, 0, 0, false, false, []⟩, ⟨2, 2, 0, 0, false, false, [97, 97]⟩, ⟨0, 1, 0, 0, false, false, []⟩, ⟨5, 2, 1, 0, false, false, []⟩, ⟨0, 3, 0, 0, false, false, []⟩, ⟨2, 4, 0, 0, false, false, [98, 98]⟩]
theorem known8_len : known8L.length = 7 := rfl
theorem known8_groups : RX.groups known8L = 1 := rfl

end Go.Proofs.YtfblkahjefdmaaaGreat
