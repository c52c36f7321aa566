/- For ResynMadeS: what the texts XAtm XRow XAlt of wip/tpl say. -/
import Derived.Test.YtpcdknfmgacggaaJ
import Derived.Test.YtpcdknfmgacggaaK
set_option maxRecDepth 100000
set_option maxHeartbeats 4000000
namespace Go.Proofs.Ytpcdknfmgacggaa
open Go.RowKit
namespace RX
section
variable {s : List Int} {alt : St → List ReN × St} {st : St}
theorem atomP_bad (h : nxt s st 0 = 42 ∨ nxt s st 0 = 43 ∨ nxt s st 0 = 63 ∨ nxt s st 0 = 123) : atomP s alt st = ([], st.fail 5 st.at_) := by unfold atomP; simp only [if_pos h]
theorem atomP_open (h : nxt s st 0 = 40) : atomP s alt st = groupP s alt st := by unfold atomP; simp [h]
theorem atomP_class (h : nxt s st 0 = 91) : atomP s alt st = classP s (st.bump 1) := by unfold atomP; simp [h]
theorem atomP_esc (h : nxt s st 0 = 92) : atomP s alt st = escaped s st := by unfold atomP; simp [h]
theorem atomP_dot (h : nxt s st 0 = 46) : atomP s alt st = ([node 2 0 0 false true [10, 10]], st.bump 1) := by unfold atomP; simp [h]
theorem atomP_one (h1 : nxt s st 0 ≠ 42) (h2 : nxt s st 0 ≠ 43) (h3 : nxt s st 0 ≠ 63) (h4 : nxt s st 0 ≠ 123) (h5 : nxt s st 0 ≠ 40) (h6 : nxt s st 0 ≠ 91) (h7 : nxt s st 0 ≠ 92) (h8 : nxt s st 0 ≠ 46) :
    atomP s alt st = ([node 2 0 0 false false [nxt s st 0, nxt s st 0]], st.bump 1) := by unfold atomP; simp [h1, h2, h3, h4, h5, h6, h7, h8]
theorem itemP_start (h : nxt s st 0 = 94) : itemP s alt st = ([node 3 0 0 false false []], st.bump 1) := by unfold itemP; simp [h]
theorem itemP_end (h : nxt s st 0 = 36) : itemP s alt st = ([node 4 0 0 false false []], st.bump 1) := by unfold itemP; simp [h]
theorem itemP_atom (h1 : nxt s st 0 ≠ 94) (h2 : nxt s st 0 ≠ 36) : itemP s alt st = if (atomP s alt st).2.ok then repeatP s (atomP s alt st).1 (atomP s alt st).2 else ([], (atomP s alt st).2) := by unfold itemP; simp only [if_neg h1, if_neg h2]
end
end RX
section
variable {w0 : World} {rb : Nat} {sv : Value} {s : List Int}
theorem atom_any (w : World) (st : RX.St) (alt : RX.St → List RX.ReN × RX.St) (he : Env w0 rb sv s w st) (hok : st.ok = true) (ha : st.at_ < s.length) (h9 : st.caps ≤ 9) {c : Nat} {d : Int} (hk : RX.AltOk s c d alt) (hc : c ≤ 20) (hd : d ≤ 100) (hd0 : 0 ≤ d) (HA : st.op < 12 → AltC w0 rb sv s alt (st.op + 1)) :
    Calls Try.prog 42 #[.pointer (some ⟨rb, 0, none⟩)] w (PostR (fun w' v => SlRe (rb + 1) (rb + 1) w' v (RX.atomP s alt st).1) rb sv w (RX.atomP s alt st).2 (s.length + 30)) := by
  have HC := Lib.hid (Rst.start he)
  have hl60 := he.len
  have HGp := Lib.hid (fun w he => group_any (w0 := w0) (rb := rb) (sv := sv) (s := s) w st alt he hok ha h9 hk hc hd HA)
  have HGc := Lib.hid (fun w he => classR_any (w0 := w0) (rb := rb) (sv := sv) (s := s) w (st.bump 1) he ha h9)
  have HGe := Lib.hid (fun w he => escaped_any (w0 := w0) (rb := rb) (sv := sv) (s := s) w st he (by omega))
  have HBD := Lib.hid (show (RX.groupP s alt st).2.at_ ≤ s.length + 30 by have := (RX.groupP_fwd hk hd0 hok ha h9).1.hi; omega)
  clear he hk HA hok hd hc hd0
  have hr1 := HC.out.env.rs; have c1 := hr1.c1; have c2 := hr1.c2; have c3 := hr1.c3; have f1 := hr1.fr 1; have f2 := hr1.fr 2; have f3 := hr1.fr 3; have hrl := HC.out.rbl; clear hr1
  rcases h42 : (RX.nxt s st 0 == 42) with _ | _
  rcases h43 : (RX.nxt s st 0 == 43) with _ | _
  rcases h63 : (RX.nxt s st 0 == 63) with _ | _
  rcases h123 : (RX.nxt s st 0 == 123) with _ | _
  rcases h40 : (RX.nxt s st 0 == 40) with _ | _
  rcases h91 : (RX.nxt s st 0 == 91) with _ | _
  rcases h92 : (RX.nxt s st 0 == 92) with _ | _
  rcases h46 : (RX.nxt s st 0 == 46) with _ | _
  · have HY := Lib.hid (RX.atomP_one (alt := alt) (beq_eq_false_iff_ne.1 h42) (beq_eq_false_iff_ne.1 h43) (beq_eq_false_iff_ne.1 h63) (beq_eq_false_iff_ne.1 h123) (beq_eq_false_iff_ne.1 h40) (beq_eq_false_iff_ne.1 h91) (beq_eq_false_iff_ne.1 h92) (beq_eq_false_iff_ne.1 h46))
    go_enter Try.func42, Try.ntmps42
    go_wp2_with (first | (go_at_call 34; apply Calls.mono; apply peek_any (w0 := w0) (rb := rb) (sv := sv) (s := s); (apply Rst.env; (focus (repeat (first | exact HC.out | apply Rst.drewN | apply Rst.bump | apply Rst.bump3 | apply Rst.setop1 | apply Rst.setcaps1 | apply Rst.alloc)))); (first | omega | (simp only [RX.St.bump] at *; omega)); rintro e w' ⟨rfl, n, rfl⟩))
    go_ret
    rw [HY.out]
    have HX := Rst.bump (Rst.drewN (n := n) HC.out)
    refine PostR.of (HX.alloc.alloc).env.rs (HX.alloc.alloc).only (by show st.at_ + 1 ≤ _; omega) ?_ rfl
    refine re_lit _ (RX.node 2 0 0 false false [RX.nxt s st 0, RX.nxt s st 0]) _ _ (by simp) (by simp; omega) (CR.mk ?_)
    exact c_lit2 (by simp) (by simp; omega)
  · have HY := Lib.hid (RX.atomP_dot (alt := alt) (beq_iff_eq.1 h46))
    go_enter Try.func42, Try.ntmps42
    go_wp2_with (first | (go_at_call 34; apply Calls.mono; apply peek_any (w0 := w0) (rb := rb) (sv := sv) (s := s); (apply Rst.env; (focus (repeat (first | exact HC.out | apply Rst.drewN | apply Rst.bump | apply Rst.bump3 | apply Rst.setop1 | apply Rst.setcaps1 | apply Rst.alloc)))); (first | omega | (simp only [RX.St.bump] at *; omega)); rintro e w' ⟨rfl, n, rfl⟩))
    go_ret
    rw [HY.out]
    have HX := Rst.bump (Rst.drewN (n := n) HC.out)
    refine PostR.of (HX.alloc.alloc).env.rs (HX.alloc.alloc).only (by show st.at_ + 1 ≤ _; omega) ?_ rfl
    refine re_lit _ (RX.node 2 0 0 false true [10, 10]) _ _ (by simp) (by simp; omega) (CR.mk ?_)
    exact c_lit2 (by simp) (by simp; omega)
  · have HY := Lib.hid (RX.atomP_esc (alt := alt) (beq_iff_eq.1 h92))
    go_enter Try.func42, Try.ntmps42
    go_wp2_with (first | (go_at_call 34; apply Calls.mono; apply peek_any (w0 := w0) (rb := rb) (sv := sv) (s := s); (apply Rst.env; (focus (repeat (first | exact HC.out | apply Rst.drewN | apply Rst.bump | apply Rst.bump3 | apply Rst.setop1 | apply Rst.setcaps1 | apply Rst.alloc)))); (first | omega | (simp only [RX.St.bump] at *; omega)); rintro e w' ⟨rfl, n, rfl⟩) | (go_at_call 48; refine (HGe.out _ ?hen).mono ?_; (case hen => (apply Rst.env; (focus (repeat (first | exact HC.out | apply Rst.drewN | apply Rst.bump | apply Rst.bump3 | apply Rst.setop1 | apply Rst.setcaps1 | apply Rst.alloc))))); rintro e w' ⟨v, rfl, hv, hr, ho, hb⟩; have HC := Lib.hid (Rst.call (by (focus (repeat (first | exact HC.out | apply Rst.drewN | apply Rst.bump | apply Rst.bump3 | apply Rst.setop1 | apply Rst.setcaps1 | apply Rst.alloc)))) hr ho); have hr1 := HC.out.env.rs; have c1 := hr1.c1; have c2 := hr1.c2; have c3 := hr1.c3; have f1 := hr1.fr 1; have f2 := hr1.fr 2; have f3 := hr1.fr 3; have hrl := HC.out.rbl; clear hr1; clear hr ho hb; obtain ⟨Aa, ca, rfl, _⟩ := hv.form; have HV := Lib.hid hv; clear hv))
    go_ret
    rw [HY.out]
    exact PostR.of HC.out.env.rs HC.out.only (by have := (RX.escaped_fwd (s := s) ha h9).hi; omega) HV.out rfl
  · have HY := Lib.hid (RX.atomP_class (alt := alt) (beq_iff_eq.1 h91))
    go_enter Try.func42, Try.ntmps42
    go_wp2_with (first | (go_at_call 34; apply Calls.mono; apply peek_any (w0 := w0) (rb := rb) (sv := sv) (s := s); (apply Rst.env; (focus (repeat (first | exact HC.out | apply Rst.drewN | apply Rst.bump | apply Rst.bump3 | apply Rst.setop1 | apply Rst.setcaps1 | apply Rst.alloc)))); (first | omega | (simp only [RX.St.bump] at *; omega)); rintro e w' ⟨rfl, n, rfl⟩) | (go_at_call 47; refine (HGc.out _ ?hen).mono ?_; (case hen => (apply Rst.env; (focus (repeat (first | exact HC.out | apply Rst.drewN | apply Rst.bump | apply Rst.bump3 | apply Rst.setop1 | apply Rst.setcaps1 | apply Rst.alloc))))); rintro e w' ⟨v, rfl, hv, hr, ho, hb⟩; have HC := Lib.hid (Rst.call (by (focus (repeat (first | exact HC.out | apply Rst.drewN | apply Rst.bump | apply Rst.bump3 | apply Rst.setop1 | apply Rst.setcaps1 | apply Rst.alloc)))) hr ho); have hr1 := HC.out.env.rs; have c1 := hr1.c1; have c2 := hr1.c2; have c3 := hr1.c3; have f1 := hr1.fr 1; have f2 := hr1.fr 2; have f3 := hr1.fr 3; have hrl := HC.out.rbl; clear hr1; clear hr ho hb; obtain ⟨Aa, ca, rfl, _⟩ := hv.form; have HV := Lib.hid hv; clear hv))
    go_ret
    rw [HY.out]
    exact PostR.of HC.out.env.rs HC.out.only (by have := (RX.classP_fwd (s := s) (st := st.bump 1) ha h9).hi; omega) HV.out rfl
  · have HY := Lib.hid (RX.atomP_open (alt := alt) (beq_iff_eq.1 h40))
    go_enter Try.func42, Try.ntmps42
    go_wp2_with (first | (go_at_call 34; apply Calls.mono; apply peek_any (w0 := w0) (rb := rb) (sv := sv) (s := s); (apply Rst.env; (focus (repeat (first | exact HC.out | apply Rst.drewN | apply Rst.bump | apply Rst.bump3 | apply Rst.setop1 | apply Rst.setcaps1 | apply Rst.alloc)))); (first | omega | (simp only [RX.St.bump] at *; omega)); rintro e w' ⟨rfl, n, rfl⟩) | (go_at_call 46; refine (HGp.out _ ?hen).mono ?_; (case hen => (apply Rst.env; (focus (repeat (first | exact HC.out | apply Rst.drewN | apply Rst.bump | apply Rst.bump3 | apply Rst.setop1 | apply Rst.setcaps1 | apply Rst.alloc))))); rintro e w' ⟨v, rfl, hv, hr, ho, hb⟩; have HC := Lib.hid (Rst.call (by (focus (repeat (first | exact HC.out | apply Rst.drewN | apply Rst.bump | apply Rst.bump3 | apply Rst.setop1 | apply Rst.setcaps1 | apply Rst.alloc)))) hr ho); have hr1 := HC.out.env.rs; have c1 := hr1.c1; have c2 := hr1.c2; have c3 := hr1.c3; have f1 := hr1.fr 1; have f2 := hr1.fr 2; have f3 := hr1.fr 3; have hrl := HC.out.rbl; clear hr1; clear hr ho hb; obtain ⟨Aa, ca, rfl, _⟩ := hv.form; have HV := Lib.hid hv; clear hv))
    go_ret
    rw [HY.out]
    exact PostR.of HC.out.env.rs HC.out.only HBD.out HV.out rfl
  · have HY := Lib.hid (RX.atomP_bad (alt := alt) (.inr (.inr (.inr (beq_iff_eq.1 h123)))))
    go_enter Try.func42, Try.ntmps42
    go_wp2_with (first | (go_at_call 34; apply Calls.mono; apply peek_any (w0 := w0) (rb := rb) (sv := sv) (s := s); (apply Rst.env; (focus (repeat (first | exact HC.out | apply Rst.drewN | apply Rst.bump | apply Rst.bump3 | apply Rst.setop1 | apply Rst.setcaps1 | apply Rst.alloc)))); (first | omega | (simp only [RX.St.bump] at *; omega)); rintro e w' ⟨rfl, n, rfl⟩) | (go_at_call 25; apply Calls.mono; apply fail_any (w0 := w0) (rb := rb) (sv := sv) (s := s); (apply Rst.env; (focus (repeat (first | exact HC.out | apply Rst.drewN | apply Rst.bump | apply Rst.bump3 | apply Rst.setop1 | apply Rst.setcaps1 | apply Rst.alloc)))); rintro e w' ⟨rfl, hr, ho, hb⟩; have HC := Lib.hid (Rst.call (by (focus (repeat (first | exact HC.out | apply Rst.drewN | apply Rst.bump | apply Rst.bump3 | apply Rst.setop1 | apply Rst.setcaps1 | apply Rst.alloc)))) hr ho); have hr1 := HC.out.env.rs; have c1 := hr1.c1; have c2 := hr1.c2; have c3 := hr1.c3; have f1 := hr1.fr 1; have f2 := hr1.fr 2; have f3 := hr1.fr 3; have hrl := HC.out.rbl; clear hr1; clear hr ho hb))
    go_ret
    rw [HY.out]
    exact PostR.of HC.out.env.rs HC.out.only (by rw [RX.St.fail_at]; omega) SlB.nil_ rfl
  · have HY := Lib.hid (RX.atomP_bad (alt := alt) (.inr (.inr (.inl (beq_iff_eq.1 h63)))))
    go_enter Try.func42, Try.ntmps42
    go_wp2_with (first | (go_at_call 34; apply Calls.mono; apply peek_any (w0 := w0) (rb := rb) (sv := sv) (s := s); (apply Rst.env; (focus (repeat (first | exact HC.out | apply Rst.drewN | apply Rst.bump | apply Rst.bump3 | apply Rst.setop1 | apply Rst.setcaps1 | apply Rst.alloc)))); (first | omega | (simp only [RX.St.bump] at *; omega)); rintro e w' ⟨rfl, n, rfl⟩) | (go_at_call 25; apply Calls.mono; apply fail_any (w0 := w0) (rb := rb) (sv := sv) (s := s); (apply Rst.env; (focus (repeat (first | exact HC.out | apply Rst.drewN | apply Rst.bump | apply Rst.bump3 | apply Rst.setop1 | apply Rst.setcaps1 | apply Rst.alloc)))); rintro e w' ⟨rfl, hr, ho, hb⟩; have HC := Lib.hid (Rst.call (by (focus (repeat (first | exact HC.out | apply Rst.drewN | apply Rst.bump | apply Rst.bump3 | apply Rst.setop1 | apply Rst.setcaps1 | apply Rst.alloc)))) hr ho); have hr1 := HC.out.env.rs; have c1 := hr1.c1; have c2 := hr1.c2; have c3 := hr1.c3; have f1 := hr1.fr 1; have f2 := hr1.fr 2; have f3 := hr1.fr 3; have hrl := HC.out.rbl; clear hr1; clear hr ho hb))
    go_ret
    rw [HY.out]
    exact PostR.of HC.out.env.rs HC.out.only (by rw [RX.St.fail_at]; omega) SlB.nil_ rfl
  · have HY := Lib.hid (RX.atomP_bad (alt := alt) (.inr (.inl (beq_iff_eq.1 h43))))
    go_enter Try.func42, Try.ntmps42
    go_wp2_with (first | (go_at_call 34; apply Calls.mono; apply peek_any (w0 := w0) (rb := rb) (sv := sv) (s := s); (apply Rst.env; (focus (repeat (first | exact HC.out | apply Rst.drewN | apply Rst.bump | apply Rst.bump3 | apply Rst.setop1 | apply Rst.setcaps1 | apply Rst.alloc)))); (first | omega | (simp only [RX.St.bump] at *; omega)); rintro e w' ⟨rfl, n, rfl⟩) | (go_at_call 25; apply Calls.mono; apply fail_any (w0 := w0) (rb := rb) (sv := sv) (s := s); (apply Rst.env; (focus (repeat (first | exact HC.out | apply Rst.drewN | apply Rst.bump | apply Rst.bump3 | apply Rst.setop1 | apply Rst.setcaps1 | apply Rst.alloc)))); rintro e w' ⟨rfl, hr, ho, hb⟩; have HC := Lib.hid (Rst.call (by (focus (repeat (first | exact HC.out | apply Rst.drewN | apply Rst.bump | apply Rst.bump3 | apply Rst.setop1 | apply Rst.setcaps1 | apply Rst.alloc)))) hr ho); have hr1 := HC.out.env.rs; have c1 := hr1.c1; have c2 := hr1.c2; have c3 := hr1.c3; have f1 := hr1.fr 1; have f2 := hr1.fr 2; have f3 := hr1.fr 3; have hrl := HC.out.rbl; clear hr1; clear hr ho hb))
    go_ret
    rw [HY.out]
    exact PostR.of HC.out.env.rs HC.out.only (by rw [RX.St.fail_at]; omega) SlB.nil_ rfl
  · have HY := Lib.hid (RX.atomP_bad (alt := alt) (.inl (beq_iff_eq.1 h42)))
    go_enter Try.func42, Try.ntmps42
    go_wp2_with (first | (go_at_call 34; apply Calls.mono; apply peek_any (w0 := w0) (rb := rb) (sv := sv) (s := s); (apply Rst.env; (focus (repeat (first | exact HC.out | apply Rst.drewN | apply Rst.bump | apply Rst.bump3 | apply Rst.setop1 | apply Rst.setcaps1 | apply Rst.alloc)))); (first | omega | (simp only [RX.St.bump] at *; omega)); rintro e w' ⟨rfl, n, rfl⟩) | (go_at_call 25; apply Calls.mono; apply fail_any (w0 := w0) (rb := rb) (sv := sv) (s := s); (apply Rst.env; (focus (repeat (first | exact HC.out | apply Rst.drewN | apply Rst.bump | apply Rst.bump3 | apply Rst.setop1 | apply Rst.setcaps1 | apply Rst.alloc)))); rintro e w' ⟨rfl, hr, ho, hb⟩; have HC := Lib.hid (Rst.call (by (focus (repeat (first | exact HC.out | apply Rst.drewN | apply Rst.bump | apply Rst.bump3 | apply Rst.setop1 | apply Rst.setcaps1 | apply Rst.alloc)))) hr ho); have hr1 := HC.out.env.rs; have c1 := hr1.c1; have c2 := hr1.c2; have c3 := hr1.c3; have f1 := hr1.fr 1; have f2 := hr1.fr 2; have f3 := hr1.fr 3; have hrl := HC.out.rbl; clear hr1; clear hr ho hb))
    go_ret
    rw [HY.out]
    exact PostR.of HC.out.env.rs HC.out.only (by rw [RX.St.fail_at]; omega) SlB.nil_ rfl
theorem item_any (w : World) (st : RX.St) (alt : RX.St → List RX.ReN × RX.St) (he : Env w0 rb sv s w st) (hok : st.ok = true) (ha : st.at_ < s.length) (h9 : st.caps ≤ 9) {c : Nat} {d : Int} (hk : RX.AltOk s c d alt) (hc : c ≤ 20) (hd : d ≤ 100) (hd0 : 0 ≤ d) (HA : st.op < 12 → AltC w0 rb sv s alt (st.op + 1)) :
    Calls Try.prog 39 #[.pointer (some ⟨rb, 0, none⟩)] w (PostR (fun w' v => SlRe (rb + 1) (rb + 1) w' v (RX.itemP s alt st).1) rb sv w (RX.itemP s alt st).2 (s.length + 30)) := by
  have HC := Lib.hid (Rst.start he)
  have hl60 := he.len
  have hfw := RX.atomP_fwd hk hd0 hok ha h9
  have hifw := RX.itemP_fwd hk hd0 hok ha h9
  have HH := Lib.hid hifw.1
  have hat : (RX.atomP s alt st).2.at_ ≤ s.length + (c + 1) := hfw.1.hi
  have hsm := small_of hfw.2.1 (by omega) (by omega)
  have HGa := Lib.hid (fun w he => atom_any (w0 := w0) (rb := rb) (sv := sv) (s := s) w st alt he hok ha h9 hk hc hd hd0 HA)
  have HGt := Lib.hid (fun w va (he : Env w0 rb sv s w (RX.atomP s alt st).2) hv => repeat_any (w0 := w0) (rb := rb) (sv := sv) (s := s) w (RX.atomP s alt st).2 (RX.atomP s alt st).1 va he (by omega) hv hsm)
  clear he hk HA hok hd hd0 hfw hifw hsm
  have hr1 := HC.out.env.rs; have c1 := hr1.c1; have c2 := hr1.c2; have c3 := hr1.c3; have f1 := hr1.fr 1; have f2 := hr1.fr 2; have f3 := hr1.fr 3; have hrl := HC.out.rbl; clear hr1
  rcases h94 : (RX.nxt s st 0 == 94) with _ | _
  rcases h36 : (RX.nxt s st 0 == 36) with _ | _
  · have HY := Lib.hid (RX.itemP_atom (alt := alt) (beq_eq_false_iff_ne.1 h94) (beq_eq_false_iff_ne.1 h36))
    generalize RX.atomP s alt st = a at HGa HGt HY hat
    rcases hok2 : a.2.ok with _ | _
    · go_enter Try.func39, Try.ntmps39
      go_wp2_with (first | (go_at_call 34; apply Calls.mono; apply peek_any (w0 := w0) (rb := rb) (sv := sv) (s := s); (apply Rst.env; (focus (repeat (first | exact HC.out | apply Rst.drewN | apply Rst.bump | apply Rst.bump3 | apply Rst.setop1 | apply Rst.setcaps1 | apply Rst.alloc)))); (first | omega | (simp only [RX.St.bump] at *; omega)); rintro e w' ⟨rfl, n, rfl⟩) | (go_at_call 42; refine (HGa.out _ ?hen).mono ?_; (case hen => (apply Rst.env; (focus (repeat (first | exact HC.out | apply Rst.drewN | apply Rst.bump | apply Rst.bump3 | apply Rst.setop1 | apply Rst.setcaps1 | apply Rst.alloc))))); rintro e w' ⟨v, rfl, hv, hr, ho, hb⟩; have HC := Lib.hid (Rst.call (by (focus (repeat (first | exact HC.out | apply Rst.drewN | apply Rst.bump | apply Rst.bump3 | apply Rst.setop1 | apply Rst.setcaps1 | apply Rst.alloc)))) hr ho); have hr1 := HC.out.env.rs; have c1 := hr1.c1; have c2 := hr1.c2; have c3 := hr1.c3; have f1 := hr1.fr 1; have f2 := hr1.fr 2; have f3 := hr1.fr 3; have hrl := HC.out.rbl; clear hr1; clear hr ho hb; obtain ⟨Aa, ca, rfl, _⟩ := hv.form; have HV := Lib.hid hv; clear hv) | (go_at_call 24; apply Calls.mono; apply ok_any (w0 := w0) (rb := rb) (sv := sv) (s := s); (apply Rst.env; (focus (repeat (first | exact HC.out | apply Rst.drewN | apply Rst.bump | apply Rst.bump3 | apply Rst.setop1 | apply Rst.setcaps1 | apply Rst.alloc)))); rintro e w' ⟨rfl, n, rfl⟩))
      go_ret
      have hy := HY.out
      rw [hok2, if_neg (by decide)] at hy
      rw [hy]
      have HX := Rst.drewN (n := n) HC.out
      exact PostR.of HX.env.rs HX.only (by omega) SlB.nil_ rfl
    · go_enter Try.func39, Try.ntmps39
      go_upto_region 11 with (first | (go_at_call 34; apply Calls.mono; apply peek_any (w0 := w0) (rb := rb) (sv := sv) (s := s); (apply Rst.env; (focus (repeat (first | exact HC.out | apply Rst.drewN | apply Rst.bump | apply Rst.bump3 | apply Rst.setop1 | apply Rst.setcaps1 | apply Rst.alloc)))); (first | omega | (simp only [RX.St.bump] at *; omega)); rintro e w' ⟨rfl, n, rfl⟩) | (go_at_call 42; refine (HGa.out _ ?hen).mono ?_; (case hen => (apply Rst.env; (focus (repeat (first | exact HC.out | apply Rst.drewN | apply Rst.bump | apply Rst.bump3 | apply Rst.setop1 | apply Rst.setcaps1 | apply Rst.alloc))))); rintro e w' ⟨v, rfl, hv, hr, ho, hb⟩; have HC := Lib.hid (Rst.call (by (focus (repeat (first | exact HC.out | apply Rst.drewN | apply Rst.bump | apply Rst.bump3 | apply Rst.setop1 | apply Rst.setcaps1 | apply Rst.alloc)))) hr ho); have hr1 := HC.out.env.rs; have c1 := hr1.c1; have c2 := hr1.c2; have c3 := hr1.c3; have f1 := hr1.fr 1; have f2 := hr1.fr 2; have f3 := hr1.fr 3; have hrl := HC.out.rbl; clear hr1; clear hr ho hb; obtain ⟨Aa, ca, rfl, _⟩ := hv.form; have HV := Lib.hid hv; clear hv) | (go_at_call 24; apply Calls.mono; apply ok_any (w0 := w0) (rb := rb) (sv := sv) (s := s); (apply Rst.env; (focus (repeat (first | exact HC.out | apply Rst.drewN | apply Rst.bump | apply Rst.bump3 | apply Rst.setop1 | apply Rst.setcaps1 | apply Rst.alloc)))); rintro e w' ⟨rfl, n, rfl⟩))
      have HC := Lib.hid (Rst.setv HC.out HV.out)
      go_wp2_with (first | (go_at_call 43; refine (HGt.out _ _ ?hen ?hvv).mono ?_; (case hen => (apply Rst.env; (focus (repeat (first | exact HC.out | apply Rst.drewN | apply Rst.bump | apply Rst.bump3 | apply Rst.setop1 | apply Rst.setcaps1 | apply Rst.alloc))))); (case hvv => (apply Rst.val; (focus (repeat (first | exact HC.out | apply Rst.drewN | apply Rst.bump | apply Rst.bump3 | apply Rst.setop1 | apply Rst.setcaps1 | apply Rst.alloc))))); rintro e w' ⟨v, rfl, hv, hr, ho, hb⟩; have HC := Lib.hid (Rst.call (by (focus (repeat (first | exact HC.out | apply Rst.drewN | apply Rst.bump | apply Rst.bump3 | apply Rst.setop1 | apply Rst.setcaps1 | apply Rst.alloc)))) hr ho); have hr1 := HC.out.env.rs; have c1 := hr1.c1; have c2 := hr1.c2; have c3 := hr1.c3; have f1 := hr1.fr 1; have f2 := hr1.fr 2; have f3 := hr1.fr 3; have hrl := HC.out.rbl; clear hr1; clear hr ho hb; obtain ⟨Aa, ca, rfl, _⟩ := hv.form; have HV := Lib.hid hv; clear hv))
      go_ret
      have hy := HY.out
      rw [hok2, if_pos rfl] at hy
      have hh := HH.out.hi
      rw [hy] at hh
      rw [hy]
      exact PostR.of HC.out.env.rs HC.out.only (by omega) HV.out rfl
  · have HY := Lib.hid (RX.itemP_end (alt := alt) (beq_iff_eq.1 h36))
    go_enter Try.func39, Try.ntmps39
    go_wp2_with (first | (go_at_call 34; apply Calls.mono; apply peek_any (w0 := w0) (rb := rb) (sv := sv) (s := s); (apply Rst.env; (focus (repeat (first | exact HC.out | apply Rst.drewN | apply Rst.bump | apply Rst.bump3 | apply Rst.setop1 | apply Rst.setcaps1 | apply Rst.alloc)))); (first | omega | (simp only [RX.St.bump] at *; omega)); rintro e w' ⟨rfl, n, rfl⟩))
    go_ret
    rw [HY.out]
    have HX := Rst.bump (Rst.drewN (n := n) HC.out)
    refine PostR.of HX.alloc.env.rs HX.alloc.only (by show st.at_ + 1 ≤ _; omega) ?_ rfl
    exact re_lit _ (RX.node 4 0 0 false false []) _ _ (by simp) (by simp; omega) CR.mk0
  · have HY := Lib.hid (RX.itemP_start (alt := alt) (beq_iff_eq.1 h94))
    go_enter Try.func39, Try.ntmps39
    go_wp2_with (first | (go_at_call 34; apply Calls.mono; apply peek_any (w0 := w0) (rb := rb) (sv := sv) (s := s); (apply Rst.env; (focus (repeat (first | exact HC.out | apply Rst.drewN | apply Rst.bump | apply Rst.bump3 | apply Rst.setop1 | apply Rst.setcaps1 | apply Rst.alloc)))); (first | omega | (simp only [RX.St.bump] at *; omega)); rintro e w' ⟨rfl, n, rfl⟩))
    go_ret
    rw [HY.out]
    have HX := Rst.bump (Rst.drewN (n := n) HC.out)
    refine PostR.of HX.alloc.env.rs HX.alloc.only (by show st.at_ + 1 ≤ _; omega) ?_ rfl
    exact re_lit _ (RX.node 3 0 0 false false []) _ _ (by simp) (by simp; omega) CR.mk0
end
theorem OwnB.keepB2 {α : Type} {t sz B b : Nat} {C : World → List Value → α → Prop} {w w' : World} {v : Value} {xs : List α} (h : OwnB t sz C B w v xs) (hC : KeepsB b C) (hb : b ≤ B) (hk : KeepB b w w') : OwnB t sz C B w' v xs := by
  obtain ⟨flat, ⟨hl, hown⟩, h2⟩ := h
  refine ⟨flat, ⟨hl, ?_⟩, fun k x hx => ?_⟩
  · rcases hown with hn | ⟨g, cap, cur, hv, hb', hg, rest⟩
    · exact .inl hn
    · exact .inr ⟨g, cap, cur, hv, hb', hk g _ (Nat.le_trans hb hb') hg, rest⟩
  · obtain ⟨cs, h6, h7⟩ := h2 k x hx
    exact ⟨cs, hC _ _ _ _ hk h6, h7⟩
section
variable {w0 : World} {rb : Nat} {sv : Value} {s : List Int}
/-- Inside of row, alternatives: the reader; the rows so far. -/
structure Rws (w0 : World) (rb : Nat) (sv : Value) (s : List Int) (w : World) (st : RX.St) (v : Value) (rows : List (List RX.ReN)) (wr : World) : Prop where
  env : Env w0 rb sv s wr st
  only : Only w wr rb
  own : OwnB 36 1 (CL (rb + 1)) w.heap.size wr v rows
  le : rb + 1 ≤ w.heap.size
variable {w wr w' : World} {st st' : RX.St} {v v' : Value} {rows rows' : List (List RX.ReN)}
theorem Rws.step (h : Rws w0 rb sv s w st v rows wr) (he : Env w0 rb sv s w' st') (ho : Only wr w' rb) : Rws w0 rb sv s w st' v rows w' :=
  ⟨he, h.only.trans ho, h.own.keepB2 (keepsB_l _) h.le (KeepB.only ho), h.le⟩
theorem Rws.drewN {n : Nat} (h : Rws w0 rb sv s w st v rows wr) : Rws w0 rb sv s w st v rows (wr.drewN n) := h.step (h.env.drewN n) ((Only.refl _ _).drewN n)
theorem Rws.bump (h : Rws w0 rb sv s w st v rows wr) : Rws w0 rb sv s w (st.bump 1) v rows (wr.setCell ⟨rb, 1, none⟩ (.int .i64 ((st.at_ : Int) + 1))) := h.step h.env.bump1 ((Only.refl _ _).set _)
theorem Rws.alloc {o : Obj} (h : Rws w0 rb sv s w st v rows wr) : Rws w0 rb sv s w st v rows (wr.alloc o) := h.step (h.env.alloc o) ((Only.refl _ _).alloc o)
theorem Rws.call (h : Rws w0 rb sv s w st v rows wr) (hr : RS rb sv w' st') (ho : Only wr w' rb) : Rws w0 rb sv s w st' v rows w' := h.step (h.env.step ho hr) ho
theorem Rws.ext (h : Rws w0 rb sv s w st v rows wr) (hx : Ext wr w') : Rws w0 rb sv s w st v rows w' := h.step (h.env.ext hx) (Only.of_ext hx rb)
theorem Rws.rbl (h : Rws w0 rb sv s w st v rows wr) : rb < wr.heap.size := heap_lt h.env.rs
theorem Rws.start (he : Env w0 rb sv s w st) : Rws w0 rb sv s w st (.slice none 0 0) [] w := ⟨he, Only.refl w rb, OwnB.nil_, he.rbl⟩
/-- Behind an append. -/
theorem Rws.app (h : Rws w0 rb sv s w st v rows wr) (h1 : OwnB 36 1 (CL (rb + 1)) w.heap.size w' v' rows') (h2 : wr.grownBy w' v.ownBlock) : Rws w0 rb sv s w st v' rows' w' :=
  ⟨Env.own (nb := rb + 1) h.env h2 (fun k hk => Nat.le_trans h.le (h.own.lt k hk).1) (by omega), Only.own (nb := w.heap.size) h.only h2 (fun k hk => (h.own.lt k hk).1) (Nat.le_refl _), h1, h.le⟩
theorem rowEnds_cases {x : Int} (h : RX.rowEnds x = true) : x = -1 ∨ (x ≠ -1 ∧ x = 124) ∨ (x ≠ -1 ∧ x ≠ 124 ∧ x = 41) := by
  unfold RX.rowEnds at h; simp at h; omega
theorem rowEnds_not {x : Int} (h : RX.rowEnds x = false) : x ≠ -1 ∧ x ≠ 124 ∧ x ≠ 41 := by
  unfold RX.rowEnds at h; simp at h; omega
namespace RX
variable {alt : St → List ReN × St}
theorem rowLoop_bad {k : Nat} {st : St} {items : List (List ReN)} (h : st.ok = false) : rowLoop s alt k st items = ([], st) := by
  cases k with
  | zero => rfl
  | succ k => unfold rowLoop; rw [h]; rfl
theorem rowLoop_end {k : Nat} {st : St} {items : List (List ReN)} (h : st.ok = true) (he : rowEnds (nxt s st 0) = true) : rowLoop s alt (k + 1) st items = (under (node 0 0 0 false false []) items, st) := by
  unfold rowLoop; rw [h, he]; rfl
theorem rowLoop_on {k : Nat} {st : St} {items : List (List ReN)} (h : st.ok = true) (he : rowEnds (nxt s st 0) = false) : rowLoop s alt (k + 1) st items = rowLoop s alt k (itemP s alt st).2 (items ++ [(itemP s alt st).1]) := by
  rw [rowLoop, h, he]; rfl
end RX
theorem row_any (w : World) (st : RX.St) (alt : RX.St → List RX.ReN × RX.St) (he : Env w0 rb sv s w st) (ha : st.at_ ≤ s.length) (h9 : st.caps ≤ 9) {c : Nat} {d : Int} (hk : RX.AltOk s c d alt) (hc : c ≤ 20) (hd : d ≤ 100) (hd0 : 0 ≤ d) (HA : st.op < 12 → AltC w0 rb sv s alt (st.op + 1)) :
    Calls Try.prog 33 #[.pointer (some ⟨rb, 0, none⟩)] w (PostR (fun w' v => SlRe (rb + 1) (rb + 1) w' v (RX.rowP s alt st).1) rb sv w (RX.rowP s alt st).2 (s.length + 30)) := by
  have HC := Lib.hid (Rws.start he)
  have hl60 := he.len
  have H9 := Lib.hid (And.intro hk (And.intro hc (And.intro hd (And.intro hd0 HA))))
  have HB := Lib.hid (RX.rowP_fwd hk hd0 ha h9).1
  have HF := Lib.hid (RX.Fwd.refl (s := s) (c + 1) ha h9)
  obtain ⟨R, hR⟩ : ∃ R, RX.rowP s alt st = R := ⟨_, rfl⟩
  rw [hR] at HB
  have HR := Lib.hid hR
  clear he hk hd hd0 HA hR
  rw [HR.out]
  go_enter Try.func33, Try.ntmps33
  go_wp2_with fail
  go_loopg [3] (s.length + 2 - st.at_) (fun k v wr => ∃ (st' : RX.St) (items : List (List RX.ReN)), Rws w0 rb sv s w st' v items wr ∧ RX.rowLoop s alt k st' items = R ∧ RX.Fwd s (c + 1) st st' ∧ (st'.ok = true → s.length + 1 ≤ k + st'.at_ ∧ items.length ≤ st'.at_ - st.at_) ∧ items.length ≤ 200 ∧
    (∀ l ∈ items, ∀ x ∈ l, 0 ≤ x.deep ∧ x.deep ≤ d + 2) ∧ items.flatten.length ≤ 2 * (st'.at_ - st.at_))
  case atStart => exact ⟨st, [], HC.out, HR.out, HF.out, fun _ => ⟨by omega, by simp⟩, by simp, by simp, by simp⟩
  case round =>
    obtain ⟨st', items, hcs, hlo, hfw, hrd, hil, hdp, hfl⟩ := hrel
    have HC := Lib.hid hcs
    have HL := Lib.hid hlo
    have HF := Lib.hid hfw
    have HD := Lib.hid hrd
    have HP := Lib.hid hdp
    have hat : st'.at_ ≤ s.length + (c + 1) := hfw.hi
    obtain ⟨Ai, ci, rfl, hci, hcm⟩ := hcs.own.form
    clear hcs hlo hrd hdp hfw
    have hr1 := HC.out.env.rs; have c1 := hr1.c1; have f1 := hr1.fr 1; have hrl := HC.out.rbl; clear hr1
    rcases hok : st'.ok with _ | _
    · go_wp2_with (first | (go_at_call 24; apply Calls.mono; apply ok_any (w0 := w0) (rb := rb) (sv := sv) (s := s); (apply Rws.env; (focus (repeat (first | exact HC.out | apply Rws.drewN | apply Rws.bump | apply Rws.alloc)))); rintro e w' ⟨rfl, n, rfl⟩))
      go_ret
      have hz := HL.out
      rw [RX.rowLoop_bad hok] at hz
      rw [← hz]
      have HX := HC.out.drewN (n := n)
      exact PostR.of HX.env.rs HX.only (by omega) SlB.nil_ rfl
    · obtain ⟨hrd, hil2⟩ := HD.out hok
      have hatl := HF.out.okl hok
      obtain ⟨k, rfl⟩ : ∃ k, gk = k + 1 := ⟨gk - 1, by omega⟩
      rcases hre : RX.rowEnds (RX.nxt s st' 0) with _ | _
      · have hne := rowEnds_not hre
        have hlt := RX.nxt_in (k := 0) hne.1
        obtain ⟨hk, hc2, hd, hd0, hHA⟩ := H9.out
        have hop : st'.op = st.op := HF.out.op
        have hif := RX.itemP_fwd hk hd0 hok hlt HF.out.caps9
        have HGi := Lib.hid (fun w he => item_any (w0 := w0) (rb := rb) (sv := sv) (s := s) w st' alt he hok hlt HF.out.caps9 hk hc hd hd0 (hop ▸ hHA))
        have HI := Lib.hid hif
        have HZ := Lib.hid (show RX.rowLoop s alt k (RX.itemP s alt st').2 (items ++ [(RX.itemP s alt st').1]) = R by rw [← HL.out, RX.rowLoop_on hok hre])
        generalize RX.itemP s alt st' = it at HGi HI HZ
        have b1 : (RX.nxt s st' 0 == -1) = false := by simpa using hne.1
        have b2 : (RX.nxt s st' 0 == 124) = false := by simpa using hne.2.1
        have b3 : (RX.nxt s st' 0 == 41) = false := by simpa using hne.2.2
        clear hk hd hd0 hHA hop hif hne hre
        go_wp2_with (first | (go_at_call 24; apply Calls.mono; apply ok_any (w0 := w0) (rb := rb) (sv := sv) (s := s); (apply Rws.env; (focus (repeat (first | exact HC.out | apply Rws.drewN | apply Rws.bump | apply Rws.alloc)))); rintro e w' ⟨rfl, n, rfl⟩) | (go_at_call 34; apply Calls.mono; apply peek_any (w0 := w0) (rb := rb) (sv := sv) (s := s); (apply Rws.env; (focus (repeat (first | exact HC.out | apply Rws.drewN | apply Rws.bump | apply Rws.alloc)))); (first | omega | (simp only [RX.St.bump] at *; omega)); rintro e w' ⟨rfl, n, rfl⟩) | (go_at_call 39; refine (HGi.out _ ?hen).mono ?_; (case hen => (apply Rws.env; (focus (repeat (first | exact HC.out | apply Rws.drewN | apply Rws.bump | apply Rws.alloc))))); rintro e w' ⟨v, rfl, hv, hr, ho, hb⟩; have HC := Lib.hid (Rws.call (by (focus (repeat (first | exact HC.out | apply Rws.drewN | apply Rws.bump | apply Rws.alloc)))) hr ho); have hr1 := HC.out.env.rs; have c1 := hr1.c1; have f1 := hr1.fr 1; have hrl := HC.out.rbl; clear hr1; clear hr ho hb; obtain ⟨Aa, ca, rfl, _⟩ := hv.form; have HV := Lib.hid hv; clear hv) | (at_builtin; go_loud (refine app_one Try.underlying62 info_rows rfl Nat.one_pos ?hby (keeps_l (rb + 1)) ?hT rfl _ _ rfl w.heap.size _ items it.1 [.slice Aa it.1.length ca] 36 ?hown ?hy rfl ?h1 rfl _ rfl ?hnb ?hn ?hB ?_; (case hby => decide); (case hT => decide); (case hown => (apply Rws.own; (focus (repeat (first | exact HC.out | apply Rws.drewN | apply Rws.bump | apply Rws.alloc))))); (case hy => exact ⟨_, rfl, HV.out⟩); (case h1 => (intro u hu; simp at hu; subst hu; rfl)); (case hnb => (first | rfl | simp)); (case hn => omega); (case hB => exact HC.out.only.size); intro v' w' h1 h2; have hz := Rws.app (Rws.alloc HC.out) h1 h2; obtain ⟨Ax, cx, rfl, hcx, hcy⟩ := h1.form; have HX := Lib.hid hz; clear h1 h2 hz)))
        go_roundg k
        case measure => omega
        case rel =>
          have hif := HI.out
          have hz := HX.out
          rw [List.length_append] at hz
          refine ⟨it.2, items ++ [it.1], hz, HZ.out, HF.out.trans hif.1, fun ho => ?_, ?_, ?_, ?_⟩
          · have := hif.2.2 ho
            have := HF.out.mono
            rw [List.length_append]; simp only [List.length_cons, List.length_nil]
            omega
          · rw [List.length_append]; simp only [List.length_cons, List.length_nil]; omega
          · intro l hl x hx
            rcases List.mem_append.1 hl with hl | hl
            · exact HP.out l hl x hx
            · simp at hl; subst hl; exact hif.2.1.2 x hx
          · rw [List.flatten_append, List.length_append, List.flatten_singleton]
            have := hif.2.1.1
            have := hif.1.mono
            have := HF.out.mono
            omega
      · have HZ := Lib.hid (show (RX.under (RX.node 0 0 0 false false []) items, st') = R by rw [← HL.out, RX.rowLoop_end hok hre])
        have HS := Lib.hid (show Small (RX.node 0 0 0 false false []) items from ⟨by rw [RX.under_len]; omega, fun l hl x hx => by have := HP.out l hl x hx; have := H9.out.2.2.1; omega⟩)
        rcases rowEnds_cases hre with h | ⟨h1, h⟩ | ⟨h1, h2, h⟩
        · have b1 : (RX.nxt s st' 0 == -1) = true := by simpa using h
          clear h hre
          go_wp2_with (first | (go_at_call 24; apply Calls.mono; apply ok_any (w0 := w0) (rb := rb) (sv := sv) (s := s); (apply Rws.env; (focus (repeat (first | exact HC.out | apply Rws.drewN | apply Rws.bump | apply Rws.alloc)))); rintro e w' ⟨rfl, n, rfl⟩) | (go_at_call 34; apply Calls.mono; apply peek_any (w0 := w0) (rb := rb) (sv := sv) (s := s); (apply Rws.env; (focus (repeat (first | exact HC.out | apply Rws.drewN | apply Rws.bump | apply Rws.alloc)))); (first | omega | (simp only [RX.St.bump] at *; omega)); rintro e w' ⟨rfl, n, rfl⟩) | (go_at_call 35; apply Calls.mono; apply under_any (B := rb + 1); apply CR.mk0; (exact SlB.weaken (OwnB.sl (Rws.own (by (focus (repeat (first | exact HC.out | apply Rws.drewN | apply Rws.bump | apply Rws.alloc)))))) HC.out.le); exact HS.out; rintro e w' ⟨vr, rfl, hown, hx⟩; have HV := Lib.hid (SlB.weaken (base' := rb + 1) hown.sl (by (focus (first | omega | (simp; omega))))); have HC := Lib.hid (Rws.ext (by (focus (repeat (first | exact HC.out | apply Rws.drewN | apply Rws.bump | apply Rws.alloc)))) hx); have hr1 := HC.out.env.rs; have c1 := hr1.c1; have f1 := hr1.fr 1; have hrl := HC.out.rbl; clear hr1; clear hx hown))
          go_ret
          rw [← HZ.out]
          exact PostR.of HC.out.env.rs HC.out.only (by omega) HV.out rfl
        · have b1 : (RX.nxt s st' 0 == -1) = false := by simpa using h1
          have b2 : (RX.nxt s st' 0 == 124) = true := by simpa using h
          clear h h1 hre
          go_wp2_with (first | (go_at_call 24; apply Calls.mono; apply ok_any (w0 := w0) (rb := rb) (sv := sv) (s := s); (apply Rws.env; (focus (repeat (first | exact HC.out | apply Rws.drewN | apply Rws.bump | apply Rws.alloc)))); rintro e w' ⟨rfl, n, rfl⟩) | (go_at_call 34; apply Calls.mono; apply peek_any (w0 := w0) (rb := rb) (sv := sv) (s := s); (apply Rws.env; (focus (repeat (first | exact HC.out | apply Rws.drewN | apply Rws.bump | apply Rws.alloc)))); (first | omega | (simp only [RX.St.bump] at *; omega)); rintro e w' ⟨rfl, n, rfl⟩) | (go_at_call 35; apply Calls.mono; apply under_any (B := rb + 1); apply CR.mk0; (exact SlB.weaken (OwnB.sl (Rws.own (by (focus (repeat (first | exact HC.out | apply Rws.drewN | apply Rws.bump | apply Rws.alloc)))))) HC.out.le); exact HS.out; rintro e w' ⟨vr, rfl, hown, hx⟩; have HV := Lib.hid (SlB.weaken (base' := rb + 1) hown.sl (by (focus (first | omega | (simp; omega))))); have HC := Lib.hid (Rws.ext (by (focus (repeat (first | exact HC.out | apply Rws.drewN | apply Rws.bump | apply Rws.alloc)))) hx); have hr1 := HC.out.env.rs; have c1 := hr1.c1; have f1 := hr1.fr 1; have hrl := HC.out.rbl; clear hr1; clear hx hown))
          go_ret
          rw [← HZ.out]
          exact PostR.of HC.out.env.rs HC.out.only (by omega) HV.out rfl
        · have b1 : (RX.nxt s st' 0 == -1) = false := by simpa using h1
          have b2 : (RX.nxt s st' 0 == 124) = false := by simpa using h2
          have b3 : (RX.nxt s st' 0 == 41) = true := by simpa using h
          clear h h1 h2 hre
          go_wp2_with (first | (go_at_call 24; apply Calls.mono; apply ok_any (w0 := w0) (rb := rb) (sv := sv) (s := s); (apply Rws.env; (focus (repeat (first | exact HC.out | apply Rws.drewN | apply Rws.bump | apply Rws.alloc)))); rintro e w' ⟨rfl, n, rfl⟩) | (go_at_call 34; apply Calls.mono; apply peek_any (w0 := w0) (rb := rb) (sv := sv) (s := s); (apply Rws.env; (focus (repeat (first | exact HC.out | apply Rws.drewN | apply Rws.bump | apply Rws.alloc)))); (first | omega | (simp only [RX.St.bump] at *; omega)); rintro e w' ⟨rfl, n, rfl⟩) | (go_at_call 35; apply Calls.mono; apply under_any (B := rb + 1); apply CR.mk0; (exact SlB.weaken (OwnB.sl (Rws.own (by (focus (repeat (first | exact HC.out | apply Rws.drewN | apply Rws.bump | apply Rws.alloc)))))) HC.out.le); exact HS.out; rintro e w' ⟨vr, rfl, hown, hx⟩; have HV := Lib.hid (SlB.weaken (base' := rb + 1) hown.sl (by (focus (first | omega | (simp; omega))))); have HC := Lib.hid (Rws.ext (by (focus (repeat (first | exact HC.out | apply Rws.drewN | apply Rws.bump | apply Rws.alloc)))) hx); have hr1 := HC.out.env.rs; have c1 := hr1.c1; have f1 := hr1.fr 1; have hrl := HC.out.rbl; clear hr1; clear hx hown))
          go_ret
          rw [← HZ.out]
          exact PostR.of HC.out.env.rs HC.out.only (by omega) HV.out rfl
end
namespace RX
variable {s : List Int} {alt : St → List ReN × St}
theorem altLoop_off {k : Nat} {st : St} {rows : List (List ReN)} (h : (st.ok && decide (nxt s st 0 = 124)) = false) : altLoop s alt k st rows = (rows, st) := by
  cases k with
  | zero => rfl
  | succ k => unfold altLoop; rw [h]; rfl
theorem altLoop_on {k : Nat} {st : St} {rows : List (List ReN)} (h : (st.ok && decide (nxt s st 0 = 124)) = true) : altLoop s alt (k + 1) st rows = altLoop s alt k (rowP s alt (st.bump 1)).2 (rows ++ [(rowP s alt (st.bump 1)).1]) := by
  rw [altLoop, if_pos h]
/-- What is made of the rows. -/
def joined (rows : List (List ReN)) : List ReN := if rows.length = 1 then rows.headD [] else under (node 1 0 0 false false []) rows
theorem altP_eq (st : St) : altP s alt st = (joined (altLoop s alt (s.length + 2 - (rowP s alt st).2.at_) (rowP s alt st).2 [(rowP s alt st).1]).1, (altLoop s alt (s.length + 2 - (rowP s alt st).2.at_) (rowP s alt st).2 [(rowP s alt st).1]).2) := rfl
end RX
theorem eq_dec (x : Int) : (x == 124) = (true && decide (x = 124)) := by simp; rfl
section
variable {w0 : World} {rb : Nat} {sv : Value} {s : List Int}
theorem alt_any (w : World) (st : RX.St) (alt : RX.St → List RX.ReN × RX.St) (he : Env w0 rb sv s w st) (hok : st.ok = true) (ha : st.at_ ≤ s.length) (h9 : st.caps ≤ 9) {c : Nat} {d : Int} (hk : RX.AltOk s c d alt) (hc : c ≤ 20) (hd : d ≤ 100) (hd0 : 0 ≤ d) (HA : st.op < 12 → AltC w0 rb sv s alt (st.op + 1)) :
    Calls Try.prog 23 #[.pointer (some ⟨rb, 0, none⟩)] w (PostR (fun w' v => SlRe (rb + 1) (rb + 1) w' v (RX.altP s alt st).1) rb sv w (RX.altP s alt st).2 (s.length + 30)) := by
  have HC := Lib.hid (Rws.start he)
  have hl60 := he.len
  have hrl := he.rbl
  have H9 := Lib.hid (And.intro hk (And.intro hc (And.intro hd (And.intro hd0 HA))))
  have HB := Lib.hid (RX.altP_ok hk hd0 st hok ha h9).1
  have HRw := Lib.hid (RX.rowP_fwd hk hd0 ha h9)
  have HGr := Lib.hid (fun w he => row_any (w0 := w0) (rb := rb) (sv := sv) (s := s) w st alt he ha h9 hk hc hd hd0 HA)
  rw [RX.altP_eq] at HB
  rw [RX.altP_eq]
  generalize RX.rowP s alt st = it at HGr HB HRw ⊢
  obtain ⟨R, hR⟩ : ∃ R, RX.altLoop s alt (s.length + 2 - it.2.at_) it.2 [it.1] = R := ⟨_, rfl⟩
  rw [hR] at HB
  have HR := Lib.hid hR
  have hat0 : it.2.at_ ≤ s.length + (c + 1) := HRw.out.1.hi
  clear he hk hd hd0 HA hR
  rw [HR.out]
  go_enter Try.func23, Try.ntmps23
  go_wp2_with (first | (go_at_call 33; refine (HGr.out _ ?hen).mono ?_; (case hen => (apply Rws.env; (focus (repeat (first | exact HC.out | apply Rws.drewN | apply Rws.bump | apply Rws.alloc))))); rintro e w' ⟨v, rfl, hv, hr, ho, hb⟩; have HC := Lib.hid (Rws.call (by (focus (repeat (first | exact HC.out | apply Rws.drewN | apply Rws.bump | apply Rws.alloc)))) hr ho); have hr1 := HC.out.env.rs; have c1 := hr1.c1; have f1 := hr1.fr 1; have hrl := HC.out.rbl; clear hr1; clear hr ho hb; obtain ⟨Aa, ca, rfl, _⟩ := hv.form; have HV := Lib.hid hv; clear hv))
  have HX := Lib.hid (show Rws w0 rb sv s w it.2 (.slice (some ⟨w'.heap.size, 0, none⟩) 1 1) [it.1] (w'.alloc (.cells #[.slice Aa it.1.length ca] 36)) from
    ⟨HC.out.env.alloc _, HC.out.only.alloc _, OwnB.lit (sz := 1) (w := w') _ [it.1] _ _ rfl rfl HC.out.only.size (by simp) (by simp) (by
      intro k y hy
      match k, hy with
      | 0, hy =>
        simp at hy; subst hy
        exact ⟨[.slice Aa it.1.length ca], ⟨_, rfl, SlB.keepB HV.out (keepsB_re _) (KeepB.only ((Only.refl w' rb).alloc _))⟩, rfl, fun i u hu => by simpa using hu⟩), HC.out.le⟩)
  have HC := HX
  clear c1 f1
  go_loopg [3] (s.length + 2 - it.2.at_) (fun k v wr => ∃ (st' : RX.St) (items : List (List RX.ReN)), Rws w0 rb sv s w st' v items wr ∧ RX.altLoop s alt k st' items = R ∧ RX.Fwd s (c + 1) st st' ∧ (st'.ok = true → s.length + 1 ≤ k + st'.at_) ∧ items.length ≤ 1 + st'.at_ ∧ 1 ≤ items.length ∧
    (∀ l ∈ items, ∀ x ∈ l, 0 ≤ x.deep ∧ x.deep ≤ d + 3) ∧ items.flatten.length ≤ 2 * (st'.at_ - st.at_) + 1)
  case atStart =>
    refine ⟨it.2, [it.1], HC.out, HR.out, HRw.out.1, fun ho => ?_, by simp, by simp, ?_, ?_⟩
    · have := HRw.out.1.okl ho; omega
    · intro l hl x hx; simp at hl; subst hl; exact HRw.out.2.2 x hx
    · simpa using HRw.out.2.1
  case round =>
    obtain ⟨st', items, hcs, hlo, hfw, hrd, hil, hil1, hdp, hfl⟩ := hrel
    have HC := Lib.hid hcs
    have HL := Lib.hid hlo
    have HF := Lib.hid hfw
    have HD := Lib.hid hrd
    have HP := Lib.hid hdp
    have hat : st'.at_ ≤ s.length + (c + 1) := hfw.hi
    obtain ⟨Ai, ci, rfl, hci, hcm⟩ := hcs.own.form
    clear hcs hlo hrd hdp hfw
    have hr1 := HC.out.env.rs; have c1 := hr1.c1; have f1 := hr1.fr 1; have hrl := HC.out.rbl; clear hr1
    go_upto_region 2 with fail
    go_cut [13] (fun s13 wx => ∃ b, s13 = .bool b ∧ b = (st'.ok && decide (RX.nxt s st' 0 = 124)) ∧ Rws w0 rb sv s w st' (.slice Ai items.length ci) items wx)
    case first =>
      rcases hok2 : st'.ok with _ | _
      · go_wp2_with (first | (go_at_call 24; apply Calls.mono; apply ok_any (w0 := w0) (rb := rb) (sv := sv) (s := s); (apply Rws.env; (focus (repeat (first | exact HC.out | apply Rws.drewN | apply Rws.bump | apply Rws.alloc)))); rintro e w' ⟨rfl, n, rfl⟩))
        go_meet
        exact ⟨_, rfl, by rw [hok2]; rfl, by (focus (repeat (first | exact HC.out | apply Rws.drewN | apply Rws.bump | apply Rws.alloc)))⟩
      · go_wp2_with (first | (go_at_call 24; apply Calls.mono; apply ok_any (w0 := w0) (rb := rb) (sv := sv) (s := s); (apply Rws.env; (focus (repeat (first | exact HC.out | apply Rws.drewN | apply Rws.bump | apply Rws.alloc)))); rintro e w' ⟨rfl, n, rfl⟩) | (go_at_call 34; apply Calls.mono; apply peek_any (w0 := w0) (rb := rb) (sv := sv) (s := s); (apply Rws.env; (focus (repeat (first | exact HC.out | apply Rws.drewN | apply Rws.bump | apply Rws.alloc)))); (first | omega | (simp only [RX.St.bump] at *; omega)); rintro e w' ⟨rfl, n, rfl⟩))
        go_meet
        exact ⟨_, rfl, by rw [hok2]; exact eq_dec _, by (focus (repeat (first | exact HC.out | apply Rws.drewN | apply Rws.bump | apply Rws.alloc)))⟩
    case rest =>
      obtain ⟨b, rfl, hb, hcc⟩ := hcut
      have HC := Lib.hid hcc
      have HB2 := Lib.hid hb
      clear hcc hb
      have hr1 := HC.out.env.rs; have c1 := hr1.c1; have f1 := hr1.fr 1; have hrl := HC.out.rbl; clear hr1
      rcases b with _ | _
      · have hz := HL.out
        rw [RX.altLoop_off HB2.out.symm] at hz
        have HZ := Lib.hid hz
        clear hz
        by_cases h1 : items.length = 1
        · have hb1 : ((items.length : Int) == 1) = true := by simp [h1]
          obtain ⟨l1, hl1⟩ : ∃ l, items = [l] := by
            match items, h1 with
            | [l], _ => exact ⟨l, rfl⟩
          have hJ : RX.joined items = l1 := by rw [hl1]; rfl
          have hat2 := HC.out.own.sl.at_ (k := 0) (by omega)
          obtain ⟨g, o, cs, rfl, hcl, hce⟩ := hat2
          obtain ⟨va, rfl, hva⟩ := hcl
          have c0 := hce 0 va rfl
          rw [Nat.zero_mul, Nat.add_zero] at c0
          have hx0 : items[0] = l1 := by simp [hl1]
          rw [hx0] at hva
          have HV := Lib.hid hva
          obtain ⟨Aa, ca, rfl, _⟩ := hva.form
          have HJ := Lib.hid (And.intro hJ h1)
          have hb2 : 0 < items.length := by omega
          clear hva hce hJ hx0 hl1 h1
          go_wp2_with fail
          go_ret
          rw [← HZ.out, HJ.out.1]
          exact PostR.of HC.out.env.rs HC.out.only (by omega) HV.out rfl
        · have hb1 : ((items.length : Int) == 1) = false := by simpa using (by omega : ¬ (items.length : Int) = 1)
          have hJ : RX.joined items = RX.under (RX.node 1 0 0 false false []) items := by unfold RX.joined; rw [if_neg h1]
          have HJ := Lib.hid hJ
          have HS := Lib.hid (show Small (RX.node 1 0 0 false false []) items from ⟨by rw [RX.under_len]; omega, fun l hl x hx => by have := HP.out l hl x hx; have := H9.out.2.2.1; omega⟩)
          clear hJ h1
          go_wp2_with (first | (go_at_call 35; apply Calls.mono; apply under_any (B := rb + 1); apply CR.mk0; (exact SlB.weaken (OwnB.sl (Rws.own (by (focus (repeat (first | exact HC.out | apply Rws.drewN | apply Rws.bump | apply Rws.alloc)))))) HC.out.le); exact HS.out; rintro e w' ⟨vr, rfl, hown, hx⟩; have HV := Lib.hid (SlB.weaken (base' := rb + 1) hown.sl (by (focus (first | omega | (simp; omega))))); have HC := Lib.hid (Rws.ext (by (focus (repeat (first | exact HC.out | apply Rws.drewN | apply Rws.bump | apply Rws.alloc)))) hx); have hr1 := HC.out.env.rs; have c1 := hr1.c1; have f1 := hr1.fr 1; have hrl := HC.out.rbl; clear hr1; clear hx hown))
          go_ret
          rw [← HZ.out, HJ.out]
          exact PostR.of HC.out.env.rs HC.out.only (by omega) HV.out rfl
      · have h0 := HB2.out.symm
        simp only [Bool.and_eq_true, decide_eq_true_eq] at h0
        have hrd := HD.out h0.1
        have hatl := HF.out.okl h0.1
        obtain ⟨k, rfl⟩ : ∃ k, gk = k + 1 := ⟨gk - 1, by omega⟩
        have hlt := RX.nxt_in (s := s) (k := 0) (st := st') (by omega)
        have HF2 := Lib.hid (HF.out.bump 1 hlt)
        obtain ⟨hk, hc2, hd, hd0, hHA⟩ := H9.out
        have hop : st'.op = st.op := HF.out.op
        have hrw := RX.rowP_fwd hk hd0 (st := st'.bump 1) hlt HF.out.caps9
        have HGr := Lib.hid (fun w he => row_any (w0 := w0) (rb := rb) (sv := sv) (s := s) w (st'.bump 1) alt he hlt HF.out.caps9 hk hc hd hd0 (show st'.op < 12 → AltC w0 rb sv s alt (st'.op + 1) from hop ▸ hHA))
        have HI := Lib.hid hrw
        have HZ := Lib.hid (show RX.altLoop s alt k (RX.rowP s alt (st'.bump 1)).2 (items ++ [(RX.rowP s alt (st'.bump 1)).1]) = R by rw [← HL.out, RX.altLoop_on HB2.out.symm])
        clear HRw hat0
        generalize RX.rowP s alt (st'.bump 1) = it at HGr HI HZ
        have hm : st'.at_ + 1 ≤ it.2.at_ := HI.out.1.mono
        clear hk hd hd0 hHA hop hrw h0
        go_wp2_with (first | (go_at_call 33; refine (HGr.out _ ?hen).mono ?_; (case hen => (apply Rws.env; (focus (repeat (first | exact HC.out | apply Rws.drewN | apply Rws.bump | apply Rws.alloc))))); rintro e w' ⟨v, rfl, hv, hr, ho, hb⟩; have HC := Lib.hid (Rws.call (by (focus (repeat (first | exact HC.out | apply Rws.drewN | apply Rws.bump | apply Rws.alloc)))) hr ho); have hr1 := HC.out.env.rs; have c1 := hr1.c1; have f1 := hr1.fr 1; have hrl := HC.out.rbl; clear hr1; clear hr ho hb; obtain ⟨Aa, ca, rfl, _⟩ := hv.form; have HV := Lib.hid hv; clear hv) | (at_builtin; go_loud (refine app_one Try.underlying62 info_rows rfl Nat.one_pos ?hby (keeps_l (rb + 1)) ?hT rfl _ _ rfl w.heap.size _ items it.1 [.slice Aa it.1.length ca] 36 ?hown ?hy rfl ?h1 rfl _ rfl ?hnb ?hn ?hB ?_; (case hby => decide); (case hT => decide); (case hown => (apply Rws.own; (focus (repeat (first | exact HC.out | apply Rws.drewN | apply Rws.bump | apply Rws.alloc))))); (case hy => exact ⟨_, rfl, HV.out⟩); (case h1 => (intro u hu; simp at hu; subst hu; rfl)); (case hnb => (first | rfl | simp)); (case hn => omega); (case hB => exact HC.out.only.size); intro v' w' h1 h2; have hz := Rws.app (Rws.alloc HC.out) h1 h2; obtain ⟨Ax, cx, rfl, hcx, hcy⟩ := h1.form; have HX := Lib.hid hz; clear h1 h2 hz)))
        go_roundg k
        case measure => omega
        case rel =>
          have hif := HI.out
          have hz := HX.out
          rw [List.length_append] at hz
          refine ⟨it.2, items ++ [it.1], hz, HZ.out, HF2.out.trans hif.1, fun ho => ?_, ?_, ?_, ?_, ?_⟩
          · omega
          · rw [List.length_append]; simp only [List.length_cons, List.length_nil]; omega
          · rw [List.length_append]; simp only [List.length_cons, List.length_nil]; omega
          · intro l hl x hx
            rcases List.mem_append.1 hl with hl | hl
            · exact HP.out l hl x hx
            · simp at hl; subst hl; exact hif.2.2 x hx
          · rw [List.flatten_append, List.length_append, List.flatten_singleton]
            have h5 := hif.2.1
            have h6 : (st'.bump 1).at_ = st'.at_ + 1 := rfl
            have := HF.out.mono
            omega
theorem altN_c (s : List Int) : ∀ (n op : Nat), op + n = 12 → AltC w0 rb sv s (RX.altN s n) op
  | 0, op, h => fun w st he hok ha h9 hop =>
    alt_any w st _ he hok ha h9 (c := 1) (d := 0) RX.AltOk.stub (by omega) (by omega) (by omega) (fun h1 => by omega)
  | n + 1, op, h => fun w st he hok ha h9 hop =>
    alt_any w st _ he hok ha h9 (RX.altN_ok s n) (by omega) (by omega) (by omega) (fun _ => altN_c s n (st.op + 1) (by omega))
end
end Go.Proofs.Ytpcdknfmgacggaa
