/- Walks: atom, item of package resyn. -/
import Derived.Test.YtfblkahjefdmaaaGrp
import Derived.Test.YtfblkahjefdmaaaRpt
namespace Go.Proofs.Ytfblkahjefdmaaa
open Go.RowKit
namespace RX
section
variable {s : List Int} {alt : St → List ReN × St} {st : St}
theorem atomP_bad (h : nxt s st 0 = 42 ∨ nxt s st 0 = 43 ∨ nxt s st 0 = 63 ∨ nxt s st 0 = 123) : atomP s alt st = ([], st.fail 5 st.at_) := by unfold atomP; simp only [if_pos h]
theorem atomP_open (h : nxt s st 0 = 40) : atomP s alt st = groupP s alt st := by unfold atomP; simp [h]
theorem atomP_class (h : nxt s st 0 = 91) : atomP s alt st = classP s (st.bump 1) := by unfold atomP; simp [h]
theorem atomP_esc (h : nxt s st 0 = 92) : atomP s alt st = escaped s st := by unfold atomP; simp [h]
theorem atomP_dot (h : nxt s st 0 = 46) : atomP s alt st = ([node 2 0 0 false true [10, 10]], st.bump 1) := by unfold atomP; simp [h]
theorem atomP_one (h1 : nxt s st 0 ≠ 42) (h2 : nxt s st 0 ≠ 43) (h3 : nxt s st 0 ≠ 63) (h4 : nxt s st 0 ≠ 123) (h5 : nxt s st 0 ≠ 40) (h6 : nxt s st 0 ≠ 91) (h7 : nxt s st 0 ≠ 92) (h8 : nxt s st 0 ≠ 46) :
    atomP s alt st = ([node 2 0 0 false false [nxt s st 0, nxt s st 0]], st.bump 1) := by unfold atomP; simp [h1, h2, h3, h4, h5, h6, h7, h8]
theorem itemP_start (h : nxt s st 0 = 94) : itemP s alt st = ([node 3 0 0 false false []], st.bump 1) := by unfold itemP; simp [h]
theorem itemP_end (h : nxt s st 0 = 36) : itemP s alt st = ([node 4 0 0 false false []], st.bump 1) := by unfold itemP; simp [h]
theorem itemP_atom (h1 : nxt s st 0 ≠ 94) (h2 : nxt s st 0 ≠ 36) : itemP s alt st = if (atomP s alt st).2.ok then repeatP s (atomP s alt st).1 (atomP s alt st).2 else ([], (atomP s alt st).2) := by unfold itemP; simp only [if_neg h1, if_neg h2]
end
end RX
section
variable {w0 : World} {rb : Nat} {sv : Value} {s : List Int}
set_option maxRecDepth 100000 in
set_option maxHeartbeats 4000000 in
theorem atom_any (w : World) (st : RX.St) (alt : RX.St → List RX.ReN × RX.St) (he : Env w0 rb sv s w st) (hok : st.ok = true) (ha : st.at_ < s.length) (h9 : st.caps ≤ 9) {c : Nat} {d : Int} (hk : RX.AltOk s c d alt) (hc : c ≤ 20) (hd : d ≤ 100) (hd0 : 0 ≤ d) (HA : st.op < 12 → AltC w0 rb sv s alt (st.op + 1)) :
    Calls Try.prog 136 #[.pointer (some ⟨rb, 0, none⟩)] w (PostR (fun w' v => SlRe (rb + 1) (rb + 1) w' v (RX.atomP s alt st).1) rb sv w (RX.atomP s alt st).2 (s.length + 30)) := by
  have HC := Lib.hid (Rst.start he)
  have hl60 := he.len
  have HGp := Lib.hid (fun w he => group_any (w0 := w0) (rb := rb) (sv := sv) (s := s) w st alt he hok ha h9 hk hc hd HA)
  have HGc := Lib.hid (fun w he => classR_any (w0 := w0) (rb := rb) (sv := sv) (s := s) w (st.bump 1) he ha h9)
  have HGe := Lib.hid (fun w he => escaped_any (w0 := w0) (rb := rb) (sv := sv) (s := s) w st he (by omega))
  have HBD := Lib.hid (show (RX.groupP s alt st).2.at_ ≤ s.length + 30 by have := (RX.groupP_fwd hk hd0 hok ha h9).1.hi; omega)
  clear he hk HA hok hd hc hd0
  have hr1 := HC.out.env.rs; have c1 := hr1.c1; have c2 := hr1.c2; have c3 := hr1.c3; have f1 := hr1.fr 1; have f2 := hr1.fr 2; have f3 := hr1.fr 3; have hrl := HC.out.rbl; clear hr1
  rcases h42 : (RX.nxt s st 0 == 42) with _ | _
  rcases h43 : (RX.nxt s st 0 == 43) with _ | _
  rcases h63 : (RX.nxt s st 0 == 63) with _ | _
  rcases h123 : (RX.nxt s st 0 == 123) with _ | _
  rcases h40 : (RX.nxt s st 0 == 40) with _ | _
  rcases h91 : (RX.nxt s st 0 == 91) with _ | _
  rcases h92 : (RX.nxt s st 0 == 92) with _ | _
  rcases h46 : (RX.nxt s st 0 == 46) with _ | _
  · have HY := Lib.hid (RX.atomP_one (alt := alt) (beq_eq_false_iff_ne.1 h42) (beq_eq_false_iff_ne.1 h43) (beq_eq_false_iff_ne.1 h63) (beq_eq_false_iff_ne.1 h123) (beq_eq_false_iff_ne.1 h40) (beq_eq_false_iff_ne.1 h91) (beq_eq_false_iff_ne.1 h92) (beq_eq_false_iff_ne.1 h46))
    go_enter Try.func136, Try.ntmps136
    go_wp2_with (first | (go_at_call 93; apply Calls.mono; apply peek_any (w0 := w0) (rb := rb) (sv := sv) (s := s); (apply Rst.env; (focus (repeat (first | exact HC.out | apply Rst.drewN | apply Rst.bump | apply Rst.bump3 | apply Rst.setop1 | apply Rst.setcaps1 | apply Rst.alloc)))); (first | omega | (simp only [RX.St.bump] at *; omega)); rintro e w' ⟨rfl, n, rfl⟩))
    go_ret
    rw [HY.out]
    have HX := Rst.bump (Rst.drewN (n := n) HC.out)
    refine PostR.of (HX.alloc.alloc).env.rs (HX.alloc.alloc).only (by show st.at_ + 1 ≤ _; omega) ?_ rfl
    refine re_lit _ (RX.node 2 0 0 false false [RX.nxt s st 0, RX.nxt s st 0]) _ _ (by simp) (by simp; omega) (CR.mk ?_)
    exact c_lit2 (by simp) (by simp; omega)
  · have HY := Lib.hid (RX.atomP_dot (alt := alt) (beq_iff_eq.1 h46))
    go_enter Try.func136, Try.ntmps136
    go_wp2_with (first | (go_at_call 93; apply Calls.mono; apply peek_any (w0 := w0) (rb := rb) (sv := sv) (s := s); (apply Rst.env; (focus (repeat (first | exact HC.out | apply Rst.drewN | apply Rst.bump | apply Rst.bump3 | apply Rst.setop1 | apply Rst.setcaps1 | apply Rst.alloc)))); (first | omega | (simp only [RX.St.bump] at *; omega)); rintro e w' ⟨rfl, n, rfl⟩))
    go_ret
    rw [HY.out]
    have HX := Rst.bump (Rst.drewN (n := n) HC.out)
    refine PostR.of (HX.alloc.alloc).env.rs (HX.alloc.alloc).only (by show st.at_ + 1 ≤ _; omega) ?_ rfl
    refine re_lit _ (RX.node 2 0 0 false true [10, 10]) _ _ (by simp) (by simp; omega) (CR.mk ?_)
    exact c_lit2 (by simp) (by simp; omega)
  · have HY := Lib.hid (RX.atomP_esc (alt := alt) (beq_iff_eq.1 h92))
    go_enter Try.func136, Try.ntmps136
    go_wp2_with (first | (go_at_call 93; apply Calls.mono; apply peek_any (w0 := w0) (rb := rb) (sv := sv) (s := s); (apply Rst.env; (focus (repeat (first | exact HC.out | apply Rst.drewN | apply Rst.bump | apply Rst.bump3 | apply Rst.setop1 | apply Rst.setcaps1 | apply Rst.alloc)))); (first | omega | (simp only [RX.St.bump] at *; omega)); rintro e w' ⟨rfl, n, rfl⟩) | (go_at_call 144; refine (HGe.out _ ?hen).mono ?_; (case hen => (apply Rst.env; (focus (repeat (first | exact HC.out | apply Rst.drewN | apply Rst.bump | apply Rst.bump3 | apply Rst.setop1 | apply Rst.setcaps1 | apply Rst.alloc))))); rintro e w' ⟨v, rfl, hv, hr, ho, hb⟩; have HC := Lib.hid (Rst.call (by (focus (repeat (first | exact HC.out | apply Rst.drewN | apply Rst.bump | apply Rst.bump3 | apply Rst.setop1 | apply Rst.setcaps1 | apply Rst.alloc)))) hr ho); have hr1 := HC.out.env.rs; have c1 := hr1.c1; have c2 := hr1.c2; have c3 := hr1.c3; have f1 := hr1.fr 1; have f2 := hr1.fr 2; have f3 := hr1.fr 3; have hrl := HC.out.rbl; clear hr1; clear hr ho hb; obtain ⟨Aa, ca, rfl, _⟩ := hv.form; have HV := Lib.hid hv; clear hv))
    go_ret
    rw [HY.out]
    exact PostR.of HC.out.env.rs HC.out.only (by have := (RX.escaped_fwd (s := s) ha h9).hi; omega) HV.out rfl
  · have HY := Lib.hid (RX.atomP_class (alt := alt) (beq_iff_eq.1 h91))
    go_enter Try.func136, Try.ntmps136
    go_wp2_with (first | (go_at_call 93; apply Calls.mono; apply peek_any (w0 := w0) (rb := rb) (sv := sv) (s := s); (apply Rst.env; (focus (repeat (first | exact HC.out | apply Rst.drewN | apply Rst.bump | apply Rst.bump3 | apply Rst.setop1 | apply Rst.setcaps1 | apply Rst.alloc)))); (first | omega | (simp only [RX.St.bump] at *; omega)); rintro e w' ⟨rfl, n, rfl⟩) | (go_at_call 143; refine (HGc.out _ ?hen).mono ?_; (case hen => (apply Rst.env; (focus (repeat (first | exact HC.out | apply Rst.drewN | apply Rst.bump | apply Rst.bump3 | apply Rst.setop1 | apply Rst.setcaps1 | apply Rst.alloc))))); rintro e w' ⟨v, rfl, hv, hr, ho, hb⟩; have HC := Lib.hid (Rst.call (by (focus (repeat (first | exact HC.out | apply Rst.drewN | apply Rst.bump | apply Rst.bump3 | apply Rst.setop1 | apply Rst.setcaps1 | apply Rst.alloc)))) hr ho); have hr1 := HC.out.env.rs; have c1 := hr1.c1; have c2 := hr1.c2; have c3 := hr1.c3; have f1 := hr1.fr 1; have f2 := hr1.fr 2; have f3 := hr1.fr 3; have hrl := HC.out.rbl; clear hr1; clear hr ho hb; obtain ⟨Aa, ca, rfl, _⟩ := hv.form; have HV := Lib.hid hv; clear hv))
    go_ret
    rw [HY.out]
    exact PostR.of HC.out.env.rs HC.out.only (by have := (RX.classP_fwd (s := s) (st := st.bump 1) ha h9).hi; omega) HV.out rfl
  · have HY := Lib.hid (RX.atomP_open (alt := alt) (beq_iff_eq.1 h40))
    go_enter Try.func136, Try.ntmps136
    go_wp2_with (first | (go_at_call 93; apply Calls.mono; apply peek_any (w0 := w0) (rb := rb) (sv := sv) (s := s); (apply Rst.env; (focus (repeat (first | exact HC.out | apply Rst.drewN | apply Rst.bump | apply Rst.bump3 | apply Rst.setop1 | apply Rst.setcaps1 | apply Rst.alloc)))); (first | omega | (simp only [RX.St.bump] at *; omega)); rintro e w' ⟨rfl, n, rfl⟩) | (go_at_call 142; refine (HGp.out _ ?hen).mono ?_; (case hen => (apply Rst.env; (focus (repeat (first | exact HC.out | apply Rst.drewN | apply Rst.bump | apply Rst.bump3 | apply Rst.setop1 | apply Rst.setcaps1 | apply Rst.alloc))))); rintro e w' ⟨v, rfl, hv, hr, ho, hb⟩; have HC := Lib.hid (Rst.call (by (focus (repeat (first | exact HC.out | apply Rst.drewN | apply Rst.bump | apply Rst.bump3 | apply Rst.setop1 | apply Rst.setcaps1 | apply Rst.alloc)))) hr ho); have hr1 := HC.out.env.rs; have c1 := hr1.c1; have c2 := hr1.c2; have c3 := hr1.c3; have f1 := hr1.fr 1; have f2 := hr1.fr 2; have f3 := hr1.fr 3; have hrl := HC.out.rbl; clear hr1; clear hr ho hb; obtain ⟨Aa, ca, rfl, _⟩ := hv.form; have HV := Lib.hid hv; clear hv))
    go_ret
    rw [HY.out]
    exact PostR.of HC.out.env.rs HC.out.only HBD.out HV.out rfl
  · have HY := Lib.hid (RX.atomP_bad (alt := alt) (.inr (.inr (.inr (beq_iff_eq.1 h123)))))
    go_enter Try.func136, Try.ntmps136
    go_wp2_with (first | (go_at_call 93; apply Calls.mono; apply peek_any (w0 := w0) (rb := rb) (sv := sv) (s := s); (apply Rst.env; (focus (repeat (first | exact HC.out | apply Rst.drewN | apply Rst.bump | apply Rst.bump3 | apply Rst.setop1 | apply Rst.setcaps1 | apply Rst.alloc)))); (first | omega | (simp only [RX.St.bump] at *; omega)); rintro e w' ⟨rfl, n, rfl⟩) | (go_at_call 64; apply Calls.mono; apply fail_any (w0 := w0) (rb := rb) (sv := sv) (s := s); (apply Rst.env; (focus (repeat (first | exact HC.out | apply Rst.drewN | apply Rst.bump | apply Rst.bump3 | apply Rst.setop1 | apply Rst.setcaps1 | apply Rst.alloc)))); rintro e w' ⟨rfl, hr, ho, hb⟩; have HC := Lib.hid (Rst.call (by (focus (repeat (first | exact HC.out | apply Rst.drewN | apply Rst.bump | apply Rst.bump3 | apply Rst.setop1 | apply Rst.setcaps1 | apply Rst.alloc)))) hr ho); have hr1 := HC.out.env.rs; have c1 := hr1.c1; have c2 := hr1.c2; have c3 := hr1.c3; have f1 := hr1.fr 1; have f2 := hr1.fr 2; have f3 := hr1.fr 3; have hrl := HC.out.rbl; clear hr1; clear hr ho hb))
    go_ret
    rw [HY.out]
    exact PostR.of HC.out.env.rs HC.out.only (by rw [RX.St.fail_at]; omega) SlB.nil_ rfl
  · have HY := Lib.hid (RX.atomP_bad (alt := alt) (.inr (.inr (.inl (beq_iff_eq.1 h63)))))
    go_enter Try.func136, Try.ntmps136
    go_wp2_with (first | (go_at_call 93; apply Calls.mono; apply peek_any (w0 := w0) (rb := rb) (sv := sv) (s := s); (apply Rst.env; (focus (repeat (first | exact HC.out | apply Rst.drewN | apply Rst.bump | apply Rst.bump3 | apply Rst.setop1 | apply Rst.setcaps1 | apply Rst.alloc)))); (first | omega | (simp only [RX.St.bump] at *; omega)); rintro e w' ⟨rfl, n, rfl⟩) | (go_at_call 64; apply Calls.mono; apply fail_any (w0 := w0) (rb := rb) (sv := sv) (s := s); (apply Rst.env; (focus (repeat (first | exact HC.out | apply Rst.drewN | apply Rst.bump | apply Rst.bump3 | apply Rst.setop1 | apply Rst.setcaps1 | apply Rst.alloc)))); rintro e w' ⟨rfl, hr, ho, hb⟩; have HC := Lib.hid (Rst.call (by (focus (repeat (first | exact HC.out | apply Rst.drewN | apply Rst.bump | apply Rst.bump3 | apply Rst.setop1 | apply Rst.setcaps1 | apply Rst.alloc)))) hr ho); have hr1 := HC.out.env.rs; have c1 := hr1.c1; have c2 := hr1.c2; have c3 := hr1.c3; have f1 := hr1.fr 1; have f2 := hr1.fr 2; have f3 := hr1.fr 3; have hrl := HC.out.rbl; clear hr1; clear hr ho hb))
    go_ret
    rw [HY.out]
    exact PostR.of HC.out.env.rs HC.out.only (by rw [RX.St.fail_at]; omega) SlB.nil_ rfl
  · have HY := Lib.hid (RX.atomP_bad (alt := alt) (.inr (.inl (beq_iff_eq.1 h43))))
    go_enter Try.func136, Try.ntmps136
    go_wp2_with (first | (go_at_call 93; apply Calls.mono; apply peek_any (w0 := w0) (rb := rb) (sv := sv) (s := s); (apply Rst.env; (focus (repeat (first | exact HC.out | apply Rst.drewN | apply Rst.bump | apply Rst.bump3 | apply Rst.setop1 | apply Rst.setcaps1 | apply Rst.alloc)))); (first | omega | (simp only [RX.St.bump] at *; omega)); rintro e w' ⟨rfl, n, rfl⟩) | (go_at_call 64; apply Calls.mono; apply fail_any (w0 := w0) (rb := rb) (sv := sv) (s := s); (apply Rst.env; (focus (repeat (first | exact HC.out | apply Rst.drewN | apply Rst.bump | apply Rst.bump3 | apply Rst.setop1 | apply Rst.setcaps1 | apply Rst.alloc)))); rintro e w' ⟨rfl, hr, ho, hb⟩; have HC := Lib.hid (Rst.call (by (focus (repeat (first | exact HC.out | apply Rst.drewN | apply Rst.bump | apply Rst.bump3 | apply Rst.setop1 | apply Rst.setcaps1 | apply Rst.alloc)))) hr ho); have hr1 := HC.out.env.rs; have c1 := hr1.c1; have c2 := hr1.c2; have c3 := hr1.c3; have f1 := hr1.fr 1; have f2 := hr1.fr 2; have f3 := hr1.fr 3; have hrl := HC.out.rbl; clear hr1; clear hr ho hb))
    go_ret
    rw [HY.out]
    exact PostR.of HC.out.env.rs HC.out.only (by rw [RX.St.fail_at]; omega) SlB.nil_ rfl
  · have HY := Lib.hid (RX.atomP_bad (alt := alt) (.inl (beq_iff_eq.1 h42)))
    go_enter Try.func136, Try.ntmps136
    go_wp2_with (first | (go_at_call 93; apply Calls.mono; apply peek_any (w0 := w0) (rb := rb) (sv := sv) (s := s); (apply Rst.env; (focus (repeat (first | exact HC.out | apply Rst.drewN | apply Rst.bump | apply Rst.bump3 | apply Rst.setop1 | apply Rst.setcaps1 | apply Rst.alloc)))); (first | omega | (simp only [RX.St.bump] at *; omega)); rintro e w' ⟨rfl, n, rfl⟩) | (go_at_call 64; apply Calls.mono; apply fail_any (w0 := w0) (rb := rb) (sv := sv) (s := s); (apply Rst.env; (focus (repeat (first | exact HC.out | apply Rst.drewN | apply Rst.bump | apply Rst.bump3 | apply Rst.setop1 | apply Rst.setcaps1 | apply Rst.alloc)))); rintro e w' ⟨rfl, hr, ho, hb⟩; have HC := Lib.hid (Rst.call (by (focus (repeat (first | exact HC.out | apply Rst.drewN | apply Rst.bump | apply Rst.bump3 | apply Rst.setop1 | apply Rst.setcaps1 | apply Rst.alloc)))) hr ho); have hr1 := HC.out.env.rs; have c1 := hr1.c1; have c2 := hr1.c2; have c3 := hr1.c3; have f1 := hr1.fr 1; have f2 := hr1.fr 2; have f3 := hr1.fr 3; have hrl := HC.out.rbl; clear hr1; clear hr ho hb))
    go_ret
    rw [HY.out]
    exact PostR.of HC.out.env.rs HC.out.only (by rw [RX.St.fail_at]; omega) SlB.nil_ rfl

set_option maxRecDepth 100000 in
set_option maxHeartbeats 4000000 in
theorem item_any (w : World) (st : RX.St) (alt : RX.St → List RX.ReN × RX.St) (he : Env w0 rb sv s w st) (hok : st.ok = true) (ha : st.at_ < s.length) (h9 : st.caps ≤ 9) {c : Nat} {d : Int} (hk : RX.AltOk s c d alt) (hc : c ≤ 20) (hd : d ≤ 100) (hd0 : 0 ≤ d) (HA : st.op < 12 → AltC w0 rb sv s alt (st.op + 1)) :
    Calls Try.prog 118 #[.pointer (some ⟨rb, 0, none⟩)] w (PostR (fun w' v => SlRe (rb + 1) (rb + 1) w' v (RX.itemP s alt st).1) rb sv w (RX.itemP s alt st).2 (s.length + 30)) := by
  have HC := Lib.hid (Rst.start he)
  have hl60 := he.len
  have hfw := RX.atomP_fwd hk hd0 hok ha h9
  have hifw := RX.itemP_fwd hk hd0 hok ha h9
  have HH := Lib.hid hifw.1
  have hat : (RX.atomP s alt st).2.at_ ≤ s.length + (c + 1) := hfw.1.hi
  have hsm := small_of hfw.2.1 (by omega) (by omega)
  have HGa := Lib.hid (fun w he => atom_any (w0 := w0) (rb := rb) (sv := sv) (s := s) w st alt he hok ha h9 hk hc hd hd0 HA)
  have HGt := Lib.hid (fun w va (he : Env w0 rb sv s w (RX.atomP s alt st).2) hv => repeat_any (w0 := w0) (rb := rb) (sv := sv) (s := s) w (RX.atomP s alt st).2 (RX.atomP s alt st).1 va he (by omega) hv hsm)
  clear he hk HA hok hd hd0 hfw hifw hsm
  have hr1 := HC.out.env.rs; have c1 := hr1.c1; have c2 := hr1.c2; have c3 := hr1.c3; have f1 := hr1.fr 1; have f2 := hr1.fr 2; have f3 := hr1.fr 3; have hrl := HC.out.rbl; clear hr1
  rcases h94 : (RX.nxt s st 0 == 94) with _ | _
  rcases h36 : (RX.nxt s st 0 == 36) with _ | _
  · have HY := Lib.hid (RX.itemP_atom (alt := alt) (beq_eq_false_iff_ne.1 h94) (beq_eq_false_iff_ne.1 h36))
    generalize RX.atomP s alt st = a at HGa HGt HY hat
    rcases hok2 : a.2.ok with _ | _
    · go_enter Try.func118, Try.ntmps118
      go_wp2_with (first | (go_at_call 93; apply Calls.mono; apply peek_any (w0 := w0) (rb := rb) (sv := sv) (s := s); (apply Rst.env; (focus (repeat (first | exact HC.out | apply Rst.drewN | apply Rst.bump | apply Rst.bump3 | apply Rst.setop1 | apply Rst.setcaps1 | apply Rst.alloc)))); (first | omega | (simp only [RX.St.bump] at *; omega)); rintro e w' ⟨rfl, n, rfl⟩) | (go_at_call 136; refine (HGa.out _ ?hen).mono ?_; (case hen => (apply Rst.env; (focus (repeat (first | exact HC.out | apply Rst.drewN | apply Rst.bump | apply Rst.bump3 | apply Rst.setop1 | apply Rst.setcaps1 | apply Rst.alloc))))); rintro e w' ⟨v, rfl, hv, hr, ho, hb⟩; have HC := Lib.hid (Rst.call (by (focus (repeat (first | exact HC.out | apply Rst.drewN | apply Rst.bump | apply Rst.bump3 | apply Rst.setop1 | apply Rst.setcaps1 | apply Rst.alloc)))) hr ho); have hr1 := HC.out.env.rs; have c1 := hr1.c1; have c2 := hr1.c2; have c3 := hr1.c3; have f1 := hr1.fr 1; have f2 := hr1.fr 2; have f3 := hr1.fr 3; have hrl := HC.out.rbl; clear hr1; clear hr ho hb; obtain ⟨Aa, ca, rfl, _⟩ := hv.form; have HV := Lib.hid hv; clear hv) | (go_at_call 63; apply Calls.mono; apply ok_any (w0 := w0) (rb := rb) (sv := sv) (s := s); (apply Rst.env; (focus (repeat (first | exact HC.out | apply Rst.drewN | apply Rst.bump | apply Rst.bump3 | apply Rst.setop1 | apply Rst.setcaps1 | apply Rst.alloc)))); rintro e w' ⟨rfl, n, rfl⟩))
      go_ret
      have hy := HY.out
      rw [hok2, if_neg (by decide)] at hy
      rw [hy]
      have HX := Rst.drewN (n := n) HC.out
      exact PostR.of HX.env.rs HX.only (by omega) SlB.nil_ rfl
    · go_enter Try.func118, Try.ntmps118
      go_upto_region 11 with (first | (go_at_call 93; apply Calls.mono; apply peek_any (w0 := w0) (rb := rb) (sv := sv) (s := s); (apply Rst.env; (focus (repeat (first | exact HC.out | apply Rst.drewN | apply Rst.bump | apply Rst.bump3 | apply Rst.setop1 | apply Rst.setcaps1 | apply Rst.alloc)))); (first | omega | (simp only [RX.St.bump] at *; omega)); rintro e w' ⟨rfl, n, rfl⟩) | (go_at_call 136; refine (HGa.out _ ?hen).mono ?_; (case hen => (apply Rst.env; (focus (repeat (first | exact HC.out | apply Rst.drewN | apply Rst.bump | apply Rst.bump3 | apply Rst.setop1 | apply Rst.setcaps1 | apply Rst.alloc))))); rintro e w' ⟨v, rfl, hv, hr, ho, hb⟩; have HC := Lib.hid (Rst.call (by (focus (repeat (first | exact HC.out | apply Rst.drewN | apply Rst.bump | apply Rst.bump3 | apply Rst.setop1 | apply Rst.setcaps1 | apply Rst.alloc)))) hr ho); have hr1 := HC.out.env.rs; have c1 := hr1.c1; have c2 := hr1.c2; have c3 := hr1.c3; have f1 := hr1.fr 1; have f2 := hr1.fr 2; have f3 := hr1.fr 3; have hrl := HC.out.rbl; clear hr1; clear hr ho hb; obtain ⟨Aa, ca, rfl, _⟩ := hv.form; have HV := Lib.hid hv; clear hv) | (go_at_call 63; apply Calls.mono; apply ok_any (w0 := w0) (rb := rb) (sv := sv) (s := s); (apply Rst.env; (focus (repeat (first | exact HC.out | apply Rst.drewN | apply Rst.bump | apply Rst.bump3 | apply Rst.setop1 | apply Rst.setcaps1 | apply Rst.alloc)))); rintro e w' ⟨rfl, n, rfl⟩))
      have HC := Lib.hid (Rst.setv HC.out HV.out)
      go_wp2_with (first | (go_at_call 137; refine (HGt.out _ _ ?hen ?hvv).mono ?_; (case hen => (apply Rst.env; (focus (repeat (first | exact HC.out | apply Rst.drewN | apply Rst.bump | apply Rst.bump3 | apply Rst.setop1 | apply Rst.setcaps1 | apply Rst.alloc))))); (case hvv => (apply Rst.val; (focus (repeat (first | exact HC.out | apply Rst.drewN | apply Rst.bump | apply Rst.bump3 | apply Rst.setop1 | apply Rst.setcaps1 | apply Rst.alloc))))); rintro e w' ⟨v, rfl, hv, hr, ho, hb⟩; have HC := Lib.hid (Rst.call (by (focus (repeat (first | exact HC.out | apply Rst.drewN | apply Rst.bump | apply Rst.bump3 | apply Rst.setop1 | apply Rst.setcaps1 | apply Rst.alloc)))) hr ho); have hr1 := HC.out.env.rs; have c1 := hr1.c1; have c2 := hr1.c2; have c3 := hr1.c3; have f1 := hr1.fr 1; have f2 := hr1.fr 2; have f3 := hr1.fr 3; have hrl := HC.out.rbl; clear hr1; clear hr ho hb; obtain ⟨Aa, ca, rfl, _⟩ := hv.form; have HV := Lib.hid hv; clear hv))
      go_ret
      have hy := HY.out
      rw [hok2, if_pos rfl] at hy
      have hh := HH.out.hi
      rw [hy] at hh
      rw [hy]
      exact PostR.of HC.out.env.rs HC.out.only (by omega) HV.out rfl
  · have HY := Lib.hid (RX.itemP_end (alt := alt) (beq_iff_eq.1 h36))
    go_enter Try.func118, Try.ntmps118
    go_wp2_with (first | (go_at_call 93; apply Calls.mono; apply peek_any (w0 := w0) (rb := rb) (sv := sv) (s := s); (apply Rst.env; (focus (repeat (first | exact HC.out | apply Rst.drewN | apply Rst.bump | apply Rst.bump3 | apply Rst.setop1 | apply Rst.setcaps1 | apply Rst.alloc)))); (first | omega | (simp only [RX.St.bump] at *; omega)); rintro e w' ⟨rfl, n, rfl⟩))
    go_ret
    rw [HY.out]
    have HX := Rst.bump (Rst.drewN (n := n) HC.out)
    refine PostR.of HX.alloc.env.rs HX.alloc.only (by show st.at_ + 1 ≤ _; omega) ?_ rfl
    exact re_lit _ (RX.node 4 0 0 false false []) _ _ (by simp) (by simp; omega) CR.mk0
  · have HY := Lib.hid (RX.itemP_start (alt := alt) (beq_iff_eq.1 h94))
    go_enter Try.func118, Try.ntmps118
    go_wp2_with (first | (go_at_call 93; apply Calls.mono; apply peek_any (w0 := w0) (rb := rb) (sv := sv) (s := s); (apply Rst.env; (focus (repeat (first | exact HC.out | apply Rst.drewN | apply Rst.bump | apply Rst.bump3 | apply Rst.setop1 | apply Rst.setcaps1 | apply Rst.alloc)))); (first | omega | (simp only [RX.St.bump] at *; omega)); rintro e w' ⟨rfl, n, rfl⟩))
    go_ret
    rw [HY.out]
    have HX := Rst.bump (Rst.drewN (n := n) HC.out)
    refine PostR.of HX.alloc.env.rs HX.alloc.only (by show st.at_ + 1 ≤ _; omega) ?_ rfl
    exact re_lit _ (RX.node 3 0 0 false false []) _ _ (by simp) (by simp; omega) CR.mk0
end
end Go.Proofs.Ytfblkahjefdmaaa
