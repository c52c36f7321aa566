/- For ResynMadeS: what the texts XGrp of wip/tpl say. -/
import Derived.Test.YtpcdknfmgacggaaG
import Derived.Deep.CutBlock
set_option maxRecDepth 100000
set_option maxHeartbeats 4000000
namespace Go.Proofs.Ytpcdknfmgacggaa
open Go.RowKit
section
variable {w0 : World} {rb : Nat} {sv : Value} {s : List Int}
/-- Inside of a method of the reader: the reader; what is left as it was; nodes that are held. -/
structure Rst (w0 : World) (rb : Nat) (sv : Value) (s : List Int) (w : World) (st : RX.St) (v : Value) (l : List RX.ReN) (wr : World) : Prop where
  env : Env w0 rb sv s wr st
  only : Only w wr rb
  val : SlRe (rb + 1) (rb + 1) wr v l
variable {w wr w' : World} {st st' : RX.St} {v v' : Value} {l l' : List RX.ReN}
theorem Rst.step (h : Rst w0 rb sv s w st v l wr) (he : Env w0 rb sv s w' st') (ho : Only wr w' rb) : Rst w0 rb sv s w st' v l w' := ⟨he, h.only.trans ho, SlB.only h.val (keepsB_re _) ho⟩
theorem Rst.drewN {n : Nat} (h : Rst w0 rb sv s w st v l wr) : Rst w0 rb sv s w st v l (wr.drewN n) := h.step (h.env.drewN n) ((Only.refl _ _).drewN n)
theorem Rst.bump (h : Rst w0 rb sv s w st v l wr) : Rst w0 rb sv s w (st.bump 1) v l (wr.setCell ⟨rb, 1, none⟩ (.int .i64 ((st.at_ : Int) + 1))) := h.step h.env.bump1 ((Only.refl _ _).set _)
theorem Rst.bump3 (h : Rst w0 rb sv s w st v l wr) : Rst w0 rb sv s w (st.bump 3) v l (wr.setCell ⟨rb, 1, none⟩ (.int .i64 ((st.at_ : Int) + 3))) := h.step (h.env.bump 3) ((Only.refl _ _).set _)
theorem Rst.alloc {o : Obj} (h : Rst w0 rb sv s w st v l wr) : Rst w0 rb sv s w st v l (wr.alloc o) := h.step (h.env.alloc o) ((Only.refl _ _).alloc o)
theorem Rst.call (h : Rst w0 rb sv s w st v l wr) (hr : RS rb sv w' st') (ho : Only wr w' rb) : Rst w0 rb sv s w st' v l w' := h.step (h.env.step ho hr) ho
theorem Rst.ext (h : Rst w0 rb sv s w st v l wr) (hx : Ext wr w') : Rst w0 rb sv s w st v l w' := h.step (h.env.ext hx) (Only.of_ext hx rb)
theorem Rst.setop {n : Nat} (h : Rst w0 rb sv s w st v l wr) : Rst w0 rb sv s w { st with op := n } v l (wr.setCell ⟨rb, 2, none⟩ (.int .i64 n)) := h.step (h.env.setop n) ((Only.refl _ _).set _)
theorem Rst.setop1 (h : Rst w0 rb sv s w st v l wr) : Rst w0 rb sv s w { st with op := st.op + 1 } v l (wr.setCell ⟨rb, 2, none⟩ (.int .i64 ((st.op : Int) + 1))) := h.setop (n := st.op + 1)
theorem Rst.setop0 (h : Rst w0 rb sv s w st v l wr) (h1 : 1 ≤ st.op) : Rst w0 rb sv s w { st with op := st.op - 1 } v l (wr.setCell ⟨rb, 2, none⟩ (.int .i64 ((st.op : Int) - 1))) := by
  have e : ((st.op : Int) - 1) = ((st.op - 1 : Nat) : Int) := by omega
  rw [e]; exact h.setop
theorem Rst.setcaps1 (h : Rst w0 rb sv s w st v l wr) : Rst w0 rb sv s w { st with caps := st.caps + 1 } v l (wr.setCell ⟨rb, 3, none⟩ (.int .i64 ((st.caps : Int) + 1))) := h.step (h.env.setcaps (st.caps + 1)) ((Only.refl _ _).set _)
theorem Rst.rbl (h : Rst w0 rb sv s w st v l wr) : rb < wr.heap.size := heap_lt h.env.rs
theorem Rst.start (he : Env w0 rb sv s w st) : Rst w0 rb sv s w st (.slice none 0 0) [] w := ⟨he, Only.refl w rb, SlB.nil_⟩
theorem Rst.setv (h : Rst w0 rb sv s w st v l wr) (hv : SlRe (rb + 1) (rb + 1) wr v' l') : Rst w0 rb sv s w st v' l' wr := ⟨h.env, h.only, hv⟩
/-- What is called of the alternatives within a group. -/
def AltC (w0 : World) (rb : Nat) (sv : Value) (s : List Int) (alt : RX.St → List RX.ReN × RX.St) (op : Nat) : Prop :=
  ∀ (w : World) (st : RX.St), Env w0 rb sv s w st → st.ok = true → st.at_ ≤ s.length → st.caps ≤ 9 → st.op = op →
    Calls Try.prog 23 #[.pointer (some ⟨rb, 0, none⟩)] w (PostR (fun w' v => SlRe (rb + 1) (rb + 1) w' v (alt st).1) rb sv w (alt st).2 (s.length + 30))
namespace RX
/-- Which group it is; where its inside begins. -/
def groupSel (s : List Int) (st : St) : Int × St :=
  if 12 ≤ st.op then (0, st.fail 6 st.at_)
  else if nxt s st 1 = 63 ∧ nxt s st 2 = 58 then (0, st.bump 3)
  else if nxt s st 1 = 63 then (0, st.fail 5 (st.at_ + 2))
  else if 9 ≤ st.caps then (0, st.fail 3 st.at_)
  else (st.caps + 1, { st.bump 1 with caps := st.caps + 1 })
theorem groupSel_eq (s : List Int) (alt : St → List ReN × St) {st : St} (hok : st.ok = true) : groupP s alt st = if (groupSel s st).2.ok = true then groupIn s alt (groupSel s st).1 (groupSel s st).2 else ([], (groupSel s st).2) := by
  unfold groupP groupSel
  by_cases h1 : 12 ≤ st.op
  · simp only [if_pos h1]; rw [St.fail_ok _ (by decide)]; rfl
  simp only [if_neg h1]
  by_cases h2 : nxt s st 1 = 63 ∧ nxt s st 2 = 58
  · simp only [if_pos h2]; rw [show (st.bump 3).ok = true from hok]; rfl
  simp only [if_neg h2]
  by_cases h3 : nxt s st 1 = 63
  · simp only [if_pos h3]; rw [St.fail_ok _ (by decide)]; rfl
  simp only [if_neg h3]
  by_cases h4 : 9 ≤ st.caps
  · simp only [if_pos h4]; rw [St.fail_ok _ (by decide)]; rfl
  simp only [if_neg h4]
  rw [show ({ st.bump 1 with caps := st.caps + 1 } : St).ok = true from hok]; rfl
theorem groupSel_ok {s : List Int} {st : St} (ha : st.at_ < s.length) (h9 : st.caps ≤ 9) : (groupSel s st).2.at_ ≤ s.length ∧ ((groupSel s st).2.ok = true → st.op < 12 ∧ (groupSel s st).2.op = st.op ∧ (groupSel s st).2.caps ≤ 9) := by
  have hf : ∀ c b, c ≠ 0 → (st.fail c b).at_ ≤ s.length ∧ ((st.fail c b).ok = true → st.op < 12 ∧ (st.fail c b).op = st.op ∧ (st.fail c b).caps ≤ 9) := fun c b h =>
    ⟨by rw [St.fail_at]; omega, by rw [St.fail_ok _ h]; exact (fun h => nomatch h)⟩
  unfold groupSel
  by_cases h1 : 12 ≤ st.op
  · simp only [if_pos h1]; exact hf _ _ (by decide)
  simp only [if_neg h1]
  by_cases h2 : nxt s st 1 = 63 ∧ nxt s st 2 = 58
  · simp only [if_pos h2]
    have := nxt_in (s := s) (k := 2) (st := st) (by omega)
    exact ⟨this, fun _ => ⟨by omega, rfl, h9⟩⟩
  simp only [if_neg h2]
  by_cases h3 : nxt s st 1 = 63
  · simp only [if_pos h3]; exact hf _ _ (by decide)
  simp only [if_neg h3]
  by_cases h4 : 9 ≤ st.caps
  · simp only [if_pos h4]; exact hf _ _ (by decide)
  simp only [if_neg h4]
  exact ⟨ha, fun _ => ⟨by omega, rfl, by show st.caps + 1 ≤ 9; omega⟩⟩
/-- What stands behind a group's inside. -/
def closed (s : List Int) (st : St) : St := if st.ok = true ∧ nxt s st 0 ≠ 41 then st.fail 5 st.at_ else st
theorem groupIn_eq (s : List Int) (alt : St → List ReN × St) (n : Int) (st : St) : groupIn s alt n st = (under (node 5 n 0 false false []) [(alt { st with op := st.op + 1 }).1], (closed s { (alt { st with op := st.op + 1 }).2 with op := (alt { st with op := st.op + 1 }).2.op - 1 }).bump 1) := rfl
theorem closed_at (s : List Int) (st : St) : (closed s st).at_ = st.at_ := by
  unfold closed; split
  · exact St.fail_at _ _ _
  · rfl
end RX
theorem ne_dec (x : Int) : (x != 41) = (true && decide (x ≠ 41)) := by simp [bne]; rfl
theorem small_of {d : Int} {k : Nat} {l : List RX.ReN} (h : RX.Tr d k l) (hd : d ≤ 1000) (hk : k ≤ 90000) (t : RX.ReN) : Small t [l] := by
  refine ⟨?_, fun l' hl x hx => ?_⟩
  · rw [RX.under_len]; have := h.1; simp; omega
  · simp at hl; subst hl; have := h.2 x hx; omega
theorem group_any (w : World) (st : RX.St) (alt : RX.St → List RX.ReN × RX.St) (he : Env w0 rb sv s w st) (hok : st.ok = true) (ha : st.at_ < s.length) (h9 : st.caps ≤ 9) {c : Nat} {d : Int} (hk : RX.AltOk s c d alt) (hc : c ≤ 20) (hd : d ≤ 100) (HA : st.op < 12 → AltC w0 rb sv s alt (st.op + 1)) :
    Calls Try.prog 46 #[.pointer (some ⟨rb, 0, none⟩)] w (PostR (fun w' v => SlRe (rb + 1) (rb + 1) w' v (RX.groupP s alt st).1) rb sv w (RX.groupP s alt st).2 (s.length + 30)) := by
  have HC := Lib.hid (Rst.start he)
  have hl60 := he.len
  have c1 := he.rs.c1
  have c2 := he.rs.c2
  have c3 := he.rs.c3
  have f1 := he.rs.fr 1
  have f3 := he.rs.fr 3
  clear he
  go_enter Try.func46, Try.ntmps46
  have HG := Lib.hid (RX.groupSel_eq s alt hok)
  have HO := Lib.hid hok
  clear hok
  have hrl : rb < w.heap.size := HC.out.rbl
  go_upto_block 0 with fail
  go_cut [3] (fun s3 wx => s3 = .int .i64 (RX.groupSel s st).1 ∧ Rst w0 rb sv s w (RX.groupSel s st).2 (.slice none 0 0) [] wx)
  case first =>
    by_cases h1 : 12 ≤ st.op
    · have hd : decide ((12 : Int) ≤ st.op) = true := by simp; omega
      have HY := Lib.hid (show RX.groupSel s st = (0, st.fail 6 st.at_) by unfold RX.groupSel; rw [if_pos h1])
      go_wp2_with (first | (go_at_call 25; apply Calls.mono; apply fail_any (w0 := w0) (rb := rb) (sv := sv) (s := s); (apply Rst.env; (focus (repeat (first | exact HC.out | apply Rst.drewN | apply Rst.bump | apply Rst.bump3 | apply Rst.setop1 | apply Rst.setcaps1 | apply Rst.alloc)))); rintro e w' ⟨rfl, hr, ho, hb⟩; have HC := Lib.hid (Rst.call (by (focus (repeat (first | exact HC.out | apply Rst.drewN | apply Rst.bump | apply Rst.bump3 | apply Rst.setop1 | apply Rst.setcaps1 | apply Rst.alloc)))) hr ho); have hr1 := HC.out.env.rs; have c1 := hr1.c1; have c2 := hr1.c2; have c3 := hr1.c3; have f1 := hr1.fr 1; have f2 := hr1.fr 2; have f3 := hr1.fr 3; have hrl := HC.out.rbl; clear hr1; clear hr ho hb))
      go_meet
      rw [HY.out]
      exact ⟨rfl, by (focus (repeat (first | exact HC.out | apply Rst.drewN | apply Rst.bump | apply Rst.bump3 | apply Rst.setop1 | apply Rst.setcaps1 | apply Rst.alloc)))⟩
    have hd : decide ((12 : Int) ≤ st.op) = false := by simp; omega
    rcases h3 : (RX.nxt s st 1 == 63) with _ | _
    · have h3' : ¬ RX.nxt s st 1 = 63 := by simpa using h3
      by_cases h4 : 9 ≤ st.caps
      · have hd4 : decide ((9 : Int) ≤ st.caps) = true := by simp; omega
        have HY := Lib.hid (show RX.groupSel s st = (0, st.fail 3 st.at_) by unfold RX.groupSel; rw [if_neg h1, if_neg (fun h => h3' h.1), if_neg h3', if_pos h4])
        clear h3'
        go_wp2_with (first | (go_at_call 40; apply Calls.mono; apply next_lit (w0 := w0) (rb := rb) (sv := sv) (s := s); (first | exact one_cast | exact two_cast | exact three_cast); (apply Rst.env; (focus (repeat (first | exact HC.out | apply Rst.drewN | apply Rst.bump | apply Rst.bump3 | apply Rst.setop1 | apply Rst.setcaps1 | apply Rst.alloc)))); (first | omega | (simp only [RX.St.bump] at *; omega)); rintro e w' ⟨rfl, n, rfl⟩) | (go_at_call 25; apply Calls.mono; apply fail_any (w0 := w0) (rb := rb) (sv := sv) (s := s); (apply Rst.env; (focus (repeat (first | exact HC.out | apply Rst.drewN | apply Rst.bump | apply Rst.bump3 | apply Rst.setop1 | apply Rst.setcaps1 | apply Rst.alloc)))); rintro e w' ⟨rfl, hr, ho, hb⟩; have HC := Lib.hid (Rst.call (by (focus (repeat (first | exact HC.out | apply Rst.drewN | apply Rst.bump | apply Rst.bump3 | apply Rst.setop1 | apply Rst.setcaps1 | apply Rst.alloc)))) hr ho); have hr1 := HC.out.env.rs; have c1 := hr1.c1; have c2 := hr1.c2; have c3 := hr1.c3; have f1 := hr1.fr 1; have f2 := hr1.fr 2; have f3 := hr1.fr 3; have hrl := HC.out.rbl; clear hr1; clear hr ho hb))
        go_meet
        rw [HY.out]
        exact ⟨rfl, by (focus (repeat (first | exact HC.out | apply Rst.drewN | apply Rst.bump | apply Rst.bump3 | apply Rst.setop1 | apply Rst.setcaps1 | apply Rst.alloc)))⟩
      · have hd4 : decide ((9 : Int) ≤ st.caps) = false := by simp; omega
        have HY := Lib.hid (show RX.groupSel s st = ((st.caps : Int) + 1, { st.bump 1 with caps := st.caps + 1 }) by unfold RX.groupSel; rw [if_neg h1, if_neg (fun h => h3' h.1), if_neg h3', if_neg h4])
        clear h3'
        go_wp2_with (first | (go_at_call 40; apply Calls.mono; apply next_lit (w0 := w0) (rb := rb) (sv := sv) (s := s); (first | exact one_cast | exact two_cast | exact three_cast); (apply Rst.env; (focus (repeat (first | exact HC.out | apply Rst.drewN | apply Rst.bump | apply Rst.bump3 | apply Rst.setop1 | apply Rst.setcaps1 | apply Rst.alloc)))); (first | omega | (simp only [RX.St.bump] at *; omega)); rintro e w' ⟨rfl, n, rfl⟩) | (go_at_call 25; apply Calls.mono; apply fail_any (w0 := w0) (rb := rb) (sv := sv) (s := s); (apply Rst.env; (focus (repeat (first | exact HC.out | apply Rst.drewN | apply Rst.bump | apply Rst.bump3 | apply Rst.setop1 | apply Rst.setcaps1 | apply Rst.alloc)))); rintro e w' ⟨rfl, hr, ho, hb⟩; have HC := Lib.hid (Rst.call (by (focus (repeat (first | exact HC.out | apply Rst.drewN | apply Rst.bump | apply Rst.bump3 | apply Rst.setop1 | apply Rst.setcaps1 | apply Rst.alloc)))) hr ho); have hr1 := HC.out.env.rs; have c1 := hr1.c1; have c2 := hr1.c2; have c3 := hr1.c3; have f1 := hr1.fr 1; have f2 := hr1.fr 2; have f3 := hr1.fr 3; have hrl := HC.out.rbl; clear hr1; clear hr ho hb))
        go_meet
        rw [HY.out]
        exact ⟨rfl, Rst.bump (Rst.setcaps1 (by (focus (repeat (first | exact HC.out | apply Rst.drewN | apply Rst.bump | apply Rst.bump3 | apply Rst.setop1 | apply Rst.setcaps1 | apply Rst.alloc)))))⟩
    · have h3' : RX.nxt s st 1 = 63 := by simpa using h3
      rcases h5 : (RX.nxt s st 2 == 58) with _ | _
      · have h5' : ¬ RX.nxt s st 2 = 58 := by simpa using h5
        have HY := Lib.hid (show RX.groupSel s st = (0, st.fail 5 (st.at_ + 2)) by unfold RX.groupSel; rw [if_neg h1, if_neg (fun h => h5' h.2), if_pos h3'])
        clear h3' h5'
        go_wp2_with (first | (go_at_call 40; apply Calls.mono; apply next_lit (w0 := w0) (rb := rb) (sv := sv) (s := s); (first | exact one_cast | exact two_cast | exact three_cast); (apply Rst.env; (focus (repeat (first | exact HC.out | apply Rst.drewN | apply Rst.bump | apply Rst.bump3 | apply Rst.setop1 | apply Rst.setcaps1 | apply Rst.alloc)))); (first | omega | (simp only [RX.St.bump] at *; omega)); rintro e w' ⟨rfl, n, rfl⟩) | (go_at_call 25; apply Calls.mono; apply fail_any (w0 := w0) (rb := rb) (sv := sv) (s := s); (apply Rst.env; (focus (repeat (first | exact HC.out | apply Rst.drewN | apply Rst.bump | apply Rst.bump3 | apply Rst.setop1 | apply Rst.setcaps1 | apply Rst.alloc)))); rintro e w' ⟨rfl, hr, ho, hb⟩; have HC := Lib.hid (Rst.call (by (focus (repeat (first | exact HC.out | apply Rst.drewN | apply Rst.bump | apply Rst.bump3 | apply Rst.setop1 | apply Rst.setcaps1 | apply Rst.alloc)))) hr ho); have hr1 := HC.out.env.rs; have c1 := hr1.c1; have c2 := hr1.c2; have c3 := hr1.c3; have f1 := hr1.fr 1; have f2 := hr1.fr 2; have f3 := hr1.fr 3; have hrl := HC.out.rbl; clear hr1; clear hr ho hb))
        go_meet
        rw [HY.out]
        exact ⟨rfl, by (focus (repeat (first | exact HC.out | apply Rst.drewN | apply Rst.bump | apply Rst.bump3 | apply Rst.setop1 | apply Rst.setcaps1 | apply Rst.alloc)))⟩
      · have h5' : RX.nxt s st 2 = 58 := by simpa using h5
        have HY := Lib.hid (show RX.groupSel s st = (0, st.bump 3) by unfold RX.groupSel; rw [if_neg h1, if_pos ⟨h3', h5'⟩])
        clear h3' h5'
        go_wp2_with (first | (go_at_call 40; apply Calls.mono; apply next_lit (w0 := w0) (rb := rb) (sv := sv) (s := s); (first | exact one_cast | exact two_cast | exact three_cast); (apply Rst.env; (focus (repeat (first | exact HC.out | apply Rst.drewN | apply Rst.bump | apply Rst.bump3 | apply Rst.setop1 | apply Rst.setcaps1 | apply Rst.alloc)))); (first | omega | (simp only [RX.St.bump] at *; omega)); rintro e w' ⟨rfl, n, rfl⟩) | (go_at_call 25; apply Calls.mono; apply fail_any (w0 := w0) (rb := rb) (sv := sv) (s := s); (apply Rst.env; (focus (repeat (first | exact HC.out | apply Rst.drewN | apply Rst.bump | apply Rst.bump3 | apply Rst.setop1 | apply Rst.setcaps1 | apply Rst.alloc)))); rintro e w' ⟨rfl, hr, ho, hb⟩; have HC := Lib.hid (Rst.call (by (focus (repeat (first | exact HC.out | apply Rst.drewN | apply Rst.bump | apply Rst.bump3 | apply Rst.setop1 | apply Rst.setcaps1 | apply Rst.alloc)))) hr ho); have hr1 := HC.out.env.rs; have c1 := hr1.c1; have c2 := hr1.c2; have c3 := hr1.c3; have f1 := hr1.fr 1; have f2 := hr1.fr 2; have f3 := hr1.fr 3; have hrl := HC.out.rbl; clear hr1; clear hr ho hb))
        go_meet
        rw [HY.out]
        exact ⟨rfl, by (focus (repeat (first | exact HC.out | apply Rst.drewN | apply Rst.bump | apply Rst.bump3 | apply Rst.setop1 | apply Rst.setcaps1 | apply Rst.alloc)))⟩
  case rest =>
    obtain ⟨rfl, hcc⟩ := hcut
    have HC := Lib.hid hcc
    clear hcc c1 c2 c3 f1 f3 hrl
    have hsel := RX.groupSel_ok (s := s) ha h9
    generalize RX.groupSel s st = g at HG HC hsel ⊢
    obtain ⟨n2, st2⟩ := g
    dsimp only at HG HC hsel ⊢
    obtain ⟨hat2, hsel⟩ := hsel
    rcases hok2 : st2.ok with _ | _
    · go_wp2_with (first | (go_at_call 24; apply Calls.mono; apply ok_any (w0 := w0) (rb := rb) (sv := sv) (s := s); (apply Rst.env; (focus (repeat (first | exact HC.out | apply Rst.drewN | apply Rst.bump | apply Rst.bump3 | apply Rst.setop1 | apply Rst.setcaps1 | apply Rst.alloc)))); rintro e w' ⟨rfl, n, rfl⟩))
      go_ret
      have hz := HG.out
      rw [hok2, if_neg (by decide)] at hz
      rw [hz]
      have HD := HC.out.drewN (n := n)
      exact PostR.of HD.env.rs HD.only (by omega) SlB.nil_ rfl
    · obtain ⟨h12, hop2, h92⟩ := hsel hok2
      have hz := HG.out
      rw [hok2, if_pos rfl, RX.groupIn_eq] at hz
      have HQ := HA h12
      have hq := hk { st2 with op := st2.op + 1 } hok2 hat2 h92
      have hA : ∀ w, Env w0 rb sv s w { st2 with op := st2.op + 1 } → Calls Try.prog 23 #[.pointer (some ⟨rb, 0, none⟩)] w (PostR (fun w' v => SlRe (rb + 1) (rb + 1) w' v (alt { st2 with op := st2.op + 1 }).1) rb sv w (alt { st2 with op := st2.op + 1 }).2 (s.length + 30)) :=
        fun w he => HQ w _ he hok2 hat2 h92 (by show st2.op + 1 = _; omega)
      generalize alt { st2 with op := st2.op + 1 } = r at hz hq hA
      have hop1 : r.2.op = st2.op + 1 := hq.1.op
      have hat3 : r.2.at_ ≤ s.length + c := hq.1.hi
      have hsm := small_of hq.2 (by omega) (by omega)
      have HZ := Lib.hid hz
      have HA := Lib.hid hA
      have HS := Lib.hid hsm
      have HP := Lib.hid hop1
      have hp1 : 1 ≤ r.2.op := by omega
      have hp2 : r.2.op ≤ 12 := by omega
      have hp0 : st2.op ≤ 12 := by omega
      clear hz hA hq hsm hsel HQ hop1 hop2
      have hr1 := HC.out.env.rs; have c1 := hr1.c1; have c2 := hr1.c2; have c3 := hr1.c3; have f1 := hr1.fr 1; have f2 := hr1.fr 2; have f3 := hr1.fr 3; have hrl := HC.out.rbl; clear hr1
      go_upto_region 17 with (first | (go_at_call 24; apply Calls.mono; apply ok_any (w0 := w0) (rb := rb) (sv := sv) (s := s); (apply Rst.env; (focus (repeat (first | exact HC.out | apply Rst.drewN | apply Rst.bump | apply Rst.bump3 | apply Rst.setop1 | apply Rst.setcaps1 | apply Rst.alloc)))); rintro e w' ⟨rfl, n, rfl⟩) | (go_at_call 23; refine (HA.out _ ?hen).mono ?_; (case hen => (apply Rst.env; (focus (repeat (first | exact HC.out | apply Rst.drewN | apply Rst.bump | apply Rst.bump3 | apply Rst.setop1 | apply Rst.setcaps1 | apply Rst.alloc))))); rintro e w' ⟨v, rfl, hv, hr, ho, hb⟩; have HC := Lib.hid (Rst.call (by (focus (repeat (first | exact HC.out | apply Rst.drewN | apply Rst.bump | apply Rst.bump3 | apply Rst.setop1 | apply Rst.setcaps1 | apply Rst.alloc)))) hr ho); have hr1 := HC.out.env.rs; have c1 := hr1.c1; have c2 := hr1.c2; have c3 := hr1.c3; have f1 := hr1.fr 1; have f2 := hr1.fr 2; have f3 := hr1.fr 3; have hrl := HC.out.rbl; clear hr1; clear hr ho hb; obtain ⟨Aa, ca, rfl, _⟩ := hv.form; have HV := Lib.hid hv; clear hv))
      go_upto_region 18 with fail
      have HC := Lib.hid (Rst.setop0 (Rst.setv HC.out HV.out) hp1)
      generalize hst4 : ({ r.2 with op := r.2.op - 1 } : RX.St) = st4 at HC HZ
      have hat4 : st4.at_ ≤ s.length + c := by rw [← hst4]; exact hat3
      clear hst4
      go_cut [99] (fun s99 wx => ∃ b, s99 = .bool b ∧ b = (st4.ok && decide (RX.nxt s st4 0 ≠ 41)) ∧ Rst w0 rb sv s w st4 (.slice Aa r.1.length ca) r.1 wx)
      case first =>
        rcases hok4 : st4.ok with _ | _
        · go_wp2_with (first | (go_at_call 24; apply Calls.mono; apply ok_any (w0 := w0) (rb := rb) (sv := sv) (s := s); (apply Rst.env; (focus (repeat (first | exact HC.out | apply Rst.drewN | apply Rst.bump | apply Rst.bump3 | apply Rst.setop1 | apply Rst.setcaps1 | apply Rst.alloc)))); rintro e w' ⟨rfl, n, rfl⟩))
          go_meet
          exact ⟨_, rfl, by rw [hok4]; rfl, by (focus (repeat (first | exact HC.out | apply Rst.drewN | apply Rst.bump | apply Rst.bump3 | apply Rst.setop1 | apply Rst.setcaps1 | apply Rst.alloc)))⟩
        · go_wp2_with (first | (go_at_call 24; apply Calls.mono; apply ok_any (w0 := w0) (rb := rb) (sv := sv) (s := s); (apply Rst.env; (focus (repeat (first | exact HC.out | apply Rst.drewN | apply Rst.bump | apply Rst.bump3 | apply Rst.setop1 | apply Rst.setcaps1 | apply Rst.alloc)))); rintro e w' ⟨rfl, n, rfl⟩) | (go_at_call 34; apply Calls.mono; apply peek_any (w0 := w0) (rb := rb) (sv := sv) (s := s); (apply Rst.env; (focus (repeat (first | exact HC.out | apply Rst.drewN | apply Rst.bump | apply Rst.bump3 | apply Rst.setop1 | apply Rst.setcaps1 | apply Rst.alloc)))); (first | omega | (simp only [RX.St.bump] at *; omega)); rintro e w' ⟨rfl, n, rfl⟩))
          go_meet
          exact ⟨_, rfl, by rw [hok4]; exact ne_dec _, by (focus (repeat (first | exact HC.out | apply Rst.drewN | apply Rst.bump | apply Rst.bump3 | apply Rst.setop1 | apply Rst.setcaps1 | apply Rst.alloc)))⟩
      case rest =>
        obtain ⟨b, rfl, hb, hcc⟩ := hcut
        have HC := Lib.hid hcc
        have HB := Lib.hid hb
        clear hcc hb
        have hr1 := HC.out.env.rs; have c1 := hr1.c1; have c2 := hr1.c2; have c3 := hr1.c3; have f1 := hr1.fr 1; have f2 := hr1.fr 2; have f3 := hr1.fr 3; have hrl := HC.out.rbl; clear hr1
        go_upto_if 99 with fail
        go_cut [] (fun wx => Rst w0 rb sv s w (RX.closed s st4) (.slice Aa r.1.length ca) r.1 wx)
        case first =>
          rcases b with _ | _
          · have HY := Lib.hid (show RX.closed s st4 = st4 by unfold RX.closed; rw [if_neg]; have := HB.out; intro h; rw [h.1, decide_eq_true h.2] at this; cases this)
            go_wp2_with fail
            go_meet
            rw [HY.out]; (focus (repeat (first | exact HC.out | apply Rst.drewN | apply Rst.bump | apply Rst.bump3 | apply Rst.setop1 | apply Rst.setcaps1 | apply Rst.alloc)))
          · have HY := Lib.hid (show RX.closed s st4 = st4.fail 5 st4.at_ by unfold RX.closed; rw [if_pos]; have := HB.out.symm; simp only [Bool.and_eq_true, decide_eq_true_eq] at this; exact this)
            go_wp2_with (first | (go_at_call 25; apply Calls.mono; apply fail_any (w0 := w0) (rb := rb) (sv := sv) (s := s); (apply Rst.env; (focus (repeat (first | exact HC.out | apply Rst.drewN | apply Rst.bump | apply Rst.bump3 | apply Rst.setop1 | apply Rst.setcaps1 | apply Rst.alloc)))); rintro e w' ⟨rfl, hr, ho, hb⟩; have HC := Lib.hid (Rst.call (by (focus (repeat (first | exact HC.out | apply Rst.drewN | apply Rst.bump | apply Rst.bump3 | apply Rst.setop1 | apply Rst.setcaps1 | apply Rst.alloc)))) hr ho); have hr1 := HC.out.env.rs; have c1 := hr1.c1; have c2 := hr1.c2; have c3 := hr1.c3; have f1 := hr1.fr 1; have f2 := hr1.fr 2; have f3 := hr1.fr 3; have hrl := HC.out.rbl; clear hr1; clear hr ho hb))
            go_meet
            rw [HY.out]; (focus (repeat (first | exact HC.out | apply Rst.drewN | apply Rst.bump | apply Rst.bump3 | apply Rst.setop1 | apply Rst.setcaps1 | apply Rst.alloc)))
        case rest =>
          have hat5 := RX.closed_at s st4
          have hat6 : (RX.closed s st4).at_ ≤ s.length + c := by omega
          clear hat5
          generalize RX.closed s st4 = st5 at HZ hcut hat6
          have HC := Lib.hid hcut
          clear hcut
          have hr1 := HC.out.env.rs; have c1 := hr1.c1; have c2 := hr1.c2; have c3 := hr1.c3; have f1 := hr1.fr 1; have f2 := hr1.fr 2; have f3 := hr1.fr 3; have hrl := HC.out.rbl; clear hr1
          go_wp2_with (first | (go_at_call 35; apply Calls.mono; apply under_any (B := rb + 1) (parts := [_]); apply CR.mk0; (apply l_lit; (focus (first | rfl | (simp; done) | (simp; omega))); (focus (first | omega | (simp; omega))); (apply Rst.val; (focus (repeat (first | exact HC.out | apply Rst.drewN | apply Rst.bump | apply Rst.bump3 | apply Rst.setop1 | apply Rst.setcaps1 | apply Rst.alloc))))); exact HS.out _; rintro e w' ⟨vr, rfl, hown, hx⟩; have HR := Lib.hid (SlB.weaken (base' := rb + 1) hown.sl (by (focus (first | omega | (simp; omega))))); have HC := Lib.hid (Rst.ext (by (focus (repeat (first | exact HC.out | apply Rst.drewN | apply Rst.bump | apply Rst.bump3 | apply Rst.setop1 | apply Rst.setcaps1 | apply Rst.alloc)))) hx); have hr1 := HC.out.env.rs; have c1 := hr1.c1; have c2 := hr1.c2; have c3 := hr1.c3; have f1 := hr1.fr 1; have f2 := hr1.fr 2; have f3 := hr1.fr 3; have hrl := HC.out.rbl; clear hr1; clear hx hown))
          go_ret
          have hz := HZ.out
          rw [hz]
          exact PostR.of HC.out.env.rs HC.out.only (by show st5.at_ + 1 ≤ _; omega) HR.out rfl
end
end Go.Proofs.Ytpcdknfmgacggaa
