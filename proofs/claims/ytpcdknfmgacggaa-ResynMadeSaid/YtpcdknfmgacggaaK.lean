/- For ResynMadeS: what the texts XRpt of wip/tpl say. -/
import Derived.Test.YtpcdknfmgacggaaG
set_option maxRecDepth 100000
set_option maxHeartbeats 4000000
namespace Go.Proofs.Ytpcdknfmgacggaa
open Go.RowKit
section
variable {w0 : World} {rb : Nat} {sv : Value} {s : List Int}
theorem repeat_any (w : World) (st : RX.St) (atom : List RX.ReN) (va : Value) (he : Env w0 rb sv s w st) (ha : st.at_ ≤ 800) (hv : SlRe (rb + 1) (rb + 1) w va atom) (hsm : ∀ t : RX.ReN, Small t [atom]) :
    Calls Try.prog 43 #[.pointer (some ⟨rb, 0, none⟩), va] w (PostR (fun w' v => SlRe (rb + 1) (rb + 1) w' v (RX.repeatP s atom st).1) rb sv w (RX.repeatP s atom st).2 (st.at_ + 6)) := by
  have HE := Lib.hid he
  have HO := Lib.hid (Only.refl w rb)
  have hrb : rb + 1 ≤ w.heap.size := he.rbl
  have HV := Lib.hid hv
  obtain ⟨Aa, ca, rfl, _⟩ := hv.form
  obtain ⟨nb, hnb⟩ : ∃ nb, nb = w.heap.size := ⟨_, rfl⟩
  have hrn : rb < nb := by omega
  have hnw : w.heap.size ≤ nb := by omega
  clear he hv
  go_enter Try.func43, Try.ntmps43
  go_wp2_with fail
  rw [← hnb]
  have HB := Lib.hid (BX.new (cs := [.int .i64 6, .int .i64 0, .int .i64 0, .int .i64 (-1), .bool false, .bool false, .slice none 0 0]) hnb)
  have HE := Lib.hid (Env.alloc HE.out (.cells [Value.int .i64 6, .int .i64 0, .int .i64 0, .int .i64 (-1), .bool false, .bool false, .slice none 0 0].toArray 47))
  have HO := Lib.hid (Only.alloc (o := .cells [Value.int .i64 6, .int .i64 0, .int .i64 0, .int .i64 (-1), .bool false, .bool false, .slice none 0 0].toArray 47) HO.out)
  generalize hwb : w.alloc _ = wb at HB HE HO ⊢
  have hr := HE.out.rs
  have c1 := hr.c1
  have f1 := hr.fr 1
  have hrl := heap_lt hr
  have hnl : nb < wb.heap.size := heap_lt HB.out
  have d0 := HB.out.c 0 _ rfl; have d1 := HB.out.c 1 _ rfl; have d2 := HB.out.c 2 _ rfl; have d3 := HB.out.c 3 _ rfl; have d4 := HB.out.c 4 _ rfl; have d5 := HB.out.c 5 _ rfl; have d6 := HB.out.c 6 _ rfl; have e2 := HB.out.fr 2; have e3 := HB.out.fr 3; have e4 := HB.out.fr 4; have e5 := HB.out.fr 5; have e6 := HB.out.fr 6
  clear hr hnb
  go_wp2_with (first | (go_at_call 34; apply Calls.mono; apply peek_any (w0 := w0) (rb := rb) (sv := sv) (s := s); (focus (repeat (first | exact HE.out | apply Env.bump1 | apply Env.drewN | apply Env.alloc | apply Env.setop | apply Env.setcaps | apply Env.bumpE | apply Env.setbox hrn | (simp only [RX.St.bump]; omega) | omega))); (first | omega | (simp only [RX.St.bump] at *; omega)); rintro e w' ⟨rfl, n, rfl⟩) | (go_at_call 24; apply Calls.mono; apply ok_any (w0 := w0) (rb := rb) (sv := sv) (s := s); (focus (repeat (first | exact HE.out | apply Env.bump1 | apply Env.drewN | apply Env.alloc | apply Env.setop | apply Env.setcaps | apply Env.bumpE | apply Env.setbox hrn | (simp only [RX.St.bump]; omega) | omega))); rintro e w' ⟨rfl, n, rfl⟩) | (go_at_call 49; apply Calls.mono; apply bounds_any (w0 := w0) (rb := rb) (sv := sv) (s := s); (focus (repeat (first | exact HE.out | apply Env.bump1 | apply Env.drewN | apply Env.alloc | apply Env.setop | apply Env.setcaps | apply Env.bumpE | apply Env.setbox hrn | (simp only [RX.St.bump]; omega) | omega))); (first | omega | (simp only [RX.St.bump] at *; omega)); rintro e w' ⟨rfl, hr, ho, hb⟩; generalize hq : RX.bounds s _ = mq at hr hb ⊢; obtain ⟨mv, mh, sq⟩ := mq; simp only at hr hb ⊢; (try simp only [RX.St.bump] at hb); have HE := Lib.hid (Env.step (by (focus (repeat (first | exact HE.out | apply Env.bump1 | apply Env.drewN | apply Env.alloc | apply Env.setop | apply Env.setcaps | apply Env.bumpE | apply Env.setbox hrn | (simp only [RX.St.bump]; omega) | omega)))) ho hr); have HO := Lib.hid (Only.trans (by (focus (repeat (first | exact HO.out | apply Only.set | apply Only.drewN | apply Only.alloc | apply Only.setNew hnw)))) ho); have c1 := hr.c1; have f1 := hr.fr 1; have c2 := hr.c2; have f2 := hr.fr 2; have c3 := hr.c3; have f3 := hr.fr 3; have hrl := heap_lt hr; have HB := Lib.hid (BX.only (by (focus (repeat (first | exact HB.out | apply BX.setrb hrn | apply BX.drewN | apply BX.alloc)))) ho (by omega)); have d0 := HB.out.c 0 _ rfl; have d1 := HB.out.c 1 _ rfl; have d2 := HB.out.c 2 _ rfl; have d3 := HB.out.c 3 _ rfl; have d4 := HB.out.c 4 _ rfl; have d5 := HB.out.c 5 _ rfl; have d6 := HB.out.c 6 _ rfl; have e2 := HB.out.fr 2; have e3 := HB.out.fr 3; have e4 := HB.out.fr 4; have e5 := HB.out.fr 5; have e6 := HB.out.fr 6; clear hr ho) | (go_at_call 35; apply Calls.mono; apply under_any (B := rb + 1) (parts := [atom]); (first | apply CR.mk0 | (apply CR.mk; (focus (repeat (first | exact HV.out | (apply c_lit2; (focus (first | rfl | (simp; done) | (simp; omega))); (focus (first | omega | (simp; omega) | (apply Env.rbl (w0 := w0) (s := s); (focus (repeat (first | exact HE.out | apply Env.bump1 | apply Env.drewN | apply Env.alloc | apply Env.setop | apply Env.setcaps | apply Env.bumpE | apply Env.setbox hrn | (simp only [RX.St.bump]; omega) | omega))))))) | apply SlB.setrb | apply SlB.drewN | apply SlB.alloc))))); (apply l_lit; (focus (first | rfl | (simp; done) | (simp; omega))); (focus (first | omega | (simp; omega) | (apply Env.rbl (w0 := w0) (s := s); (focus (repeat (first | exact HE.out | apply Env.bump1 | apply Env.drewN | apply Env.alloc | apply Env.setop | apply Env.setcaps | apply Env.bumpE | apply Env.setbox hrn | (simp only [RX.St.bump]; omega) | omega)))))); (apply SlB.only (w := w) HV.out (keepsB_re _); (focus (repeat (first | exact HO.out | apply Only.set | apply Only.drewN | apply Only.alloc | apply Only.setNew hnw))))); exact hsm _; rintro e w' ⟨vr, rfl, hown, hx⟩; have HR := Lib.hid (SlB.weaken (base' := rb + 1) hown.sl (by (focus (first | omega | (simp; omega) | (apply Env.rbl (w0 := w0) (s := s); (focus (repeat (first | exact HE.out | apply Env.bump1 | apply Env.drewN | apply Env.alloc | apply Env.setop | apply Env.setcaps | apply Env.bumpE | apply Env.setbox hrn | (simp only [RX.St.bump]; omega) | omega)))))))); have HE := Lib.hid (Env.ext (by (focus (repeat (first | exact HE.out | apply Env.bump1 | apply Env.drewN | apply Env.alloc | apply Env.setop | apply Env.setcaps | apply Env.bumpE | apply Env.setbox hrn | (simp only [RX.St.bump]; omega) | omega)))) hx); have HO := Lib.hid (Only.trans (by (focus (repeat (first | exact HO.out | apply Only.set | apply Only.drewN | apply Only.alloc | apply Only.setNew hnw)))) (Only.of_ext hx rb)); have hr := HE.out.rs; have c1 := hr.c1; (try simp only [RX.St.bump] at c1); have f1 := hr.fr 1; have c2 := hr.c2; have f2 := hr.fr 2; have hrl := heap_lt hr; clear hx hr hown))
  all_goals (try go_ret)
  all_goals (apply PostR.of; ((apply Env.rs (w0 := w0) (s := s)); (focus (repeat (first | exact HE.out | apply Env.bump1 | apply Env.drewN | apply Env.alloc | apply Env.setop | apply Env.setcaps | apply Env.bumpE | apply Env.setbox hrn | (simp only [RX.St.bump]; omega) | omega)))); (focus (repeat (first | exact HO.out | apply Only.set | apply Only.drewN | apply Only.alloc | apply Only.setNew hnw))); (first | omega | (simp only [RX.St.bump] at *; omega)); (first | (apply SlRe.cast; exact HR.out) | (apply SlRe.cast; (apply SlB.only (w := w) HV.out (keepsB_re _); (focus (repeat (first | exact HO.out | apply Only.set | apply Only.drewN | apply Only.alloc | apply Only.setNew hnw)))))))
  all_goals (clear HE HO; (first | (simp_all [RX.repeatP, RX.repTop]; done) | (simp_all [RX.repeatP, RX.repTop, RX.St.bump]; done) | (simp_all [RX.repeatP, RX.repTop, RX.St.bump]; omega) | (simp only [RX.repeatP, RX.repTop, RX.St.bump] at *; omega) | skip))
end
end Go.Proofs.Ytpcdknfmgacggaa
