/- Walks: ranged of package resyn. -/
import Derived.Test.YtfblkahjefdmaaaEsc
namespace Go.Proofs.Ytfblkahjefdmaaa
open Go.RowKit

section
variable {w0 : World} {rb : Nat} {sv : Value} {s : List Int}
theorem one_cast : (1 : Int) = ((1 : Nat) : Int) ∧ 1 ≤ 2 := ⟨rfl, by decide⟩
theorem two_cast : (2 : Int) = ((2 : Nat) : Int) ∧ 2 ≤ 2 := ⟨rfl, by decide⟩
theorem three_cast : (0 : Int) = ((0 : Nat) : Int) ∧ 0 ≤ 2 := ⟨rfl, by decide⟩
theorem next_lit {k : Int} {n : Nat} {w : World} {st : RX.St} (hk : k = (n : Int) ∧ n ≤ 2) (he : Env w0 rb sv s w st) (ha : st.at_ ≤ 10000) :
    Calls Try.prog 119 #[.pointer (some ⟨rb, 0, none⟩), .int .i64 k] w (RetD (.int .i32 (RX.nxt s st n)) w) := hk.1 ▸ next_any n w st he hk.2 ha

set_option maxRecDepth 100000 in
set_option maxHeartbeats 4000000 in
theorem ranged_any (w : World) (st : RX.St) (he : Env w0 rb sv s w st) (ha : st.at_ ≤ 900) :
    Calls Try.prog 152 #[.pointer (some ⟨rb, 0, none⟩)] w (PostV (.bool (RX.ranged s st)) rb sv w st st.at_) := by
  have HE := Lib.hid he
  have HO := Lib.hid (Only.refl w rb)
  have c1 := he.rs.c1
  have f1 := he.rs.fr 1
  have hrb : rb + 1 ≤ w.heap.size := he.rbl
  clear he
  have hqe := q_eql
  rcases hs1 : RX.sortR (RX.nxt s st 2) with _ | l
  · have hs2 := hs1
    go_enter Try.func152, Try.ntmps152
    go_wp2_with (first | (go_at_call 93; apply Calls.mono; apply peek_any (w0 := w0) (rb := rb) (sv := sv) (s := s); (focus (repeat (first | exact HE.out | apply Env.bump1 | apply Env.drewN | apply Env.alloc | apply Env.setop | apply Env.setcaps | apply Env.bumpE | apply Env.setbox hrn | (simp only [RX.St.bump]; omega) | omega))); (first | omega | (simp only [RX.St.bump] at *; omega)); rintro e w' ⟨rfl, n, rfl⟩) | (go_at_call 119; apply Calls.mono; apply next_lit (w0 := w0) (rb := rb) (sv := sv) (s := s); (first | exact one_cast | exact two_cast | exact three_cast); (focus (repeat (first | exact HE.out | apply Env.bump1 | apply Env.drewN | apply Env.alloc | apply Env.setop | apply Env.setcaps | apply Env.bumpE | apply Env.setbox hrn | (simp only [RX.St.bump]; omega) | omega))); (first | omega | (simp only [RX.St.bump] at *; omega)); rintro e w' ⟨rfl, n, rfl⟩) | (go_at_call 153; apply Calls.mono; apply sort_none; (first | exact hs1 | exact hs2); rintro e w' ⟨_, rfl, rfl, hx⟩; have HE := Lib.hid (Env.ext (by (focus (repeat (first | exact HE.out | apply Env.bump1 | apply Env.drewN | apply Env.alloc | apply Env.setop | apply Env.setcaps | apply Env.bumpE | apply Env.setbox hrn | (simp only [RX.St.bump]; omega) | omega)))) hx); have HO := Lib.hid (Only.trans (by (focus (repeat (first | exact HO.out | apply Only.set | apply Only.drewN | apply Only.alloc | apply Only.setNew hnw)))) (Only.of_ext hx rb)); have hr := HE.out.rs; have c1 := hr.c1; (try simp only [RX.St.bump] at c1); have f1 := hr.fr 1; have hrl := heap_lt hr; clear hx hr))
    all_goals (try go_ret)
    all_goals (apply PostV.of; ((apply Env.rs (w0 := w0) (s := s)); (focus (repeat (first | exact HE.out | apply Env.bump1 | apply Env.drewN | apply Env.alloc | apply Env.setop | apply Env.setcaps | apply Env.bumpE | apply Env.setbox hrn | (simp only [RX.St.bump]; omega) | omega)))); (focus (repeat (first | exact HO.out | apply Only.set | apply Only.drewN | apply Only.alloc | apply Only.setNew hnw))); (first | omega | (simp only [RX.St.bump] at *; omega)))
    all_goals (clear HE HO; (first | (simp_all [RX.ranged]; done) | (simp_all [RX.ranged, RX.St.bump]; done) | (simp_all [RX.ranged, RX.St.bump]; omega) | (simp only [RX.ranged, RX.St.bump] at *; omega) | skip))
  · have hs2 := hs1
    go_enter Try.func152, Try.ntmps152
    go_wp2_with (first | (go_at_call 93; apply Calls.mono; apply peek_any (w0 := w0) (rb := rb) (sv := sv) (s := s); (focus (repeat (first | exact HE.out | apply Env.bump1 | apply Env.drewN | apply Env.alloc | apply Env.setop | apply Env.setcaps | apply Env.bumpE | apply Env.setbox hrn | (simp only [RX.St.bump]; omega) | omega))); (first | omega | (simp only [RX.St.bump] at *; omega)); rintro e w' ⟨rfl, n, rfl⟩) | (go_at_call 119; apply Calls.mono; apply next_lit (w0 := w0) (rb := rb) (sv := sv) (s := s); (first | exact one_cast | exact two_cast | exact three_cast); (focus (repeat (first | exact HE.out | apply Env.bump1 | apply Env.drewN | apply Env.alloc | apply Env.setop | apply Env.setcaps | apply Env.bumpE | apply Env.setbox hrn | (simp only [RX.St.bump]; omega) | omega))); (first | omega | (simp only [RX.St.bump] at *; omega)); rintro e w' ⟨rfl, n, rfl⟩) | (go_at_call 153; apply Calls.mono; apply sort_some; (first | exact hs1 | exact hs2); rintro e w' ⟨vs, rfl, ⟨hown, g, rfl⟩, hx⟩; have hown := OwnB.weak hown (show rb + 1 ≤ _ by (apply Env.rbl (w0 := w0) (s := s); (focus (repeat (first | exact HE.out | apply Env.bump1 | apply Env.drewN | apply Env.alloc | apply Env.setop | apply Env.setcaps | apply Env.bumpE | apply Env.setbox hrn | (simp only [RX.St.bump]; omega) | omega))))); have HV := Lib.hid hown.sl; have HE := Lib.hid (Env.ext (by (focus (repeat (first | exact HE.out | apply Env.bump1 | apply Env.drewN | apply Env.alloc | apply Env.setop | apply Env.setcaps | apply Env.bumpE | apply Env.setbox hrn | (simp only [RX.St.bump]; omega) | omega)))) hx); have HO := Lib.hid (Only.trans (by (focus (repeat (first | exact HO.out | apply Only.set | apply Only.drewN | apply Only.alloc | apply Only.setNew hnw)))) (Only.of_ext hx rb)); have hr := HE.out.rs; have c1 := hr.c1; (try simp only [RX.St.bump] at c1); have f1 := hr.fr 1; have hrl := heap_lt hr; clear hx hr hown))
    all_goals (try go_ret)
    all_goals (apply PostV.of; ((apply Env.rs (w0 := w0) (s := s)); (focus (repeat (first | exact HE.out | apply Env.bump1 | apply Env.drewN | apply Env.alloc | apply Env.setop | apply Env.setcaps | apply Env.bumpE | apply Env.setbox hrn | (simp only [RX.St.bump]; omega) | omega)))); (focus (repeat (first | exact HO.out | apply Only.set | apply Only.drewN | apply Only.alloc | apply Only.setNew hnw))); (first | omega | (simp only [RX.St.bump] at *; omega)))
    all_goals (clear HE HO; (first | (simp_all [RX.ranged]; done) | (simp_all [RX.ranged, RX.St.bump]; done) | (simp_all [RX.ranged, RX.St.bump]; omega) | (simp only [RX.ranged, RX.St.bump] at *; omega) | skip))
end
end Go.Proofs.Ytfblkahjefdmaaa
