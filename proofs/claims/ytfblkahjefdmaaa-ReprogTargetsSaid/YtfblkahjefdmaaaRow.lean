/- Walks: row, alternatives of package resyn. -/
import Derived.Test.YtfblkahjefdmaaaAtm
namespace Go.Proofs.Ytfblkahjefdmaaa
open Go.RowKit

theorem OwnB.keepB2 {α : Type} {t sz B b : Nat} {C : World → List Value → α → Prop} {w w' : World} {v : Value} {xs : List α} (h : OwnB t sz C B w v xs) (hC : KeepsB b C) (hb : b ≤ B) (hk : KeepB b w w') : OwnB t sz C B w' v xs := by
  obtain ⟨flat, ⟨hl, hown⟩, h2⟩ := h
  refine ⟨flat, ⟨hl, ?_⟩, fun k x hx => ?_⟩
  · rcases hown with hn | ⟨g, cap, cur, hv, hb', hg, rest⟩
    · exact .inl hn
    · exact .inr ⟨g, cap, cur, hv, hb', hk g _ (Nat.le_trans hb hb') hg, rest⟩
  · obtain ⟨cs, h6, h7⟩ := h2 k x hx
    exact ⟨cs, hC _ _ _ _ hk h6, h7⟩
section
variable {w0 : World} {rb : Nat} {sv : Value} {s : List Int}
/-- Inside of row, alternatives: the reader; the rows so far. -/
structure Rws (w0 : World) (rb : Nat) (sv : Value) (s : List Int) (w : World) (st : RX.St) (v : Value) (rows : List (List RX.ReN)) (wr : World) : Prop where
  env : Env w0 rb sv s wr st
  only : Only w wr rb
  own : OwnB 33 1 (CL (rb + 1)) w.heap.size wr v rows
  le : rb + 1 ≤ w.heap.size
variable {w wr w' : World} {st st' : RX.St} {v v' : Value} {rows rows' : List (List RX.ReN)}
theorem Rws.step (h : Rws w0 rb sv s w st v rows wr) (he : Env w0 rb sv s w' st') (ho : Only wr w' rb) : Rws w0 rb sv s w st' v rows w' :=
  ⟨he, h.only.trans ho, h.own.keepB2 (keepsB_l _) h.le (KeepB.only ho), h.le⟩
theorem Rws.drewN {n : Nat} (h : Rws w0 rb sv s w st v rows wr) : Rws w0 rb sv s w st v rows (wr.drewN n) := h.step (h.env.drewN n) ((Only.refl _ _).drewN n)
theorem Rws.bump (h : Rws w0 rb sv s w st v rows wr) : Rws w0 rb sv s w (st.bump 1) v rows (wr.setCell ⟨rb, 1, none⟩ (.int .i64 ((st.at_ : Int) + 1))) := h.step h.env.bump1 ((Only.refl _ _).set _)
theorem Rws.alloc {o : Obj} (h : Rws w0 rb sv s w st v rows wr) : Rws w0 rb sv s w st v rows (wr.alloc o) := h.step (h.env.alloc o) ((Only.refl _ _).alloc o)
theorem Rws.call (h : Rws w0 rb sv s w st v rows wr) (hr : RS rb sv w' st') (ho : Only wr w' rb) : Rws w0 rb sv s w st' v rows w' := h.step (h.env.step ho hr) ho
theorem Rws.ext (h : Rws w0 rb sv s w st v rows wr) (hx : Ext wr w') : Rws w0 rb sv s w st v rows w' := h.step (h.env.ext hx) (Only.of_ext hx rb)
theorem Rws.rbl (h : Rws w0 rb sv s w st v rows wr) : rb < wr.heap.size := heap_lt h.env.rs
theorem Rws.start (he : Env w0 rb sv s w st) : Rws w0 rb sv s w st (.slice none 0 0) [] w := ⟨he, Only.refl w rb, OwnB.nil_, he.rbl⟩
/-- Behind an append. -/
theorem Rws.app (h : Rws w0 rb sv s w st v rows wr) (h1 : OwnB 33 1 (CL (rb + 1)) w.heap.size w' v' rows') (h2 : wr.grownBy w' v.ownBlock) : Rws w0 rb sv s w st v' rows' w' :=
  ⟨Env.own (nb := rb + 1) h.env h2 (fun k hk => Nat.le_trans h.le (h.own.lt k hk).1) (by omega), Only.own (nb := w.heap.size) h.only h2 (fun k hk => (h.own.lt k hk).1) (Nat.le_refl _), h1, h.le⟩

theorem rowEnds_cases {x : Int} (h : RX.rowEnds x = true) : x = -1 ∨ (x ≠ -1 ∧ x = 124) ∨ (x ≠ -1 ∧ x ≠ 124 ∧ x = 41) := by
  unfold RX.rowEnds at h; simp at h; omega
theorem rowEnds_not {x : Int} (h : RX.rowEnds x = false) : x ≠ -1 ∧ x ≠ 124 ∧ x ≠ 41 := by
  unfold RX.rowEnds at h; simp at h; omega
namespace RX
variable {alt : St → List ReN × St}
theorem rowLoop_bad {k : Nat} {st : St} {items : List (List ReN)} (h : st.ok = false) : rowLoop s alt k st items = ([], st) := by
  cases k with
  | zero => rfl
  | succ k => unfold rowLoop; rw [h]; rfl
theorem rowLoop_end {k : Nat} {st : St} {items : List (List ReN)} (h : st.ok = true) (he : rowEnds (nxt s st 0) = true) : rowLoop s alt (k + 1) st items = (under (node 0 0 0 false false []) items, st) := by
  unfold rowLoop; rw [h, he]; rfl
theorem rowLoop_on {k : Nat} {st : St} {items : List (List ReN)} (h : st.ok = true) (he : rowEnds (nxt s st 0) = false) : rowLoop s alt (k + 1) st items = rowLoop s alt k (itemP s alt st).2 (items ++ [(itemP s alt st).1]) := by
  rw [rowLoop, h, he]; rfl
end RX

set_option maxRecDepth 100000 in
set_option maxHeartbeats 4000000 in
theorem row_any (w : World) (st : RX.St) (alt : RX.St → List RX.ReN × RX.St) (he : Env w0 rb sv s w st) (ha : st.at_ ≤ s.length) (h9 : st.caps ≤ 9) {c : Nat} {d : Int} (hk : RX.AltOk s c d alt) (hc : c ≤ 20) (hd : d ≤ 100) (hd0 : 0 ≤ d) (HA : st.op < 12 → AltC w0 rb sv s alt (st.op + 1)) :
    Calls Try.prog 92 #[.pointer (some ⟨rb, 0, none⟩)] w (PostR (fun w' v => SlRe (rb + 1) (rb + 1) w' v (RX.rowP s alt st).1) rb sv w (RX.rowP s alt st).2 (s.length + 30)) := by
  have HC := Lib.hid (Rws.start he)
  have hl60 := he.len
  have H9 := Lib.hid (And.intro hk (And.intro hc (And.intro hd (And.intro hd0 HA))))
  have HB := Lib.hid (RX.rowP_fwd hk hd0 ha h9).1
  have HF := Lib.hid (RX.Fwd.refl (s := s) (c + 1) ha h9)
  obtain ⟨R, hR⟩ : ∃ R, RX.rowP s alt st = R := ⟨_, rfl⟩
  rw [hR] at HB
  have HR := Lib.hid hR
  clear he hk hd hd0 HA hR
  rw [HR.out]
  go_enter Try.func92, Try.ntmps92
  go_wp2_with fail
  go_loopg [3] (s.length + 2 - st.at_) (fun k v wr => ∃ (st' : RX.St) (items : List (List RX.ReN)), Rws w0 rb sv s w st' v items wr ∧ RX.rowLoop s alt k st' items = R ∧ RX.Fwd s (c + 1) st st' ∧ (st'.ok = true → s.length + 1 ≤ k + st'.at_ ∧ items.length ≤ st'.at_ - st.at_) ∧ items.length ≤ 200 ∧
    (∀ l ∈ items, ∀ x ∈ l, 0 ≤ x.deep ∧ x.deep ≤ d + 2) ∧ items.flatten.length ≤ 2 * (st'.at_ - st.at_))
  case atStart => exact ⟨st, [], HC.out, HR.out, HF.out, fun _ => ⟨by omega, by simp⟩, by simp, by simp, by simp⟩
  case round =>
    obtain ⟨st', items, hcs, hlo, hfw, hrd, hil, hdp, hfl⟩ := hrel
    have HC := Lib.hid hcs
    have HL := Lib.hid hlo
    have HF := Lib.hid hfw
    have HD := Lib.hid hrd
    have HP := Lib.hid hdp
    have hat : st'.at_ ≤ s.length + (c + 1) := hfw.hi
    obtain ⟨Ai, ci, rfl, hci, hcm⟩ := hcs.own.form
    clear hcs hlo hrd hdp hfw
    have hr1 := HC.out.env.rs; have c1 := hr1.c1; have f1 := hr1.fr 1; have hrl := HC.out.rbl; clear hr1
    rcases hok : st'.ok with _ | _
    · go_wp2_with (first | (go_at_call 63; apply Calls.mono; apply ok_any (w0 := w0) (rb := rb) (sv := sv) (s := s); (apply Rws.env; (focus (repeat (first | exact HC.out | apply Rws.drewN | apply Rws.bump | apply Rws.alloc)))); rintro e w' ⟨rfl, n, rfl⟩))
      go_ret
      have hz := HL.out
      rw [RX.rowLoop_bad hok] at hz
      rw [← hz]
      have HX := HC.out.drewN (n := n)
      exact PostR.of HX.env.rs HX.only (by omega) SlB.nil_ rfl
    · obtain ⟨hrd, hil2⟩ := HD.out hok
      have hatl := HF.out.okl hok
      obtain ⟨k, rfl⟩ : ∃ k, gk = k + 1 := ⟨gk - 1, by omega⟩
      rcases hre : RX.rowEnds (RX.nxt s st' 0) with _ | _
      · have hne := rowEnds_not hre
        have hlt := RX.nxt_in (k := 0) hne.1
        obtain ⟨hk, hc2, hd, hd0, hHA⟩ := H9.out
        have hop : st'.op = st.op := HF.out.op
        have hif := RX.itemP_fwd hk hd0 hok hlt HF.out.caps9
        have HGi := Lib.hid (fun w he => item_any (w0 := w0) (rb := rb) (sv := sv) (s := s) w st' alt he hok hlt HF.out.caps9 hk hc hd hd0 (hop ▸ hHA))
        have HI := Lib.hid hif
        have HZ := Lib.hid (show RX.rowLoop s alt k (RX.itemP s alt st').2 (items ++ [(RX.itemP s alt st').1]) = R by rw [← HL.out, RX.rowLoop_on hok hre])
        generalize RX.itemP s alt st' = it at HGi HI HZ
        have b1 : (RX.nxt s st' 0 == -1) = false := by simpa using hne.1
        have b2 : (RX.nxt s st' 0 == 124) = false := by simpa using hne.2.1
        have b3 : (RX.nxt s st' 0 == 41) = false := by simpa using hne.2.2
        clear hk hd hd0 hHA hop hif hne hre
        go_wp2_with (first | (go_at_call 63; apply Calls.mono; apply ok_any (w0 := w0) (rb := rb) (sv := sv) (s := s); (apply Rws.env; (focus (repeat (first | exact HC.out | apply Rws.drewN | apply Rws.bump | apply Rws.alloc)))); rintro e w' ⟨rfl, n, rfl⟩) | (go_at_call 93; apply Calls.mono; apply peek_any (w0 := w0) (rb := rb) (sv := sv) (s := s); (apply Rws.env; (focus (repeat (first | exact HC.out | apply Rws.drewN | apply Rws.bump | apply Rws.alloc)))); (first | omega | (simp only [RX.St.bump] at *; omega)); rintro e w' ⟨rfl, n, rfl⟩) | (go_at_call 118; refine (HGi.out _ ?hen).mono ?_; (case hen => (apply Rws.env; (focus (repeat (first | exact HC.out | apply Rws.drewN | apply Rws.bump | apply Rws.alloc))))); rintro e w' ⟨v, rfl, hv, hr, ho, hb⟩; have HC := Lib.hid (Rws.call (by (focus (repeat (first | exact HC.out | apply Rws.drewN | apply Rws.bump | apply Rws.alloc)))) hr ho); have hr1 := HC.out.env.rs; have c1 := hr1.c1; have f1 := hr1.fr 1; have hrl := HC.out.rbl; clear hr1; clear hr ho hb; obtain ⟨Aa, ca, rfl, _⟩ := hv.form; have HV := Lib.hid hv; clear hv) | (at_builtin; go_loud (refine app_one Try.underlying132 info_rows rfl Nat.one_pos ?hby (keeps_l (rb + 1)) ?hT rfl _ _ rfl w.heap.size _ items it.1 [.slice Aa it.1.length ca] 33 ?hown ?hy rfl ?h1 rfl _ rfl ?hnb ?hn ?hB ?_; (case hby => decide); (case hT => decide); (case hown => (apply Rws.own; (focus (repeat (first | exact HC.out | apply Rws.drewN | apply Rws.bump | apply Rws.alloc))))); (case hy => exact ⟨_, rfl, HV.out⟩); (case h1 => (intro u hu; simp at hu; subst hu; rfl)); (case hnb => (first | rfl | simp)); (case hn => omega); (case hB => exact HC.out.only.size); intro v' w' h1 h2; have hz := Rws.app (Rws.alloc HC.out) h1 h2; obtain ⟨Ax, cx, rfl, hcx, hcy⟩ := h1.form; have HX := Lib.hid hz; clear h1 h2 hz)))
        go_roundg k
        case measure => omega
        case rel =>
          have hif := HI.out
          have hz := HX.out
          rw [List.length_append] at hz
          refine ⟨it.2, items ++ [it.1], hz, HZ.out, HF.out.trans hif.1, fun ho => ?_, ?_, ?_, ?_⟩
          · have := hif.2.2 ho
            have := HF.out.mono
            rw [List.length_append]; simp only [List.length_cons, List.length_nil]
            omega
          · rw [List.length_append]; simp only [List.length_cons, List.length_nil]; omega
          · intro l hl x hx
            rcases List.mem_append.1 hl with hl | hl
            · exact HP.out l hl x hx
            · simp at hl; subst hl; exact hif.2.1.2 x hx
          · rw [List.flatten_append, List.length_append, List.flatten_singleton]
            have := hif.2.1.1
            have := hif.1.mono
            have := HF.out.mono
            omega
      · have HZ := Lib.hid (show (RX.under (RX.node 0 0 0 false false []) items, st') = R by rw [← HL.out, RX.rowLoop_end hok hre])
        have HS := Lib.hid (show Small (RX.node 0 0 0 false false []) items from ⟨by rw [RX.under_len]; omega, fun l hl x hx => by have := HP.out l hl x hx; have := H9.out.2.2.1; omega⟩)
        rcases rowEnds_cases hre with h | ⟨h1, h⟩ | ⟨h1, h2, h⟩
        · have b1 : (RX.nxt s st' 0 == -1) = true := by simpa using h
          clear h hre
          go_wp2_with (first | (go_at_call 63; apply Calls.mono; apply ok_any (w0 := w0) (rb := rb) (sv := sv) (s := s); (apply Rws.env; (focus (repeat (first | exact HC.out | apply Rws.drewN | apply Rws.bump | apply Rws.alloc)))); rintro e w' ⟨rfl, n, rfl⟩) | (go_at_call 93; apply Calls.mono; apply peek_any (w0 := w0) (rb := rb) (sv := sv) (s := s); (apply Rws.env; (focus (repeat (first | exact HC.out | apply Rws.drewN | apply Rws.bump | apply Rws.alloc)))); (first | omega | (simp only [RX.St.bump] at *; omega)); rintro e w' ⟨rfl, n, rfl⟩) | (go_at_call 94; apply Calls.mono; apply under_any (B := rb + 1); apply CR.mk0; (exact SlB.weaken (OwnB.sl (Rws.own (by (focus (repeat (first | exact HC.out | apply Rws.drewN | apply Rws.bump | apply Rws.alloc)))))) HC.out.le); exact HS.out; rintro e w' ⟨vr, rfl, hown, hx⟩; have HV := Lib.hid (SlB.weaken (base' := rb + 1) hown.sl (by (focus (first | omega | (simp; omega))))); have HC := Lib.hid (Rws.ext (by (focus (repeat (first | exact HC.out | apply Rws.drewN | apply Rws.bump | apply Rws.alloc)))) hx); have hr1 := HC.out.env.rs; have c1 := hr1.c1; have f1 := hr1.fr 1; have hrl := HC.out.rbl; clear hr1; clear hx hown))
          go_ret
          rw [← HZ.out]
          exact PostR.of HC.out.env.rs HC.out.only (by omega) HV.out rfl
        · have b1 : (RX.nxt s st' 0 == -1) = false := by simpa using h1
          have b2 : (RX.nxt s st' 0 == 124) = true := by simpa using h
          clear h h1 hre
          go_wp2_with (first | (go_at_call 63; apply Calls.mono; apply ok_any (w0 := w0) (rb := rb) (sv := sv) (s := s); (apply Rws.env; (focus (repeat (first | exact HC.out | apply Rws.drewN | apply Rws.bump | apply Rws.alloc)))); rintro e w' ⟨rfl, n, rfl⟩) | (go_at_call 93; apply Calls.mono; apply peek_any (w0 := w0) (rb := rb) (sv := sv) (s := s); (apply Rws.env; (focus (repeat (first | exact HC.out | apply Rws.drewN | apply Rws.bump | apply Rws.alloc)))); (first | omega | (simp only [RX.St.bump] at *; omega)); rintro e w' ⟨rfl, n, rfl⟩) | (go_at_call 94; apply Calls.mono; apply under_any (B := rb + 1); apply CR.mk0; (exact SlB.weaken (OwnB.sl (Rws.own (by (focus (repeat (first | exact HC.out | apply Rws.drewN | apply Rws.bump | apply Rws.alloc)))))) HC.out.le); exact HS.out; rintro e w' ⟨vr, rfl, hown, hx⟩; have HV := Lib.hid (SlB.weaken (base' := rb + 1) hown.sl (by (focus (first | omega | (simp; omega))))); have HC := Lib.hid (Rws.ext (by (focus (repeat (first | exact HC.out | apply Rws.drewN | apply Rws.bump | apply Rws.alloc)))) hx); have hr1 := HC.out.env.rs; have c1 := hr1.c1; have f1 := hr1.fr 1; have hrl := HC.out.rbl; clear hr1; clear hx hown))
          go_ret
          rw [← HZ.out]
          exact PostR.of HC.out.env.rs HC.out.only (by omega) HV.out rfl
        · have b1 : (RX.nxt s st' 0 == -1) = false := by simpa using h1
          have b2 : (RX.nxt s st' 0 == 124) = false := by simpa using h2
          have b3 : (RX.nxt s st' 0 == 41) = true := by simpa using h
          clear h h1 h2 hre
          go_wp2_with (first | (go_at_call 63; apply Calls.mono; apply ok_any (w0 := w0) (rb := rb) (sv := sv) (s := s); (apply Rws.env; (focus (repeat (first | exact HC.out | apply Rws.drewN | apply Rws.bump | apply Rws.alloc)))); rintro e w' ⟨rfl, n, rfl⟩) | (go_at_call 93; apply Calls.mono; apply peek_any (w0 := w0) (rb := rb) (sv := sv) (s := s); (apply Rws.env; (focus (repeat (first | exact HC.out | apply Rws.drewN | apply Rws.bump | apply Rws.alloc)))); (first | omega | (simp only [RX.St.bump] at *; omega)); rintro e w' ⟨rfl, n, rfl⟩) | (go_at_call 94; apply Calls.mono; apply under_any (B := rb + 1); apply CR.mk0; (exact SlB.weaken (OwnB.sl (Rws.own (by (focus (repeat (first | exact HC.out | apply Rws.drewN | apply Rws.bump | apply Rws.alloc)))))) HC.out.le); exact HS.out; rintro e w' ⟨vr, rfl, hown, hx⟩; have HV := Lib.hid (SlB.weaken (base' := rb + 1) hown.sl (by (focus (first | omega | (simp; omega))))); have HC := Lib.hid (Rws.ext (by (focus (repeat (first | exact HC.out | apply Rws.drewN | apply Rws.bump | apply Rws.alloc)))) hx); have hr1 := HC.out.env.rs; have c1 := hr1.c1; have f1 := hr1.fr 1; have hrl := HC.out.rbl; clear hr1; clear hx hown))
          go_ret
          rw [← HZ.out]
          exact PostR.of HC.out.env.rs HC.out.only (by omega) HV.out rfl
end
end Go.Proofs.Ytfblkahjefdmaaa
