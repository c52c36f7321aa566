/- Walks: alternatives of package resyn, on every level. -/
import Derived.Test.YtfblkahjefdmaaaRow
namespace Go.Proofs.Ytfblkahjefdmaaa
open Go.RowKit
namespace RX
variable {s : List Int} {alt : St → List ReN × St}
theorem altLoop_off {k : Nat} {st : St} {rows : List (List ReN)} (h : (st.ok && decide (nxt s st 0 = 124)) = false) : altLoop s alt k st rows = (rows, st) := by
  cases k with
  | zero => rfl
  | succ k => unfold altLoop; rw [h]; rfl
theorem altLoop_on {k : Nat} {st : St} {rows : List (List ReN)} (h : (st.ok && decide (nxt s st 0 = 124)) = true) : altLoop s alt (k + 1) st rows = altLoop s alt k (rowP s alt (st.bump 1)).2 (rows ++ [(rowP s alt (st.bump 1)).1]) := by
  rw [altLoop, if_pos h]
/-- What is made of the rows. -/
def joined (rows : List (List ReN)) : List ReN := if rows.length = 1 then rows.headD [] else under (node 1 0 0 false false []) rows
theorem altP_eq (st : St) : altP s alt st = (joined (altLoop s alt (s.length + 2 - (rowP s alt st).2.at_) (rowP s alt st).2 [(rowP s alt st).1]).1, (altLoop s alt (s.length + 2 - (rowP s alt st).2.at_) (rowP s alt st).2 [(rowP s alt st).1]).2) := rfl
end RX
theorem eq_dec (x : Int) : (x == 124) = (true && decide (x = 124)) := by simp; rfl
section
variable {w0 : World} {rb : Nat} {sv : Value} {s : List Int}
set_option maxRecDepth 100000 in
set_option maxHeartbeats 4000000 in
theorem alt_any (w : World) (st : RX.St) (alt : RX.St → List RX.ReN × RX.St) (he : Env w0 rb sv s w st) (hok : st.ok = true) (ha : st.at_ ≤ s.length) (h9 : st.caps ≤ 9) {c : Nat} {d : Int} (hk : RX.AltOk s c d alt) (hc : c ≤ 20) (hd : d ≤ 100) (hd0 : 0 ≤ d) (HA : st.op < 12 → AltC w0 rb sv s alt (st.op + 1)) :
    Calls Try.prog 62 #[.pointer (some ⟨rb, 0, none⟩)] w (PostR (fun w' v => SlRe (rb + 1) (rb + 1) w' v (RX.altP s alt st).1) rb sv w (RX.altP s alt st).2 (s.length + 30)) := by
  have HC := Lib.hid (Rws.start he)
  have hl60 := he.len
  have hrl := he.rbl
  have H9 := Lib.hid (And.intro hk (And.intro hc (And.intro hd (And.intro hd0 HA))))
  have HB := Lib.hid (RX.altP_ok hk hd0 st hok ha h9).1
  have HRw := Lib.hid (RX.rowP_fwd hk hd0 ha h9)
  have HGr := Lib.hid (fun w he => row_any (w0 := w0) (rb := rb) (sv := sv) (s := s) w st alt he ha h9 hk hc hd hd0 HA)
  rw [RX.altP_eq] at HB
  rw [RX.altP_eq]
  generalize RX.rowP s alt st = it at HGr HB HRw ⊢
  obtain ⟨R, hR⟩ : ∃ R, RX.altLoop s alt (s.length + 2 - it.2.at_) it.2 [it.1] = R := ⟨_, rfl⟩
  rw [hR] at HB
  have HR := Lib.hid hR
  have hat0 : it.2.at_ ≤ s.length + (c + 1) := HRw.out.1.hi
  clear he hk hd hd0 HA hR
  rw [HR.out]
  go_enter Try.func62, Try.ntmps62
  go_wp2_with (first | (go_at_call 92; refine (HGr.out _ ?hen).mono ?_; (case hen => (apply Rws.env; (focus (repeat (first | exact HC.out | apply Rws.drewN | apply Rws.bump | apply Rws.alloc))))); rintro e w' ⟨v, rfl, hv, hr, ho, hb⟩; have HC := Lib.hid (Rws.call (by (focus (repeat (first | exact HC.out | apply Rws.drewN | apply Rws.bump | apply Rws.alloc)))) hr ho); have hr1 := HC.out.env.rs; have c1 := hr1.c1; have f1 := hr1.fr 1; have hrl := HC.out.rbl; clear hr1; clear hr ho hb; obtain ⟨Aa, ca, rfl, _⟩ := hv.form; have HV := Lib.hid hv; clear hv))
  have HX := Lib.hid (show Rws w0 rb sv s w it.2 (.slice (some ⟨w'.heap.size, 0, none⟩) 1 1) [it.1] (w'.alloc (.cells #[.slice Aa it.1.length ca] 33)) from
    ⟨HC.out.env.alloc _, HC.out.only.alloc _, OwnB.lit (sz := 1) (w := w') _ [it.1] _ _ rfl rfl HC.out.only.size (by simp) (by simp) (by
      intro k y hy
      match k, hy with
      | 0, hy =>
        simp at hy; subst hy
        exact ⟨[.slice Aa it.1.length ca], ⟨_, rfl, SlB.keepB HV.out (keepsB_re _) (KeepB.only ((Only.refl w' rb).alloc _))⟩, rfl, fun i u hu => by simpa using hu⟩), HC.out.le⟩)
  have HC := HX
  clear c1 f1
  go_loopg [3] (s.length + 2 - it.2.at_) (fun k v wr => ∃ (st' : RX.St) (items : List (List RX.ReN)), Rws w0 rb sv s w st' v items wr ∧ RX.altLoop s alt k st' items = R ∧ RX.Fwd s (c + 1) st st' ∧ (st'.ok = true → s.length + 1 ≤ k + st'.at_) ∧ items.length ≤ 1 + st'.at_ ∧ 1 ≤ items.length ∧
    (∀ l ∈ items, ∀ x ∈ l, 0 ≤ x.deep ∧ x.deep ≤ d + 3) ∧ items.flatten.length ≤ 2 * (st'.at_ - st.at_) + 1)
  case atStart =>
    refine ⟨it.2, [it.1], HC.out, HR.out, HRw.out.1, fun ho => ?_, by simp, by simp, ?_, ?_⟩
    · have := HRw.out.1.okl ho; omega
    · intro l hl x hx; simp at hl; subst hl; exact HRw.out.2.2 x hx
    · simpa using HRw.out.2.1
  case round =>
    obtain ⟨st', items, hcs, hlo, hfw, hrd, hil, hil1, hdp, hfl⟩ := hrel
    have HC := Lib.hid hcs
    have HL := Lib.hid hlo
    have HF := Lib.hid hfw
    have HD := Lib.hid hrd
    have HP := Lib.hid hdp
    have hat : st'.at_ ≤ s.length + (c + 1) := hfw.hi
    obtain ⟨Ai, ci, rfl, hci, hcm⟩ := hcs.own.form
    clear hcs hlo hrd hdp hfw
    have hr1 := HC.out.env.rs; have c1 := hr1.c1; have f1 := hr1.fr 1; have hrl := HC.out.rbl; clear hr1
    go_upto_region 2 with fail
    go_cut [13] (fun s13 wx => ∃ b, s13 = .bool b ∧ b = (st'.ok && decide (RX.nxt s st' 0 = 124)) ∧ Rws w0 rb sv s w st' (.slice Ai items.length ci) items wx)
    case first =>
      rcases hok2 : st'.ok with _ | _
      · go_wp2_with (first | (go_at_call 63; apply Calls.mono; apply ok_any (w0 := w0) (rb := rb) (sv := sv) (s := s); (apply Rws.env; (focus (repeat (first | exact HC.out | apply Rws.drewN | apply Rws.bump | apply Rws.alloc)))); rintro e w' ⟨rfl, n, rfl⟩))
        go_meet
        exact ⟨_, rfl, by rw [hok2]; rfl, by (focus (repeat (first | exact HC.out | apply Rws.drewN | apply Rws.bump | apply Rws.alloc)))⟩
      · go_wp2_with (first | (go_at_call 63; apply Calls.mono; apply ok_any (w0 := w0) (rb := rb) (sv := sv) (s := s); (apply Rws.env; (focus (repeat (first | exact HC.out | apply Rws.drewN | apply Rws.bump | apply Rws.alloc)))); rintro e w' ⟨rfl, n, rfl⟩) | (go_at_call 93; apply Calls.mono; apply peek_any (w0 := w0) (rb := rb) (sv := sv) (s := s); (apply Rws.env; (focus (repeat (first | exact HC.out | apply Rws.drewN | apply Rws.bump | apply Rws.alloc)))); (first | omega | (simp only [RX.St.bump] at *; omega)); rintro e w' ⟨rfl, n, rfl⟩))
        go_meet
        exact ⟨_, rfl, by rw [hok2]; exact eq_dec _, by (focus (repeat (first | exact HC.out | apply Rws.drewN | apply Rws.bump | apply Rws.alloc)))⟩
    case rest =>
      obtain ⟨b, rfl, hb, hcc⟩ := hcut
      have HC := Lib.hid hcc
      have HB2 := Lib.hid hb
      clear hcc hb
      have hr1 := HC.out.env.rs; have c1 := hr1.c1; have f1 := hr1.fr 1; have hrl := HC.out.rbl; clear hr1
      rcases b with _ | _
      · have hz := HL.out
        rw [RX.altLoop_off HB2.out.symm] at hz
        have HZ := Lib.hid hz
        clear hz
        by_cases h1 : items.length = 1
        · have hb1 : ((items.length : Int) == 1) = true := by simp [h1]
          obtain ⟨l1, hl1⟩ : ∃ l, items = [l] := by
            match items, h1 with
            | [l], _ => exact ⟨l, rfl⟩
          have hJ : RX.joined items = l1 := by rw [hl1]; rfl
          have hat2 := HC.out.own.sl.at_ (k := 0) (by omega)
          obtain ⟨g, o, cs, rfl, hcl, hce⟩ := hat2
          obtain ⟨va, rfl, hva⟩ := hcl
          have c0 := hce 0 va rfl
          rw [Nat.zero_mul, Nat.add_zero] at c0
          have hx0 : items[0] = l1 := by simp [hl1]
          rw [hx0] at hva
          have HV := Lib.hid hva
          obtain ⟨Aa, ca, rfl, _⟩ := hva.form
          have HJ := Lib.hid (And.intro hJ h1)
          have hb2 : 0 < items.length := by omega
          clear hva hce hJ hx0 hl1 h1
          go_wp2_with fail
          go_ret
          rw [← HZ.out, HJ.out.1]
          exact PostR.of HC.out.env.rs HC.out.only (by omega) HV.out rfl
        · have hb1 : ((items.length : Int) == 1) = false := by simpa using (by omega : ¬ (items.length : Int) = 1)
          have hJ : RX.joined items = RX.under (RX.node 1 0 0 false false []) items := by unfold RX.joined; rw [if_neg h1]
          have HJ := Lib.hid hJ
          have HS := Lib.hid (show Small (RX.node 1 0 0 false false []) items from ⟨by rw [RX.under_len]; omega, fun l hl x hx => by have := HP.out l hl x hx; have := H9.out.2.2.1; omega⟩)
          clear hJ h1
          go_wp2_with (first | (go_at_call 94; apply Calls.mono; apply under_any (B := rb + 1); apply CR.mk0; (exact SlB.weaken (OwnB.sl (Rws.own (by (focus (repeat (first | exact HC.out | apply Rws.drewN | apply Rws.bump | apply Rws.alloc)))))) HC.out.le); exact HS.out; rintro e w' ⟨vr, rfl, hown, hx⟩; have HV := Lib.hid (SlB.weaken (base' := rb + 1) hown.sl (by (focus (first | omega | (simp; omega))))); have HC := Lib.hid (Rws.ext (by (focus (repeat (first | exact HC.out | apply Rws.drewN | apply Rws.bump | apply Rws.alloc)))) hx); have hr1 := HC.out.env.rs; have c1 := hr1.c1; have f1 := hr1.fr 1; have hrl := HC.out.rbl; clear hr1; clear hx hown))
          go_ret
          rw [← HZ.out, HJ.out]
          exact PostR.of HC.out.env.rs HC.out.only (by omega) HV.out rfl
      · have h0 := HB2.out.symm
        simp only [Bool.and_eq_true, decide_eq_true_eq] at h0
        have hrd := HD.out h0.1
        have hatl := HF.out.okl h0.1
        obtain ⟨k, rfl⟩ : ∃ k, gk = k + 1 := ⟨gk - 1, by omega⟩
        have hlt := RX.nxt_in (s := s) (k := 0) (st := st') (by omega)
        have HF2 := Lib.hid (HF.out.bump 1 hlt)
        obtain ⟨hk, hc2, hd, hd0, hHA⟩ := H9.out
        have hop : st'.op = st.op := HF.out.op
        have hrw := RX.rowP_fwd hk hd0 (st := st'.bump 1) hlt HF.out.caps9
        have HGr := Lib.hid (fun w he => row_any (w0 := w0) (rb := rb) (sv := sv) (s := s) w (st'.bump 1) alt he hlt HF.out.caps9 hk hc hd hd0 (show st'.op < 12 → AltC w0 rb sv s alt (st'.op + 1) from hop ▸ hHA))
        have HI := Lib.hid hrw
        have HZ := Lib.hid (show RX.altLoop s alt k (RX.rowP s alt (st'.bump 1)).2 (items ++ [(RX.rowP s alt (st'.bump 1)).1]) = R by rw [← HL.out, RX.altLoop_on HB2.out.symm])
        clear HRw hat0
        generalize RX.rowP s alt (st'.bump 1) = it at HGr HI HZ
        have hm : st'.at_ + 1 ≤ it.2.at_ := HI.out.1.mono
        clear hk hd hd0 hHA hop hrw h0
        go_wp2_with (first | (go_at_call 92; refine (HGr.out _ ?hen).mono ?_; (case hen => (apply Rws.env; (focus (repeat (first | exact HC.out | apply Rws.drewN | apply Rws.bump | apply Rws.alloc))))); rintro e w' ⟨v, rfl, hv, hr, ho, hb⟩; have HC := Lib.hid (Rws.call (by (focus (repeat (first | exact HC.out | apply Rws.drewN | apply Rws.bump | apply Rws.alloc)))) hr ho); have hr1 := HC.out.env.rs; have c1 := hr1.c1; have f1 := hr1.fr 1; have hrl := HC.out.rbl; clear hr1; clear hr ho hb; obtain ⟨Aa, ca, rfl, _⟩ := hv.form; have HV := Lib.hid hv; clear hv) | (at_builtin; go_loud (refine app_one Try.underlying132 info_rows rfl Nat.one_pos ?hby (keeps_l (rb + 1)) ?hT rfl _ _ rfl w.heap.size _ items it.1 [.slice Aa it.1.length ca] 33 ?hown ?hy rfl ?h1 rfl _ rfl ?hnb ?hn ?hB ?_; (case hby => decide); (case hT => decide); (case hown => (apply Rws.own; (focus (repeat (first | exact HC.out | apply Rws.drewN | apply Rws.bump | apply Rws.alloc))))); (case hy => exact ⟨_, rfl, HV.out⟩); (case h1 => (intro u hu; simp at hu; subst hu; rfl)); (case hnb => (first | rfl | simp)); (case hn => omega); (case hB => exact HC.out.only.size); intro v' w' h1 h2; have hz := Rws.app (Rws.alloc HC.out) h1 h2; obtain ⟨Ax, cx, rfl, hcx, hcy⟩ := h1.form; have HX := Lib.hid hz; clear h1 h2 hz)))
        go_roundg k
        case measure => omega
        case rel =>
          have hif := HI.out
          have hz := HX.out
          rw [List.length_append] at hz
          refine ⟨it.2, items ++ [it.1], hz, HZ.out, HF2.out.trans hif.1, fun ho => ?_, ?_, ?_, ?_, ?_⟩
          · omega
          · rw [List.length_append]; simp only [List.length_cons, List.length_nil]; omega
          · rw [List.length_append]; simp only [List.length_cons, List.length_nil]; omega
          · intro l hl x hx
            rcases List.mem_append.1 hl with hl | hl
            · exact HP.out l hl x hx
            · simp at hl; subst hl; exact hif.2.2 x hx
          · rw [List.flatten_append, List.length_append, List.flatten_singleton]
            have h5 := hif.2.1
            have h6 : (st'.bump 1).at_ = st'.at_ + 1 := rfl
            have := HF.out.mono
            omega

theorem altN_c (s : List Int) : ∀ (n op : Nat), op + n = 12 → AltC w0 rb sv s (RX.altN s n) op
  | 0, op, h => fun w st he hok ha h9 hop =>
    alt_any w st _ he hok ha h9 (c := 1) (d := 0) RX.AltOk.stub (by omega) (by omega) (by omega) (fun h1 => by omega)
  | n + 1, op, h => fun w st he hok ha h9 hop =>
    alt_any w st _ he hok ha h9 (RX.altN_ok s n) (by omega) (by omega) (by omega) (fun _ => altN_c s n (st.op + 1) (by omega))
end
end Go.Proofs.Ytfblkahjefdmaaa
