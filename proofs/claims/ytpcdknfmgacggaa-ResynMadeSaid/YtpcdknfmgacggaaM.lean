/- For ResynMadeS: what the texts XPar XKn8 XTap XRfA XRfB XRfC XSmR XSpA of wip/tpl say. -/
import Derived.Test.YtpcdknfmgacggaaL
import Derived.RegionTactic
set_option maxRecDepth 100000
set_option maxHeartbeats 4000000
namespace Go.Proofs.Ytpcdknfmgacggaa
open Go.RowKit
theorem none_any (c : Int) (w : World) : Calls Try.prog 21 #[.int .i32 c] w (RetD (.bool (RX.classOf c == 0)) w) := by
  go_enter Try.func21, Try.ntmps21
  go_wp2_with fail
  refine (class_any _ _).mono ?_
  rintro e w' ⟨rfl, n, rfl⟩
  go_wp2_with fail
  go_ret
  exact ⟨rfl, _, rfl⟩
/-- The first place of a sign that is none; -1: there is no such place. -/
def firstNo (s : List Int) : Int := match s.findIdx? (fun c => RX.classOf c == 0) with | some i => i | none => -1
theorem firstNo_none {s : List Int} (h : ∀ x ∈ s, (RX.classOf x == 0) = false) : firstNo s = -1 := by
  unfold firstNo
  rw [List.findIdx?_eq_none_iff.2 (by intro x hx; simpa using h x hx)]
theorem firstNo_at {s : List Int} {k : Nat} (hk : k < s.length) (h : ∀ j (hj : j < k), (RX.classOf (s[j]'(by omega)) == 0) = false) (h1 : (RX.classOf s[k] == 0) = true) : firstNo s = k := by
  unfold firstNo
  rw [List.findIdx?_eq_some_iff_getElem.2 ⟨hk, h1, fun j hj => by rw [h j hj]; decide⟩]
theorem index_any (s : List Int) (v : Value) (w : World) (hv : SlC w v s) (_hl : s.length ≤ 1000000) : Calls Try.prog 20 #[v, .func (.func 21) #[] #[]] w (RetD (.int .i64 (firstNo s)) w) := by
  obtain ⟨A, c, rfl, hlc, hcm, _⟩ := id hv
  have HV := Lib.hid hv
  clear hv
  go_enter Try.func20, Try.ntmps20
  go_wp2_with fail
  go_loopw [8] (fun i wr => ∃ k n : Nat, k ≤ s.length ∧ i = .int .i64 k ∧ wr = w.drewN n ∧ ∀ x ∈ s.take k, (RX.classOf x == 0) = false) (fun i _ => s.length - (intOf i).toNat)
  case atStart => exact ⟨0, 0, Nat.zero_le _, rfl, rfl, by simp⟩
  case round =>
    obtain ⟨k, n, hk, rfl, rfl, hall⟩ := hrel
    have HALL := Lib.hid hall
    clear hall
    by_cases hlt : k < s.length
    · obtain ⟨b, o, rfl, hc⟩ := HV.out.at_ hlt
      obtain ⟨x, hx⟩ : ∃ x, s[k] = x := ⟨_, rfl⟩
      rw [hx] at hc
      have HX := Lib.hid hx
      clear hx
      rcases hz : (RX.classOf x == 0) with _ | _
      · go_wp2_with (go_at_call 21; refine (none_any _ _).mono ?_; rintro e w' ⟨rfl, n2, rfl⟩)
        go_roundw
        case rel =>
          refine ⟨k + 1, _, by omega, by go_num, rfl, fun y hy => ?_⟩
          rw [List.take_succ_eq_append_getElem hlt] at hy
          rcases List.mem_append.1 hy with hy | hy
          · exact HALL.out y hy
          · simp at hy; subst hy; rw [HX.out]; exact hz
        case measure => simp [intOf]; omega
      · go_wp2_with (go_at_call 21; refine (none_any _ _).mono ?_; rintro e w' ⟨rfl, n2, rfl⟩)
        go_ret
        refine ⟨ret_congr ?_, _, rfl⟩
        rw [firstNo_at hlt (fun j hj => HALL.out _ (List.mem_take_iff_getElem.2 ⟨j, by omega, rfl⟩)) (by rw [HX.out]; exact hz)]; rfl
    · have hkl : k = s.length := by omega
      have HK := Lib.hid hkl
      clear hkl
      go_wp2_with fail
      go_ret
      refine ⟨ret_congr ?_, _, rfl⟩
      rw [firstNo_none (by intro x hx; exact HALL.out x (by rw [HK.out, List.take_length]; exact hx))]; rfl
/-- Inside of Parse: the reader behind the fault's cells; the tree. -/
structure Pst (w : World) (nb : Nat) (s : List Int) (sv : Value) (st : RX.St) (vl : Value) (l : List RX.ReN) (wr : World) : Prop where
  env : Env (w.alloc (.cells #[.int .i64 0, .int .i64 0] 39)) (nb + 1) sv s wr st
  ext : Ext w wr
  box : wr.heap[nb]? = some (.cells #[.int .i64 0, .int .i64 0] 39 (0, 0))
  val : SlRe (nb + 2) (nb + 2) wr vl l
  nbs : nb = w.heap.size
section
variable {w wr w' : World} {nb : Nat} {s : List Int} {sv vl vl' : Value} {st st' : RX.St} {l l' : List RX.ReN}
theorem Pst.step (h : Pst w nb s sv st vl l wr) (he : Env (w.alloc (.cells #[.int .i64 0, .int .i64 0] 39)) (nb + 1) sv s w' st') (ho : Only wr w' (nb + 1)) : Pst w nb s sv st' vl l w' :=
  ⟨he, h.ext.only ho (by have := h.nbs; omega), (ho.block nb (heap_lt h.box) (by intro e; injection e with e; omega)).trans h.box, SlB.only h.val (keepsB_re _) ho, h.nbs⟩
theorem Pst.drewN {n : Nat} (h : Pst w nb s sv st vl l wr) : Pst w nb s sv st vl l (wr.drewN n) := h.step (h.env.drewN n) ((Only.refl _ _).drewN n)
theorem Pst.call (h : Pst w nb s sv st vl l wr) (hr : RS (nb + 1) sv w' st') (ho : Only wr w' (nb + 1)) : Pst w nb s sv st' vl l w' := h.step (h.env.step ho hr) ho
theorem Pst.setv (h : Pst w nb s sv st vl l wr) (hv : SlRe (nb + 2) (nb + 2) wr vl' l') : Pst w nb s sv st vl' l' wr := ⟨h.env, h.ext, h.box, hv, h.nbs⟩
theorem SlRe.weak {B B' : Nat} (h : SlRe B B w vl l) (hb : B' ≤ B) : SlRe B' B' w vl l := SlB.weaken (SlB.imp h fun _ _ ⟨sv, e, hs⟩ => ⟨sv, e, hs.weaken hb⟩) hb
/-- Behind the store of the fault. -/
theorem Pst.done {n : Nat} {x y : Value} (h : Pst w nb s sv st vl l wr) : SlRe w.heap.size w.heap.size (((wr.drewN n).setCell ⟨nb, 0, none⟩ x).setCell ⟨nb, 1, none⟩ y) vl l ∧ Ext w (((wr.drewN n).setCell ⟨nb, 0, none⟩ x).setCell ⟨nb, 1, none⟩ y) := by
  have hb := h.nbs
  have ho : Only wr (((wr.drewN n).setCell ⟨nb, 0, none⟩ x).setCell ⟨nb, 1, none⟩ y) nb := (((Only.refl _ _).drewN n).set _).set _
  exact ⟨SlRe.weak (SlB.keepB h.val (keepsB_re _) (KeepB.low ho (by omega))) (by omega), h.ext.only ho (by omega)⟩
def ParseP (s : List Int) (w : World) : Ending → World → Prop :=
  RetP2 (fun w' a b => SlRe w.heap.size w.heap.size w' a (RX.parse s).1 ∧ b = .agg #[.int .i64 (RX.parse s).2.1, .int .i64 (RX.parse s).2.2]) w
theorem parse_any (s : List Int) (v : Value) (w : World) (hv : SlC w v s) : Calls Try.prog 12 #[v] w (ParseP s w) := by
  obtain ⟨A, c, rfl, hlc, hcm, _⟩ := id hv
  by_cases hlen : 60 < s.length
  · have hP := Lib.hid (show RX.parse s = ([], 3, 60) by unfold RX.parse; rw [if_pos hlen])
    have hd : decide ((60 : Int) < s.length) = true := by simp; omega
    clear hv
    go_enter Try.func12, Try.ntmps12
    go_wp2_with fail
    refine bodyPost_ret (v := .tuple #[.slice none 0 0, .agg #[.int .i64 3, .int .i64 60]]) (by simp [results, Try.results12, go_sem]) rfl ?_
    exact ⟨_, _, rfl, by rw [hP.out]; exact ⟨SlB.nil_, rfl⟩, (Ext.refl w).alloc _⟩
  have hd : decide ((60 : Int) < s.length) = false := by simp; omega
  have hl60 : s.length ≤ 60 := by omega
  have HX := Lib.hid (fun w' (h : Ext w w') => index_any s _ w' (hv.ext h) (by omega))
  rcases hf : s.findIdx? (fun c => RX.classOf c == 0) with _ | i
  · have hz : firstNo s = -1 := by unfold firstNo; rw [hf]
    rw [hz] at HX
    have HF := Lib.hid hf
    clear hz hf
    go_enter Try.func12, Try.ntmps12
    go_wp2_with (go_at_call 20; refine (HX.out _ ((Ext.refl w).alloc _)).mono ?_; rintro e w' ⟨rfl, n, rfl⟩)
    have HNB := Lib.hid (rfl : w.heap.size = w.heap.size)
    obtain ⟨nb, hnb⟩ : ∃ nb, nb = w.heap.size := ⟨_, rfl⟩
    have hpre : Pst w nb s (.slice A s.length c) ⟨0, 0, 0, 0, 0⟩ (.slice none 0 0) [] (((w.alloc (.cells #[.int .i64 0, .int .i64 0] 39)).drewN n).alloc (.cells #[.slice A s.length c, .int .i64 0, .int .i64 0, .int .i64 0, .int .i64 0, .int .i64 0] 55)) :=
      ⟨⟨hv.ext ((Ext.refl w).alloc _), by simp; omega, hl60, ((Ext.refl _).drewN n).alloc _, by
          have := heap_alloc_new ((w.alloc (.cells #[.int .i64 0, .int .i64 0] 39)).drewN n) (.cells #[.slice A s.length c, .int .i64 0, .int .i64 0, .int .i64 0, .int .i64 0, .int .i64 0] 55)
          rw [show nb + 1 = ((w.alloc (.cells #[.int .i64 0, .int .i64 0] 39)).drewN n).heap.size by simp; omega]
          exact this⟩, (((Ext.refl w).alloc _).drewN n).alloc _,
        (((Ext.refl _).drewN n).alloc _).heap (hnb ▸ heap_alloc_new w _), SlB.nil_, hnb⟩
    have HC := Lib.hid hpre
    have hN := RX.altN_ok s 12 ⟨0, 0, 0, 0, 0⟩ rfl (Nat.zero_le _) (by decide)
    have hA : ∀ w2, Env (w.alloc (.cells #[.int .i64 0, .int .i64 0] 39)) (nb + 1) (.slice A s.length c) s w2 ⟨0, 0, 0, 0, 0⟩ → Calls Try.prog 23 #[.pointer (some ⟨nb + 1, 0, none⟩)] w2 (PostR (fun w' v => SlRe (nb + 2) (nb + 2) w' v (RX.altN s 12 ⟨0, 0, 0, 0, 0⟩).1) (nb + 1) (.slice A s.length c) w2 (RX.altN s 12 ⟨0, 0, 0, 0, 0⟩).2 (s.length + 30)) :=
      fun w2 he => altN_c s 12 0 rfl w2 _ he rfl (Nat.zero_le _) (by decide) rfl
    have hP : RX.parse s = (if (if (RX.altN s 12 ⟨0, 0, 0, 0, 0⟩).2.ok = true ∧ (RX.altN s 12 ⟨0, 0, 0, 0, 0⟩).2.at_ < s.length then (RX.altN s 12 ⟨0, 0, 0, 0, 0⟩).2.fail 5 (RX.altN s 12 ⟨0, 0, 0, 0, 0⟩).2.at_ else (RX.altN s 12 ⟨0, 0, 0, 0, 0⟩).2).ok = true then ((RX.altN s 12 ⟨0, 0, 0, 0, 0⟩).1, 0, 0) else ([], (if (RX.altN s 12 ⟨0, 0, 0, 0, 0⟩).2.ok = true ∧ (RX.altN s 12 ⟨0, 0, 0, 0, 0⟩).2.at_ < s.length then (RX.altN s 12 ⟨0, 0, 0, 0, 0⟩).2.fail 5 (RX.altN s 12 ⟨0, 0, 0, 0, 0⟩).2.at_ else (RX.altN s 12 ⟨0, 0, 0, 0, 0⟩).2).code, (if (RX.altN s 12 ⟨0, 0, 0, 0, 0⟩).2.ok = true ∧ (RX.altN s 12 ⟨0, 0, 0, 0, 0⟩).2.at_ < s.length then (RX.altN s 12 ⟨0, 0, 0, 0, 0⟩).2.fail 5 (RX.altN s 12 ⟨0, 0, 0, 0, 0⟩).2.at_ else (RX.altN s 12 ⟨0, 0, 0, 0, 0⟩).2).bat)) := by
      unfold RX.parse; rw [if_neg hlen, HF.out]
    generalize RX.altN s 12 ⟨0, 0, 0, 0, 0⟩ = r at hN hA hP
    have hat : r.2.at_ ≤ s.length + 14 := hN.1.hi
    have HA := Lib.hid hA
    have HP := Lib.hid hP
    have HW := Lib.hid hnb
    rw [← hnb]
    clear hpre hN hA hP hnb hv HX
    generalize World.alloc _ _ = wb at HC ⊢
    have hr1 := HC.out.env.rs; have c1 := hr1.c1; have c4 := hr1.c4; have c5 := hr1.c5; have f1 := hr1.fr 1; clear hr1
    have hq := (HA.out _ HC.out.env)
    refine hq.mono ?_
    rintro e w' ⟨v, rfl, hv, hr, ho, hb⟩
    have HC := Lib.hid (Pst.call (by (focus (repeat (first | exact HC.out | apply Pst.drewN)))) hr ho); have hr1 := HC.out.env.rs; have c1 := hr1.c1; have c4 := hr1.c4; have c5 := hr1.c5; have f1 := hr1.fr 1; clear hr1; clear hr ho hb
    obtain ⟨Aa, ca, rfl, _⟩ := hv.form; have HV := Lib.hid hv; clear hv
    have HC := Lib.hid (Pst.setv HC.out HV.out)
    go_upto_region 8 with fail
    go_cut [32] (fun s32 wx => ∃ b, s32 = .bool b ∧ b = (r.2.ok && decide (r.2.at_ < s.length)) ∧ Pst w nb s (.slice A s.length c) r.2 (.slice Aa r.1.length ca) r.1 wx)
    case first =>
      rcases hok : r.2.ok with _ | _
      · go_wp2_with (first | (go_at_call 24; apply Calls.mono; apply ok_any (w0 := w.alloc (.cells #[.int .i64 0, .int .i64 0] 39)) (rb := nb + 1) (sv := .slice A s.length c) (s := s); (apply Pst.env; (focus (repeat (first | exact HC.out | apply Pst.drewN)))); rintro e w' ⟨rfl, n, rfl⟩))
        go_meet
        exact ⟨_, rfl, by rw [hok]; rfl, by (focus (repeat (first | exact HC.out | apply Pst.drewN)))⟩
      · go_wp2_with (first | (go_at_call 24; apply Calls.mono; apply ok_any (w0 := w.alloc (.cells #[.int .i64 0, .int .i64 0] 39)) (rb := nb + 1) (sv := .slice A s.length c) (s := s); (apply Pst.env; (focus (repeat (first | exact HC.out | apply Pst.drewN)))); rintro e w' ⟨rfl, n, rfl⟩))
        go_meet
        exact ⟨_, rfl, by rw [hok]; rfl, by (focus (repeat (first | exact HC.out | apply Pst.drewN)))⟩
    case rest =>
      obtain ⟨b, rfl, hb, hcc⟩ := hcut
      have HC := Lib.hid hcc
      have HB := Lib.hid hb
      clear hb hcc c1 c4 c5 f1
      have hr1 := HC.out.env.rs; have c1 := hr1.c1; have c4 := hr1.c4; have c5 := hr1.c5; have f1 := hr1.fr 1; clear hr1
      go_upto_if 32 with fail
      go_cut [] (fun wx => Pst w nb s (.slice A s.length c) (if r.2.ok = true ∧ r.2.at_ < s.length then r.2.fail 5 r.2.at_ else r.2) (.slice Aa r.1.length ca) r.1 wx)
      case first =>
        rcases b with _ | _
        · have HY := Lib.hid (show ¬ (r.2.ok = true ∧ r.2.at_ < s.length) by have := HB.out; intro h; rw [h.1, decide_eq_true h.2] at this; cases this)
          go_wp2_with fail
          go_meet
          rw [if_neg HY.out]; (focus (repeat (first | exact HC.out | apply Pst.drewN)))
        · have HY := Lib.hid (show r.2.ok = true ∧ r.2.at_ < s.length by have := HB.out.symm; simp only [Bool.and_eq_true, decide_eq_true_eq] at this; exact this)
          go_wp2_with (first | (go_at_call 25; apply Calls.mono; apply fail_any (w0 := w.alloc (.cells #[.int .i64 0, .int .i64 0] 39)) (rb := nb + 1) (sv := .slice A s.length c) (s := s); (apply Pst.env; (focus (repeat (first | exact HC.out | apply Pst.drewN)))); rintro e w' ⟨rfl, hr, ho, hb⟩; have HC := Lib.hid (Pst.call (by (focus (repeat (first | exact HC.out | apply Pst.drewN)))) hr ho); have hr1 := HC.out.env.rs; have c1 := hr1.c1; have c4 := hr1.c4; have c5 := hr1.c5; have f1 := hr1.fr 1; clear hr1; clear hr ho hb))
          go_meet
          rw [if_pos HY.out]; (focus (repeat (first | exact HC.out | apply Pst.drewN)))
      case rest =>
        generalize (if r.2.ok = true ∧ r.2.at_ < s.length then r.2.fail 5 r.2.at_ else r.2) = st2 at hcut HP
        have HC := Lib.hid hcut
        clear hcut c1 c4 c5 f1
        have hr1 := HC.out.env.rs; have c1 := hr1.c1; have c4 := hr1.c4; have c5 := hr1.c5; have f1 := hr1.fr 1; clear hr1
        have b0 := cell_of_row _ nb 0 _ _ _ HC.out.box
        have b1 := cell_of_row _ nb 1 _ _ _ HC.out.box
        have g0 := frozen_of_row _ nb 0 _ _ HC.out.box
        have g1 := frozen_of_row _ nb 1 _ _ HC.out.box
        rcases hok : st2.ok with _ | _
        · go_wp2_with (first | (go_at_call 24; apply Calls.mono; apply ok_any (w0 := w.alloc (.cells #[.int .i64 0, .int .i64 0] 39)) (rb := nb + 1) (sv := .slice A s.length c) (s := s); (apply Pst.env; (focus (repeat (first | exact HC.out | apply Pst.drewN)))); rintro e w' ⟨rfl, n, rfl⟩))
          go_region
          all_goals go_wp2_with fail
          all_goals refine bodyPost_ret (v := .tuple #[.slice none 0 0, .agg #[.int .i64 st2.code, .int .i64 st2.bat]]) (by simp [results, Try.results12, go_sem, *]) rfl ?_
          all_goals
            have hp := HP.out
            rw [hok, if_neg (by decide)] at hp
            have hd := HC.out.done (n := n + 1) (x := .int .i64 st2.code) (y := .int .i64 st2.bat)
            exact ⟨_, _, rfl, by rw [hp]; exact ⟨SlB.nil_, rfl⟩, hd.2⟩
        · go_wp2_with (first | (go_at_call 24; apply Calls.mono; apply ok_any (w0 := w.alloc (.cells #[.int .i64 0, .int .i64 0] 39)) (rb := nb + 1) (sv := .slice A s.length c) (s := s); (apply Pst.env; (focus (repeat (first | exact HC.out | apply Pst.drewN)))); rintro e w' ⟨rfl, n, rfl⟩))
          refine bodyPost_ret (v := .tuple #[.slice Aa r.1.length ca, .agg #[.int .i64 0, .int .i64 0]]) (by simp [results, Try.results12, go_sem, b0, b1]) rfl ?_
          have hp := HP.out
          rw [hok, if_pos rfl] at hp
          have hd := HC.out.done (n := n) (x := .int .i64 0) (y := .int .i64 0)
          exact ⟨_, _, rfl, by rw [hp]; exact ⟨hd.1, rfl⟩, hd.2⟩
  · have hz : firstNo s = i := by unfold firstNo; rw [hf]
    rw [hz] at HX
    have hP := Lib.hid (show RX.parse s = ([], 1, (i : Int)) by unfold RX.parse; rw [if_neg hlen, hf])
    clear hz hf hv
    go_enter Try.func12, Try.ntmps12
    go_wp2_with (go_at_call 20; refine (HX.out _ ((Ext.refl w).alloc _)).mono ?_; rintro e w' ⟨rfl, n, rfl⟩)
    refine bodyPost_ret (v := .tuple #[.slice none 0 0, .agg #[.int .i64 1, .int .i64 i]]) (by simp [results, Try.results12, go_sem]) rfl ?_
    exact ⟨_, _, rfl, by rw [hP.out]; exact ⟨SlB.nil_, rfl⟩, ((((Ext.refl w).alloc _).drewN n).set (by simp) _).set (by simp) _⟩
end
theorem parse_k1 : RX.parse [97, 124, 40, 98, 41] = ([⟨1, 0, 0, 0, false, false, []⟩, ⟨0, 1, 0, 0, false, false, []⟩, ⟨2, 2, 0, 0, false, false, [97, 97]⟩, ⟨0, 1, 0, 0, false, false, []⟩, ⟨5, 2, 1, 0, false, false, []⟩, ⟨0, 3, 0, 0, false, false, []⟩, ⟨2, 4, 0, 0, false, false, [98, 98]⟩], 0, 0) := by kernel_rfl
theorem parse_k2 : RX.parse [97, 42, 42] = ([], 5, 2) := by kernel_rfl
theorem groups_take (l : List RX.ReN) {k : Nat} (h : k < l.length) : RX.groups (l.take (k + 1)) = RX.groups (l.take k) + (if l[k].kind = 5 ∧ 0 < l[k].lo then 1 else 0) := by
  unfold RX.groups
  rw [List.take_succ_eq_append_getElem h, List.filter_append, List.length_append]
  congr 1
  by_cases h1 : l[k].kind = 5 ∧ 0 < l[k].lo
  · rw [if_pos h1]; simp [h1.1, h1.2]
  · rw [if_neg h1]
    have : (decide (l[k].kind = 5) && decide (0 < l[k].lo)) = false := by
      rcases hb : (decide (l[k].kind = 5) && decide (0 < l[k].lo)) with _ | _
      · rfl
      · exact absurd (by simpa using hb) h1
    simp [this]
theorem groups_any (l : List RX.ReN) (B : Nat) (v : Value) (w : World) (hv : SlRe B B w v l) (_hl : l.length ≤ 1000000) : Calls Try.prog 15 #[v] w (Ret (.int .i64 (RX.groups l : Nat)) w) := by
  obtain ⟨A, c, rfl, hlc, hcm⟩ := hv.form
  have HV := Lib.hid hv
  clear hv
  go_enter Try.func15, Try.ntmps15
  go_wp2_with fail
  go_loopw [3, 8] (fun n i wr => ∃ k : Nat, k ≤ l.length ∧ i = .int .i64 k ∧ n = .int .i64 (RX.groups (l.take k) : Nat) ∧ RX.groups (l.take k) ≤ k ∧ Ext w wr) (fun _ i _ => l.length - (intOf i).toNat)
  case atStart => exact ⟨0, Nat.zero_le _, rfl, rfl, Nat.le_refl _, Ext.refl w⟩
  case round =>
    obtain ⟨k, hk, rfl, rfl, hg, hE⟩ := hrel
    have HE := Lib.hid hE
    by_cases hlt : k < l.length
    · obtain ⟨g, o, cs, rfl, hcr, hcell⟩ := (HV.out.keep (keeps_re B) (KeepT.of_ext hE) (KeepT.of_ext hE)).at_ hlt
      have HT := Lib.hid (groups_take l hlt)
      generalize l[k] = x at hcr HT
      obtain ⟨n2, hn2⟩ : ∃ n2, RX.groups (l.take (k + 1)) = n2 := ⟨_, rfl⟩
      rw [hn2] at HT
      have HN := Lib.hid hn2
      clear hn2
      generalize RX.groups (l.take k) = n1 at HT hg ⊢
      obtain ⟨Ax, cx, rfl⟩ := hcr.cells
      have c0 := hcell 0 _ rfl
      have c1 := hcell 1 _ rfl
      have c2 := hcell 2 _ rfl
      have c3 := hcell 3 _ rfl
      have c4 := hcell 4 _ rfl
      have c5 := hcell 5 _ rfl
      have c6 := hcell 6 _ rfl
      rw [Nat.add_zero] at c0
      clear hcell hcr hE
      rcases h5 : (x.kind == 5) with _ | _
      · have HX := Lib.hid (show n2 = n1 by rw [HT.out, if_neg (fun h => beq_eq_false_iff_ne.1 h5 h.1)]; rfl)
        go_wp2_with fail
        go_roundw
        case rel => exact ⟨k + 1, by omega, by go_num, by rw [HN.out, HX.out], by rw [HN.out, HX.out]; omega, HE.out.alloc _⟩
        case measure => simp [intOf]; omega
      · rcases h0 : decide (0 < x.lo) with _ | _
        · have HX := Lib.hid (show n2 = n1 by rw [HT.out, if_neg (fun h => of_decide_eq_false h0 h.2)]; rfl)
          go_wp2_with fail
          go_roundw
          case rel => exact ⟨k + 1, by omega, by go_num, by rw [HN.out, HX.out], by rw [HN.out, HX.out]; omega, HE.out.alloc _⟩
          case measure => simp [intOf]; omega
        · have HX := Lib.hid (show n2 = n1 + 1 by rw [HT.out, if_pos ⟨beq_iff_eq.1 h5, of_decide_eq_true h0⟩])
          go_wp2_with fail
          go_roundw
          case rel => exact ⟨k + 1, by omega, by go_num, by rw [HN.out, HX.out]; go_num, by rw [HN.out, HX.out]; omega, HE.out.alloc _⟩
          case measure => simp [intOf]; omega
    · have hkl : k = l.length := by omega
      have HK := Lib.hid hkl
      clear hkl hE
      go_wp2_with fail
      go_ret
      exact ⟨ret_congr (by rw [HK.out, List.take_length]; rfl), HE.out⟩
theorem SlB.slc {t B : Nat} {w : World} {v : Value} {xs : List Int} (h : SlB t 1 Cc B w v xs) : SlC w v xs := by
  obtain ⟨A, c, rfl, hl, hc, hn, ha⟩ := h
  refine ⟨A, c, rfl, hl, hc, fun k x hx => ?_, hn⟩
  cases A with
  | none =>
    have := hn rfl
    rw [List.getElem?_eq_none (by omega)] at hx; cases hx
  | some ad =>
    obtain ⟨g, o, cur, rfl, _, h3, _, h5⟩ := ha ad rfl
    obtain ⟨cs, h6, h7⟩ := h5 k x hx
    have h6 : cs = _ := h6
    subst h6
    exact ⟨g, o, rfl, (cell_of_row w g _ cur t (0, 0) h3).trans (h7 0 _ rfl)⟩
theorem parse_lit {s : List Int} {L : List RX.ReN} {c a : Int} {v : Value} {w : World} (h : RX.parse s = (L, c, a)) (hv : SlC w v s) :
    Calls Try.prog 12 #[v] w (RetP2 (fun w' x y => SlRe w.heap.size w.heap.size w' x L ∧ y = .agg #[.int .i64 c, .int .i64 a]) w) := by
  refine (parse_any s v w hv).mono ?_
  rintro e w' ⟨x, y, rfl, ⟨h1, rfl⟩, hE⟩
  rw [h] at h1 ⊢
  exact ⟨x, _, rfl, ⟨h1, rfl⟩, hE⟩
def known8L : List RX.ReN := [⟨1, 0, 0, 0, false, false, []⟩, ⟨0, 1, 0, 0, false, false, []⟩, ⟨2, 2, 0, 0, false, false, [97, 97]⟩, ⟨0, 1, 0, 0, false, false, []⟩, ⟨5, 2, 1, 0, false, false, []⟩, ⟨0, 3, 0, 0, false, false, []⟩, ⟨2, 4, 0, 0, false, false, [98, 98]⟩]
theorem known8_len : known8L.length = 7 := rfl
theorem known8_groups : RX.groups known8L = 1 := rfl
theorem known8_any (w : World) : Calls Try.prog 8 #[] w (Ret (.bool true) w) := by
  go_enter Try.func8, Try.ntmps8
  go_wp2_with fail
  refine (parse_lit (L := known8L) parse_k1 ?h1).mono ?_
  case h1 => exact SlB.slc (lit_c w [97, 124, 40, 98, 41] (Nat.le_refl _) (by decide)).sl
  rintro e w1 ⟨v, u, rfl, ⟨hv, rfl⟩, hE1⟩
  obtain ⟨A, c, rfl, hlc, hcm⟩ := hv.form
  have HV := Lib.hid hv
  have HE1 := Lib.hid hE1
  obtain ⟨g, o, cs, rfl, hc0, h0⟩ := hv.at_ (k := 0) (by decide)
  obtain ⟨g1, o1, cs1, he1, hc1, h1⟩ := hv.at_ (k := 1) (by decide)
  injection he1 with he1
  injection he1 with he1 ho1
  subst he1 ho1
  obtain ⟨g2, o2, cs2, he2, hc2, h2⟩ := hv.at_ (k := 2) (by decide)
  injection he2 with he2
  injection he2 with he2 ho2
  subst he2 ho2
  obtain ⟨g4, o4, cs4, he4, hc4, h4⟩ := hv.at_ (k := 4) (by decide)
  injection he4 with he4
  injection he4 with he4 ho4
  subst he4 ho4
  obtain ⟨g6, o6, cs6, he6, hc6, h6⟩ := hv.at_ (k := 6) (by decide)
  injection he6 with he6
  injection he6 with he6 ho6
  subst he6 ho6
  have k00 := h0 0 (.int .i64 1) (by obtain ⟨sv, rfl, _⟩ := hc0; rfl)
  have k10 := h1 0 (.int .i64 0) (by obtain ⟨sv, rfl, _⟩ := hc1; rfl)
  have k11 := h1 1 (.int .i64 1) (by obtain ⟨sv, rfl, _⟩ := hc1; rfl)
  have k20 := h2 0 (.int .i64 2) (by obtain ⟨sv, rfl, _⟩ := hc2; rfl)
  have k21 := h2 1 (.int .i64 2) (by obtain ⟨sv, rfl, _⟩ := hc2; rfl)
  have k40 := h4 0 (.int .i64 5) (by obtain ⟨sv, rfl, _⟩ := hc4; rfl)
  have k42 := h4 2 (.int .i64 1) (by obtain ⟨sv, rfl, _⟩ := hc4; rfl)
  have k61 := h6 1 (.int .i64 4) (by obtain ⟨sv, rfl, _⟩ := hc6; rfl)
  clear hc0 hc1 hc2 hc4 hc6 h0 h1 h2 h4 h6
  rw [known8_len] at *
  have hs1 : w.heap.size + 1 ≤ w1.heap.size := by have := hE1.size; simp at this; omega
  clear hv hE1
  go_wp2_with fail
  refine (parse_lit parse_k2 ?h2).mono ?_
  case h2 => exact SlB.slc (c_lit (B := 0) _ [97, 42, 42] _ _ (by simp) rfl (Nat.zero_le _) (by decide))
  rintro e w2 ⟨v2, u2, rfl, ⟨hv2, rfl⟩, hE2⟩
  have hX : Ext w1 w2 := (((Ext.refl w1).alloc _).alloc _).trans hE2
  have q0 : w2.cell? ⟨w1.heap.size, 0, none⟩ = some (.int .i64 0) := hE2.cell (((Ext.refl _).alloc _).cell (by rw [World.cell?_alloc_new]; rfl))
  have HV := Lib.hid (SlB.keep HV.out (keeps_re _) (KeepT.of_ext hX) (KeepT.of_ext hX))
  have HX := Lib.hid (HE1.out)
  have HXX := Lib.hid (((Ext.refl w).alloc _).trans HE1.out |>.trans hX)
  obtain ⟨A2, c2, rfl, _⟩ := hv2.form
  replace k00 := hX.cell k00
  replace k10 := hX.cell k10
  replace k11 := hX.cell k11
  replace k20 := hX.cell k20
  replace k21 := hX.cell k21
  replace k40 := hX.cell k40
  replace k42 := hX.cell k42
  replace k61 := hX.cell k61
  simp only [Nat.reduceMul, Nat.add_zero, Nat.zero_mul, Nat.one_mul] at k00 k10 k11 k20 k21 k40 k42 k61
  have hY : Ext w2 (w2.alloc (.cells #[.int .i64 5, .int .i64 2] 39)) := (Ext.refl w2).alloc _
  replace q0 := hY.cell q0
  replace k00 := hY.cell k00
  replace k10 := hY.cell k10
  replace k11 := hY.cell k11
  replace k20 := hY.cell k20
  replace k21 := hY.cell k21
  replace k40 := hY.cell k40
  replace k42 := hY.cell k42
  replace k61 := hY.cell k61
  clear hX hE2 hv2 hY
  go_wp2_with (go_at_call 15; refine (groups_any known8L _ _ _ (SlB.keep HV.out (keeps_re _) (KeepT.of_ext ((Ext.refl w2).alloc _)) (KeepT.of_ext ((Ext.refl w2).alloc _))) (by decide)).mono ?_; rw [known8_groups]; rintro e w3 ⟨rfl, hE3⟩)
  go_ret
  exact ⟨rfl, (HXX.out.alloc _).trans hE3⟩
/-- The tape's block: its row, its place. -/
def TS (tb : Nat) (sv : Value) (w : World) (i : Nat) : Prop := w.heap[tb]? = some (.cells #[sv, .int .i64 i] 26 (0, 0))
structure Ten (w0 : World) (tb : Nat) (sv : Value) (ts : List Int) (w : World) (i : Nat) : Prop where
  sl : SlI w0 sv ts
  lo : w0.heap.size ≤ tb
  ext : Ext w0 w
  st : TS tb sv w i
  le : i ≤ ts.length
section
variable {w0 : World} {tb : Nat} {sv : Value} {ts : List Int} {w wr w' : World} {i j : Nat}
theorem Ten.step (h : Ten w0 tb sv ts w i) (ho : Only w w' tb) (hr : TS tb sv w' j) (hj : j ≤ ts.length) : Ten w0 tb sv ts w' j := ⟨h.sl, h.lo, h.ext.only ho h.lo, hr, hj⟩
theorem Ten.drewN {n : Nat} (h : Ten w0 tb sv ts w i) : Ten w0 tb sv ts (w.drewN n) i := ⟨h.sl, h.lo, h.ext.drewN n, h.st, h.le⟩
theorem Ten.alloc {o : Obj} (h : Ten w0 tb sv ts w i) : Ten w0 tb sv ts (w.alloc o) i := ⟨h.sl, h.lo, h.ext.alloc o, ((Ext.refl w).alloc o).heap h.st, h.le⟩
theorem Ten.tbl (h : Ten w0 tb sv ts w i) : tb < w.heap.size := heap_lt h.st
theorem Ten.c0 (h : Ten w0 tb sv ts w i) : w.cell? ⟨tb, 0, none⟩ = some sv := cell_of_row w tb 0 _ _ _ h.st
theorem Ten.c1 (h : Ten w0 tb sv ts w i) : w.cell? ⟨tb, 1, none⟩ = some (.int .i64 i) := cell_of_row w tb 1 _ _ _ h.st
theorem Ten.fr (h : Ten w0 tb sv ts w i) (o : Nat) : w.frozen? ⟨tb, o, none⟩ = false := frozen_of_row w tb o _ _ h.st
theorem TS.put {x : Nat} (h : TS tb sv w i) : TS tb sv (w.setCell ⟨tb, 1, none⟩ (.int .i64 ((x : Int) + 1))) (x + 1) := heap_set h
theorem and_low (n : Int) : bits .and .i64 n 16777215 = n % 16777216 := by
  have h127 : (BitVec.ofInt 64 16777215).toNat = 2 ^ 24 - 1 := by decide
  have key : (BitVec.ofInt 64 n &&& BitVec.ofInt 64 16777215).toNat = (n % ((2 ^ 64 : Nat) : Int)).toNat % 2 ^ 24 := by
    rw [BitVec.toNat_and, BitVec.toNat_ofInt, h127, Nat.and_two_pow_sub_one_eq_mod]
  show IntKind.i64.wrap ((BitVec.ofInt 64 n &&& BitVec.ofInt 64 16777215).toNat : Nat) = n % 16777216
  rw [key, IntKind.wrap_i64]
  omega
/-- Behind a call on the tape: the result, its place. -/
def PostT (v : Value) (tb : Nat) (sv : Value) (w : World) (j : Nat) (e : Ending) (w' : World) : Prop := e = .returned v ∧ TS tb sv w' j ∧ Only w w' tb
def PostTV (R : World → Value → Prop) (tb : Nat) (sv : Value) (w : World) (j : Nat) (e : Ending) (w' : World) : Prop := ∃ v, e = .returned v ∧ R w' v ∧ TS tb sv w' j ∧ Only w w' tb
theorem tmod_low {x n : Int} (hn : 1 ≤ n) : (x % 16777216).tmod n = (((x % 16777216).toNat % n.toNat : Nat) : Int) := by
  have h0 : 0 ≤ x % 16777216 := by omega
  rw [Int.tmod_eq_emod_of_nonneg h0, Int.natCast_emod, Int.toNat_of_nonneg h0, Int.toNat_of_nonneg (by omega)]
theorem tnext_any (k : Int) (w : World) (i : Nat) (he : Ten w0 tb sv ts w i) (hk : 1 ≤ k ∧ k ≤ 1000000) :
    Calls Try.prog 9 #[.pointer (some ⟨tb, 0, none⟩), .int .i64 k] w (PostT (.int .i64 ((TP.next ts i k.toNat).1 : Nat)) tb sv w (TP.next ts i k.toNat).2) := by
  have c0 := he.c0
  have c1 := he.c1
  have f1 := he.fr 1
  have hs := he.sl.ext he.ext
  have HE := Lib.hid he
  obtain ⟨A, c, rfl, hlc, hcm, _⟩ := id hs
  obtain ⟨hk1, hk2⟩ := hk
  have hd2 : decide (k < 1) = false := by simp; omega
  by_cases h : i < ts.length
  · obtain ⟨b, o, rfl, hc⟩ := hs.at_ h
    have HN := Lib.hid (show TP.next ts i k.toNat = ((ts[i] % 16777216).toNat % k.toNat, i + 1) by unfold TP.next; rw [List.getElem?_eq_getElem h])
    generalize ts[i] = x at hc HN
    have hd1 : decide ((ts.length : Int) ≤ i) = false := by simp; omega
    clear he hs
    go_enter Try.func9, Try.ntmps9
    go_wp2_with fail
    go_quiet (fail)
    go_wp2_with fail
    go_quiet (fail)
    go_wp2_with fail
    go_ret
    rw [HN.out]
    refine ⟨?_, heap_set (HE.out.drewN).st, ((Only.refl _ _).drewN _).set _⟩
    show Ending.returned (.int .i64 ((bits .and .i64 x 16777215).tmod k)) = _
    rw [and_low, tmod_low hk1]
  · have HN := Lib.hid (show TP.next ts i k.toNat = (0, i) by unfold TP.next; rw [List.getElem?_eq_none (by omega)])
    have hd1 : decide ((ts.length : Int) ≤ i) = true := by simp; omega
    clear he hs
    go_enter Try.func9, Try.ntmps9
    go_wp2_with fail
    go_quiet (fail)
    go_wp2_with fail
    go_ret
    rw [HN.out]
    exact ⟨rfl, HE.out.st, (Only.refl _ _).drewN _⟩
end
theorem SlB.none_ {α : Type} {t sz : Nat} {C : World → List Value → α → Prop} {b : Nat} {w : World} {n c : Nat} {xs : List α} (h : SlB t sz C b w (.slice none n c) xs) : xs = [] ∧ n = 0 ∧ c = 0 := by
  obtain ⟨A, c', hv, hl, _, hn, _⟩ := h
  injection hv with h1 h2 h3
  have h4 := hn h1.symm
  have h5 : xs.length = 0 := by omega
  exact ⟨List.eq_nil_of_length_eq_zero h5, by omega, by omega⟩
/-- append(v, src...) of signs, whatever the source. -/
theorem app_src {w : World} {ops : Array Oper} {rest : List Oper} {o : Oper} {a : Act} {Q : Exit → Act → World → Prop} (hgd : o.guard = none) (s x : Operand) (ho : o.op = .call { callee := .builtin .append, args := #[s, x], argTypes := #[23, 23] })
    (B b : Nat) (v src : Value) (xs ys : List Int) (hown : OwnB 21 1 Cc B w v xs) (hs : a.eval s = v) (hx : a.eval x = src) (hsrc : SlB 21 1 Cc b w src ys)
    (hn : xs.length ≤ 1000000) (hn2 : ys.length ≤ 1000000) (hB : B ≤ w.heap.size)
    (h : ∀ v' w', OwnB 21 1 Cc B w' v' (xs ++ ys) → w.grownBy w' v.ownBlock → wpList Try.prog ops Q rest (a.put o.dst v') w') :
    wpList Try.prog ops Q (o :: rest) a w := by
  obtain ⟨i0, hi, hz0, hz1, hz2⟩ := info_parts info_c
  obtain ⟨A, c, rfl, hl, hc⟩ := hsrc.form
  cases A with
  | none =>
    obtain ⟨hy, hl0, hc0⟩ := SlB.none_ hsrc
    subst hy hc0
    refine wpList_append_own_none hgd s x 23 ho B 21 i0 1 Try.underlying23 hi v xs.length (xs.map (Value.int .i32)) hs hown.flat_i32 hx ?_
    exact h v w (by rw [List.append_nil]; exact hown) (World.grownBy.refl _ _)
  | some ad =>
    refine wpList_append_own (P := Try.prog) (w := w) hgd s x _ ho B 21 i0 (.int .i32 0) 1 4 Try.underlying23 hi hz0 hz1 hz2 rfl (by decide) v xs.length _ hs hown.flat_i32 ad ys.length c (ys.map (Value.int .i32)) hx (by simp) ?_ ?_ (by unfold maxLen; omega) (by omega) hB ?_
    · exact cells_map (SlB.add hsrc)
    · intro u hu
      simp at hu
      obtain ⟨y, _, rfl⟩ := hu
      rfl
    · intro v' w' h1 h2 _
      refine h v' w' (OwnB.of_flat_i32 ?_) h2
      rw [List.map_append, List.length_append]
      exact h1
theorem one_cells {w : World} {nb : Nat} {a : Int} {t : TypeId} (hnb : nb = w.heap.size) : ∀ j y, [a][j]? = some y → (w.alloc (.cells #[.int .i32 a] t)).cell? ((⟨nb, 0, none⟩ : Addr).add j) = some (.int .i32 y) := by
  subst hnb
  intro j y hy
  refine news_all w [.int .i32 a] t j _ ?_
  match j, hy with
  | 0, hy => simp at hy; subst hy; rfl
theorem wrap_byte (x : UInt8) : wrap32 (x.toNat : Int) = x.toNat := by
  have := UInt8.toNat_lt x
  unfold wrap32
  omega
/-- A string's bytes as signs. -/
def signs (b : ByteArray) : List Int := b.data.toList.map fun x => (x.toNat : Int)
theorem signs_len (b : ByteArray) : (signs b).length = b.size := by simp [signs]
theorem signs_take {b : ByteArray} {k : Nat} (h : k < b.size) : (signs b).take (k + 1) = (signs b).take k ++ [(b[k].toNat : Int)] := by
  have h2 : k < (signs b).length := by rw [signs_len]; exact h
  rw [List.take_succ_eq_append_getElem h2]
  congr 1
  simp [signs]; rfl
theorem plain_any (s : ByteArray) (w : World) (hs : s.size ≤ 1000000) : Calls Try.prog 19 #[.string s] w (RetP (fun w' v => OwnB 21 1 Cc w.heap.size w' v (signs s)) w) := by
  go_enter Try.func19, Try.ntmps19
  go_wp2_with fail
  go_loopw [3, 4] (fun v i wr => ∃ k : Nat, k ≤ s.size ∧ i = .int .i64 k ∧ OwnB 21 1 Cc w.heap.size wr v ((signs s).take k) ∧ Ext w wr) (fun _ i _ => s.size - (intOf i).toNat)
  case atStart => exact ⟨0, Nat.zero_le _, rfl, OwnB.nil_, Ext.refl w⟩
  case round =>
    obtain ⟨k, hk, rfl, hown, hE⟩ := hrel
    have HOW := Lib.hid hown
    have HE := Lib.hid hE
    have HLT := Lib.hid hown.lt
    obtain ⟨A, c, rfl, hlc, hcm⟩ := hown.form
    have hlen : ((signs s).take k).length ≤ 1000000 := by rw [List.length_take, signs_len]; omega
    have hsz := hE.size
    by_cases hlt : k < s.size
    · have HT := Lib.hid (signs_take hlt)
      have HW := Lib.hid (wrap_byte s[k])
      generalize (signs s).take k = xs at HOW HLT HT hlen hlc ⊢
      obtain ⟨xs', hxs'⟩ : ∃ l, l = (signs s).take (k + 1) := ⟨_, rfl⟩
      rw [← hxs'] at HT
      have HX := Lib.hid hxs'
      clear hown hE hxs'
      have hi0 : w.heap.size ≤ (wr.alloc (.cells #[.int .i32 (wrap32 (s[k].toNat : Int))] 21)).heap.size := by simp; omega
      go_wp2_with (at_builtin; go_loud (refine app_i32 rfl _ _ rfl w.heap.size _ xs [wrap32 (s[k].toNat : Int)] ?hown rfl ⟨wr.heap.size, 0, none⟩ 1 1 rfl rfl ?hc ?hn ?hll ?hB ?_; (case hown => exact HOW.out.allocs); (case hc => exact one_cells rfl); (case hn => omega); (case hll => (show 1 ≤ 1000; decide)); (case hB => exact hi0); intro v' w' h1 h2; have HX2 := Lib.hid (And.intro h1 ((HE.out.alloc _).grown h2 (fun k hk => (HLT.out k hk).1))); clear h1 h2))
      go_roundw
      case rel => exact ⟨k + 1, by omega, by go_num, by rw [← HX.out, HT.out, ← HW.out]; exact HX2.out.1, HX2.out.2⟩
      case measure => simp [intOf]; omega
    · have hk2 : k = s.size := by omega
      have HT := Lib.hid (show (signs s).take k = signs s by rw [hk2, ← signs_len, List.take_length])
      clear hown hE hk2
      go_wp2_with fail
      go_ret
      exact ⟨_, rfl, by have := HOW.out; rw [HT.out] at this ⊢; exact this, HE.out⟩
/-- The reader's block. -/
def QS (rb : Nat) (sv : Value) (w : World) (st : RX.St) : Prop :=
  w.heap[rb]? = some (.cells #[sv, .int .i64 st.at_, .int .i64 st.caps, .int .i64 st.op, .int .i64 st.code, .int .i64 st.bat] 60 (0, 0))
/-- The reader's text, known at an elder world; its block, now. -/
structure Qn (w0 : World) (rb : Nat) (sv : Value) (s : List Int) (w : World) (st : RX.St) : Prop where
  sl : SlC w0 sv s
  lo : w0.heap.size ≤ rb
  len : s.length ≤ 60
  pos : ∀ x ∈ s, 0 ≤ x
  ext : Ext w0 w
  blk : QS rb sv w st
section
variable {w0 w w' : World} {rb : Nat} {sv : Value} {s : List Int} {st st' : RX.St}
theorem QS.c0 (h : QS rb sv w st) : w.cell? ⟨rb, 0, none⟩ = some sv := cell_of_row w rb 0 _ _ _ h
theorem QS.c1 (h : QS rb sv w st) : w.cell? ⟨rb, 1, none⟩ = some (.int .i64 st.at_) := cell_of_row w rb 1 _ _ _ h
theorem QS.c2 (h : QS rb sv w st) : w.cell? ⟨rb, 2, none⟩ = some (.int .i64 st.caps) := cell_of_row w rb 2 _ _ _ h
theorem QS.c3 (h : QS rb sv w st) : w.cell? ⟨rb, 3, none⟩ = some (.int .i64 st.op) := cell_of_row w rb 3 _ _ _ h
theorem QS.c4 (h : QS rb sv w st) : w.cell? ⟨rb, 4, none⟩ = some (.int .i64 st.code) := cell_of_row w rb 4 _ _ _ h
theorem QS.c5 (h : QS rb sv w st) : w.cell? ⟨rb, 5, none⟩ = some (.int .i64 st.bat) := cell_of_row w rb 5 _ _ _ h
theorem QS.fr (h : QS rb sv w st) (o : Nat) : w.frozen? ⟨rb, o, none⟩ = false := frozen_of_row w rb o _ _ h
theorem QS.set1 (h : QS rb sv w st) (n : Nat) : QS rb sv (w.setCell ⟨rb, 1, none⟩ (.int .i64 n)) { st with at_ := n } := heap_set h
theorem QS.set2 (h : QS rb sv w st) (n : Nat) : QS rb sv (w.setCell ⟨rb, 2, none⟩ (.int .i64 n)) { st with caps := n } := heap_set h
theorem QS.set3 (h : QS rb sv w st) (n : Nat) : QS rb sv (w.setCell ⟨rb, 3, none⟩ (.int .i64 n)) { st with op := n } := heap_set h
theorem QS.set45 (h : QS rb sv w st) (c b : Int) : QS rb sv ((w.setCell ⟨rb, 4, none⟩ (.int .i64 c)).setCell ⟨rb, 5, none⟩ (.int .i64 b)) { st with code := c, bat := b } := heap_set (heap_set h)
theorem Qn.step (h : Qn w0 rb sv s w st) (ho : Only w w' rb) (hr : QS rb sv w' st') : Qn w0 rb sv s w' st' := ⟨h.sl, h.lo, h.len, h.pos, h.ext.only ho h.lo, hr⟩
theorem Qn.ex (h : Qn w0 rb sv s w st) (hx : Ext w w') : Qn w0 rb sv s w' st := ⟨h.sl, h.lo, h.len, h.pos, h.ext.trans hx, hx.heap h.blk⟩
theorem Qn.rbl (h : Qn w0 rb sv s w st) : rb < w.heap.size := heap_lt h.blk
theorem Qn.bump (h : Qn w0 rb sv s w st) (n : Nat) : Qn w0 rb sv s (w.setCell ⟨rb, 1, none⟩ (.int .i64 ((st.at_ + n : Nat) : Int))) (st.bump n) := h.step ((Only.refl w rb).set _) (h.blk.set1 _)
theorem Qn.setcaps (h : Qn w0 rb sv s w st) (n : Nat) : Qn w0 rb sv s (w.setCell ⟨rb, 2, none⟩ (.int .i64 (n : Nat))) { st with caps := n } := h.step ((Only.refl w rb).set _) (h.blk.set2 _)
theorem Qn.setop (h : Qn w0 rb sv s w st) (n : Nat) : Qn w0 rb sv s (w.setCell ⟨rb, 3, none⟩ (.int .i64 (n : Nat))) { st with op := n } := h.step ((Only.refl w rb).set _) (h.blk.set3 _)
/-- Behind a call that only tells something. -/
def RetE (v : Value) (w : World) (e : Ending) (w' : World) : Prop := e = .returned v ∧ Ext w w'
/-- Behind a call that moves the reader on. -/
def QV (v : Value) (rb : Nat) (sv : Value) (w : World) (st' : RX.St) (e : Ending) (w' : World) : Prop := e = .returned v ∧ QS rb sv w' st' ∧ Only w w' rb
theorem qnext_any (w : World) (st : RX.St) (he : Qn w0 rb sv s w st) :
    Calls Try.prog 37 #[.pointer (some ⟨rb, 0, none⟩)] w (RetE (.int .i32 (RX.nxt s st 0)) w) := by
  have c0 := he.blk.c0
  have c1 := he.blk.c1
  have HS := Lib.hid (he.sl.ext he.ext)
  obtain ⟨A, ca, rfl, hlx, hcx, _⟩ := he.sl
  clear he
  by_cases h : s.length ≤ st.at_
  · have HN := Lib.hid (show RX.nxt s st 0 = -1 by unfold RX.nxt; rw [List.getElem?_eq_none (by omega)]; rfl)
    have hd : decide ((s.length : Int) ≤ st.at_) = true := by simp; omega
    go_enter Try.func37, Try.ntmps37
    go_wp2_with fail
    go_quiet (fail)
    go_wp2_with fail
    go_ret
    exact ⟨ret_congr (by rw [HN.out]; rfl), (Ext.refl _).drewN _⟩
  · obtain ⟨b, o, rfl, hc⟩ := HS.out.at_ (k := st.at_) (by omega)
    have HN := Lib.hid (show RX.nxt s st 0 = s[st.at_] by unfold RX.nxt; rw [List.getElem?_eq_getElem (show st.at_ + 0 < s.length by omega)]; rfl)
    generalize s[st.at_] = x at HN hc
    have hd : decide ((s.length : Int) ≤ st.at_) = false := by simp; omega
    have h1 : st.at_ < s.length := by omega
    have h1i : (st.at_ : Int) < (s.length : Int) := by omega
    go_enter Try.func37, Try.ntmps37
    go_wp2_with fail
    go_quiet (fail)
    go_wp2_with fail
    go_quiet (fail)
    go_wp2_with fail
    go_ret
    refine ⟨ret_congr (by rw [HN.out]; rfl), ?_⟩
    first | exact (Ext.refl _).drewN _ | exact ((Ext.refl _).drewN _).drewN _
theorem qok_any (w : World) (st : RX.St) (he : Qn w0 rb sv s w st) :
    Calls Try.prog 28 #[.pointer (some ⟨rb, 0, none⟩)] w (RetE (.bool st.ok) w) := by
  have c4 := he.blk.c4
  clear he
  go_enter Try.func28, Try.ntmps28
  go_wp2_with fail
  go_ret
  exact ⟨rfl, Ext.refl _⟩
theorem qbad_any (w : World) (st : RX.St) (c b : Int) (he : Qn w0 rb sv s w st) :
    Calls Try.prog 29 #[.pointer (some ⟨rb, 0, none⟩), .int .i64 c, .int .i64 b] w (QV (.tuple #[]) rb sv w (st.fail c b)) := by
  have c4 := he.blk.c4
  have c5 := he.blk.c5
  have f4 := he.blk.fr 4
  have f5 := he.blk.fr 5
  have HR := Lib.hid he.blk
  clear he
  by_cases h : st.code = 0
  · have HF := Lib.hid (show st.fail c b = { st with code := c, bat := b } by simp [RX.St.fail, h])
    have hb : (st.code == 0) = true := by simp [h]
    clear h
    go_enter Try.func29, Try.ntmps29
    go_wp2_with fail
    go_end0
    refine ⟨rfl, ?_, ?_⟩
    · rw [HF.out]; exact HR.out.set45 c b
    · exact ((Only.refl w rb).set _).set _
  · have HF := Lib.hid (show st.fail c b = st by simp [RX.St.fail, h])
    have hb : (st.code == 0) = false := by simpa using h
    clear h
    go_enter Try.func29, Try.ntmps29
    go_wp2_with fail
    go_end0
    refine ⟨rfl, ?_, Only.refl w rb⟩
    rw [HF.out]; exact HR.out
end
section
variable {α : Type} {P : Program} {w : World} {ops : Array Oper} {rest : List Oper} {o : Oper} {a : Act} {Q : Exit → Act → World → Prop}
/-- As app_one: the row stays where it is, or lies in a new block. -/
theorem app_oneF {t te sz bytes : Nat} {z : Value} (ht : P.underlying t = some (.slice te)) (hinf : (P.info? te).map (fun i => (i.zero, i.size, i.bytes)) = some (some z, sz, bytes)) (hzs : z.cells.size = sz) (hsz : 0 < sz) (hby : bytes ≤ 1000)
    {T : List TypeId} {C : World → List Value → α → Prop} (hC : Keeps T C) (hT : te ∉ T)
    (hgd : o.guard = none) (s x : Operand) (ho : o.op = .call { callee := .builtin .append, args := #[s, x], argTypes := #[t, t] })
    (B : Nat) (v : Value) (xs : List α) (y : α) (cs : List Value) (tb : TypeId) (hown : OwnB te sz C B w v xs) (hne : 0 < xs.length) (hy : C w cs y) (hcs : cs.length = sz) (h1 : ∀ u ∈ cs, u.oneCell' = true)
    (hs : a.eval s = v) (nb : Nat) (hx : a.eval x = .slice (some ⟨nb, 0, none⟩) 1 1) (hnb : nb = w.heap.size) (hn : xs.length ≤ 1000000) (hB : B ≤ w.heap.size)
    (h : ∀ v' w', OwnB te sz C B w' v' (xs ++ [y]) → (w.alloc (.cells cs.toArray tb)).grownBy w' v.ownBlock → (v'.ownBlock = v.ownBlock ∨ v'.ownBlock = some (w.heap.size + 1)) → wpList P ops Q rest (a.put o.dst v') w') :
    wpList P ops Q (o :: rest) a (w.alloc (.cells cs.toArray tb)) := by
  subst hnb
  obtain ⟨i0, hi, hz0, hz1, hz2⟩ := info_parts hinf
  obtain ⟨flat, hr, h2⟩ := hown
  have hr' := World.ownsRow.alloc hr (.cells cs.toArray tb)
  have hm : xs.length + 1 ≤ maxLen := by unfold maxLen; omega
  have hbb : (xs.length + 1) * bytes ≤ 140737488355328 := Nat.le_trans (Nat.mul_le_mul (show xs.length + 1 ≤ 1000001 by omega) hby) (by omega)
  obtain ⟨v', w', hrun, h3, h4, -⟩ := run_append_own (P := P) (w.alloc (.cells cs.toArray tb)) B t o.type te i0 z sz bytes ht hi hz0 hz1 hz2 hzs hsz v xs.length flat hr' ⟨w.heap.size, 0, none⟩ 1 1 cs (by omega) (news_all _ _ _) h1 hm hbb (by simp; omega)
  have h5 : v'.ownBlock = v.ownBlock ∨ v'.ownBlock = some (w.heap.size + 1) := by
    rcases hr'.2 with ⟨-, h0⟩ | ⟨g, cap, cur, rfl, hbg, hg, hnc, hcm, hcs2, htake⟩
    · omega
    · by_cases hroom : xs.length + 1 ≤ cap
      · have hfit : xs.length * i0.size + cs.length ≤ cur.size := by rw [hz1, hcs, hcs2]; have := Nat.mul_le_mul_right sz hroom; rw [Nat.add_mul] at this; omega
        have hr2 := run_append_room (P := P) (w.alloc (.cells cs.toArray tb)) t o.type te i0 ht hi g xs.length cap cur hg ⟨w.heap.size, 0, none⟩ 1 1 cs (by rw [hz1]; omega) (news_all _ _ _) h1 hroom hfit
        rw [hrun] at hr2
        injection hr2 with e1 _
        left; rw [e1]; rfl
      · have holds : ∀ j u, flat[j]? = some u → (w.alloc (.cells cs.toArray tb)).cell? ((⟨g, 0, none⟩ : Addr).add j) = some u := hr'.cells (g := g) rfl
        have hr2 := run_append_grow (P := P) (w.alloc (.cells cs.toArray tb)) t o.type te i0 z ht hi hz0 ⟨g, 0, none⟩ xs.length cap flat (by rw [hz1]; exact hr.1) holds ⟨w.heap.size, 0, none⟩ 1 1 cs (by rw [hz1]; omega) (news_all _ _ _) (by unfold maxLen at hm; omega) (by omega) (growslice_fits (by omega) (by rw [hz2]; exact hbb))
        rw [hrun] at hr2
        injection hr2 with e1 _
        right; rw [e1]
        simp [Value.ownBlock]
  refine wpList_plain hgd fun _ hK => ?_
  unfold Oper.wp execOp
  simp only [ho, resolve, invoke, builtin, Sem.run_bind, Sem.run_pure, Result.andThen_ok, List.map_toArray, List.map_cons, List.map_nil, hs, hx, hrun]
  refine hK _ _ (h v' w' (OwnB.snoc h2 hr.1 hC ?_ hy hcs h3) h4 h5)
  refine (KeepT.of_ext ((Ext.refl w).alloc _)).trans (KeepT.of_grown h4 (fun g hg => ?_))
  obtain ⟨cur, hh⟩ := own_type hr g hg
  exact ⟨cur, te, ((Ext.refl w).alloc _).heap hh, hT⟩
end
theorem grown_cell {w w' : World} {row : Option Nat} (h : w.grownBy w' row) {a : Addr} {v : Value} (hc : w.cell? a = some v) (hne : row ≠ some a.block) : w'.cell? a = some v := World.grownBy.cell h hc (fun e => hne e.symm)
theorem qlower_any (B base b2 : Nat) (l more : List RX.ReN) (vl vm : Value) (w : World) (hl : OwnRe B base w vl l) (hm : SlRe B b2 w vm more) (hne : 0 < l.length) (hdis : ∀ g o n c, vm = .slice (some ⟨g, o, none⟩) n c → vl.ownBlock ≠ some g) (hb : base ≤ w.heap.size)
    (hn : l.length + more.length ≤ 100000) (hd : ∀ x ∈ more, 0 ≤ x.deep ∧ x.deep ≤ 1000) :
    Calls Try.prog 38 #[vl, vm] w (fun e w' => ∃ v', e = .returned v' ∧ OwnRe B base w' v' (l ++ more.map RX.ReN.down) ∧ w.grownBy w' vl.ownBlock) := by
  have HL := Lib.hid hl
  have HM := Lib.hid hm
  have HD := Lib.hid hd
  have HDIS := Lib.hid hdis
  have HTY := Lib.hid hl.type
  have HLT := Lib.hid hl.lt
  obtain ⟨Am, cm, rfl, hlm, hcm⟩ := hm.form
  obtain ⟨Al, cl, rfl, hll, hcl⟩ := hl.form
  obtain ⟨ob, hob⟩ : ∃ ob, (Value.slice Al l.length cl).ownBlock = ob := ⟨_, rfl⟩
  have HOB := Lib.hid hob
  have HLN := Lib.hid (And.intro hne hn)
  clear hl hm hd hdis hob hne hn
  go_enter Try.func38, Try.ntmps38
  go_wp2_with fail
  go_loopw [0, 5] (fun v i wr => ∃ q : Nat, q ≤ more.length ∧ i = .int .i64 (q : Int) ∧ OwnRe B base wr v (l ++ (more.take q).map RX.ReN.down) ∧ w.grownBy wr ob ∧ (v.ownBlock = ob ∨ ∃ g, v.ownBlock = some g ∧ w.heap.size ≤ g)) (fun _ i _ => more.length - (intOf i).toNat)
  case atStart => exact ⟨0, Nat.zero_le _, rfl, by rw [List.take_zero]; simpa using HL.out, World.grownBy.refl _ _, .inl HOB.out⟩
  case round =>
    obtain ⟨q, hq, rfl, hown, hgr, hfr⟩ := hrel
    by_cases hlt : q < more.length
    rotate_left
    · have hdd : decide ((q : Int) < (more.length : Int)) = false := by simp; omega
      rw [List.take_of_length_le (by omega)] at hown
      have HO := Lib.hid hown
      have HG := Lib.hid hgr
      clear hown hgr hfr
      go_wp2_with fail
      go_ret
      exact ⟨_, rfl, HO.out, by rw [HOB.out]; exact HG.out⟩
    have hdd : decide ((q : Int) < (more.length : Int)) = true := by simp; omega
    have hqi : (q : Int) < (more.length : Int) := by omega
    obtain ⟨g, o, cs, rfl, hcr0, hcell0⟩ := HM.out.at_ hlt
    have hgne : ob ≠ some g := by rw [← HOB.out]; exact HDIS.out g o _ _ rfl
    have hkt : KeepT [21] w wr := KeepT.of_grown hgr (fun g' hg' => by
      obtain ⟨cur, hc⟩ := HTY.out g' (by rw [HOB.out]; exact hg')
      exact ⟨cur, _, hc, by decide⟩)
    have hcr := keeps_re B _ _ _ _ hkt hcr0
    have hcell := fun i u hu => grown_cell hgr (hcell0 i u hu) (by exact hgne)
    have HSn := Lib.hid (take_map_snoc l more q hlt)
    have hdp := HD.out more[q] (List.getElem_mem hlt)
    generalize more[q] = x at hcr HSn hdp
    have hln : (l ++ (more.take q).map RX.ReN.down).length ≤ 1000000 := by
      have := HLN.out.2
      rw [List.length_append, List.length_map, List.length_take]; omega
    have hlp : 0 < (l ++ (more.take q).map RX.ReN.down).length := by
      have := HLN.out.1
      rw [List.length_append]; omega
    generalize l ++ (more.take q).map RX.ReN.down = acc at HSn hown hln hlp
    obtain ⟨acc', hac⟩ : ∃ a, a = l ++ (more.take (q + 1)).map RX.ReN.down := ⟨_, rfl⟩
    rw [← hac] at HSn
    have HAC := Lib.hid hac
    obtain ⟨Ax, cx, rfl⟩ := hcr.cells
    have c0 := hcell 0 _ rfl
    have c1 := hcell 1 _ rfl
    have c2 := hcell 2 _ rfl
    have c3 := hcell 3 _ rfl
    have c4 := hcell 4 _ rfl
    have c5 := hcell 5 _ rfl
    have c6 := hcell 6 _ rfl
    rw [Nat.add_zero] at c0
    obtain ⟨hd0, hd1⟩ := hdp
    have hy := hcr.down
    have hx1 := (Ext.refl wr).alloc (.cells #[.int .i64 x.kind, .int .i64 (x.deep + 1), .int .i64 x.lo, .int .i64 x.hi, .bool x.lazy, .bool x.neg, .slice Ax x.set.length cx] 47)
    have hown2 := hown.keepT (keeps_re B) (KeepT.of_ext hx1) (KeepT.of_ext hx1)
    have hy2 := keeps_re B _ _ _ _ (KeepT.of_ext hx1) hy
    have HY := Lib.hid hy2
    have HOW := Lib.hid hown2
    have HG := Lib.hid hgr
    have HFR := Lib.hid hfr
    have HLT2 := Lib.hid hown.lt
    have hsz : w.heap.size ≤ wr.heap.size := hgr.size
    have hcl2 := World.block_lt_of_cell? _ _ c0
    clear hcr hcr0 hcell hcell0 hown hgr hy hy2 hown2 hac hx1 hfr hkt hgne
    go_wp2_with (at_builtin; go_loud (refine app_oneF Try.underlying36 info_re rfl (by decide) (by decide) (keeps_re B) (by decide) rfl _ _ rfl base _ acc x.down _ _ HOW.out hlp HY.out rfl HY.out.one rfl _ rfl (by simp) hln (Nat.le_trans hb (by simp; omega)) ?_))
    intro v' w' h1 h2 h3
    have hgr2 : w.grownBy w' ob := by
      have h5 := h2
      refine ⟨h5.os.trans HG.out.os, h5.tape.trans HG.out.tape, h5.output.trans HG.out.output, Nat.le_trans hsz (Nat.le_trans (by simp; omega) h5.size), fun i hi hio => ?_⟩
      have h6 := HG.out.block i hi hio
      refine (h5.block i (by simp; omega) ?_).trans ?_
      · intro e
        rcases HFR.out with h7 | ⟨g7, h7, h8⟩
        · rw [h7] at e; exact hio e
        · rw [h7] at e; injection e with e; omega
      · exact (((Ext.refl wr).alloc _).alloc _ |> fun hE => Below.block hE i (by omega)).trans h6
    have hfr2 : v'.ownBlock = ob ∨ ∃ g, v'.ownBlock = some g ∧ w.heap.size ≤ g := by
      rcases h3 with h3 | h3
      · rw [h3]; exact HFR.out
      · exact .inr ⟨_, h3, by first | omega | (simp; omega)⟩
    rw [← HSn.out] at h1
    have HX := Lib.hid (And.intro h1 (And.intro hgr2 hfr2))
    clear h1 h2 h3 hgr2 hfr2
    go_wp2_with fail
    go_roundw
    case rel => exact ⟨q + 1, by omega, by go_num, by rw [← HAC.out]; exact HX.out.1, HX.out.2.1, HX.out.2.2⟩
    case measure => simp [intOf]; omega
theorem signs_getQ {b : ByteArray} {k : Nat} (h : k < b.size) : (signs b)[k]? = some (b[k].toNat : Int) := by
  have h2 : k < (signs b).length := by rw [signs_len]; exact h
  rw [List.getElem?_eq_getElem h2]
  simp [signs]; rfl
theorem hasB_any (bs : ByteArray) (c : Int) (w : World) (hs : bs.size ≤ 1000) : Calls Try.prog 54 #[.string bs, .int .i32 c] w (fun e w' => e = .returned (.bool (decide (c ∈ signs bs))) ∧ w = w') := by
  go_enter Try.func54, Try.ntmps54
  go_wp2_with fail
  go_loop [5] (fun i => ∃ k : Nat, k ≤ bs.size ∧ i = .int .i64 k ∧ ∀ j, j < k → (signs bs)[j]? ≠ some c) (fun i => bs.size - (intOf i).toNat)
  case atStart => exact ⟨0, Nat.zero_le _, rfl, by intro j hj; omega⟩
  case round =>
    obtain ⟨k, hk, rfl, hpre⟩ := hrel
    have HP := Lib.hid hpre
    clear hpre
    by_cases hlt : k < bs.size
    · have hg := signs_getQ hlt
      have hw := wrap_byte bs[k]
      by_cases he : (bs[k].toNat : Int) = c
      · have hb : (wrap32 (bs[k].toNat : Int) == c) = true := by rw [hw, he]; simp
        have hb2 : ((bs[k].toNat : Int) == c) = true := by rw [he]; simp
        have HM := Lib.hid (show decide (c ∈ signs bs) = true from decide_eq_true (List.mem_of_getElem? (by rw [hg, he])))
        clear he hg hw
        go_wp2_with fail
        go_ret
        exact ⟨by rw [HM.out]; rfl, rfl⟩
      · have hb : (wrap32 (bs[k].toNat : Int) == c) = false := by rw [hw]; simpa using he
        have hb2 : ((bs[k].toNat : Int) == c) = false := by simpa using he
        have HE := Lib.hid (show ∀ j, j < k + 1 → (signs bs)[j]? ≠ some c by
          intro j hj
          rcases Nat.lt_succ_iff_lt_or_eq.1 hj with h | rfl
          · exact HP.out j h
          · rw [hg]; intro e; injection e with e; exact he e)
        clear he hg hw
        go_wp2_with fail
        go_round
        case rel => exact ⟨k + 1, by omega, by go_num, HE.out⟩
        case measure => simp [intOf]; omega
    · have HM := Lib.hid (show decide (c ∈ signs bs) = false from decide_eq_false (by
        intro hm
        obtain ⟨j, hj, e⟩ := List.mem_iff_getElem.1 hm
        exact HP.out j (by rw [signs_len] at hj; omega) (by rw [List.getElem?_eq_getElem hj, e])))
      go_wp2_with fail
      go_ret
      exact ⟨by rw [HM.out]; rfl, rfl⟩
theorem hasq_any (r : Int) (w : World) : Calls Try.prog 54 #[.string { data := #[42, 43, 63, 123] }, .int .i32 r] w (RetE (.bool (decide (r = 42 ∨ r = 43 ∨ r = 63 ∨ r = 123))) w) := by
  refine (hasB_any ⟨#[42, 43, 63, 123]⟩ r w (by decide)).mono ?_
  rintro e w' ⟨rfl, rfl⟩
  refine ⟨ret_congr ?_, Ext.refl _⟩
  have e : signs ⟨#[42, 43, 63, 123]⟩ = [42, 43, 63, 123] := by decide
  rw [e]
  simp
theorem Qn.bump1 {w0 w : World} {rb : Nat} {sv : Value} {s : List Int} {st : RX.St} (h : Qn w0 rb sv s w st) : Qn w0 rb sv s (w.setCell ⟨rb, 1, none⟩ (.int .i64 ((st.at_ : Int) + 1))) (st.bump 1) := h.bump 1
namespace RX
/-- What stands behind a backslash: its ranges; is it all but these (none, and true: it is wrong)? -/
def behindM (c : Int) : List Int × Bool := match sortR c with
  | some l => (l, false)
  | none => match sortR (lower c) with
    | some l => (l, true)
    | none => match signR c with
      | some x => ([x, x], false)
      | none => ([], true)
theorem lower_six {c : Int} (h : c ≠ 100 ∧ c ≠ 119 ∧ c ≠ 115 ∧ c ≠ 68 ∧ c ≠ 87 ∧ c ≠ 83) : lower c ≠ 100 ∧ lower c ≠ 119 ∧ lower c ≠ 115 := by
  unfold lower
  split
  · rename_i hc
    rcases hc with hc | ⟨hc, -⟩ <;> (have := within_iff.1 hc; omega)
  · omega
theorem sort_six {c : Int} (h : c ≠ 100 ∧ c ≠ 119 ∧ c ≠ 115) : sortR c = none := by
  unfold sortR
  rw [if_neg h.1, if_neg h.2.1, if_neg h.2.2]
theorem behind_else {c : Int} (h : c ≠ 100 ∧ c ≠ 119 ∧ c ≠ 115 ∧ c ≠ 68 ∧ c ≠ 87 ∧ c ≠ 83) : behindM c = match signR c with
    | some x => ([x, x], false)
    | none => ([], true) := by
  unfold behindM
  rw [sort_six ⟨h.1, h.2.1, h.2.2.1⟩]
  simp only
  rw [sort_six (lower_six h)]
end RX
section
variable {w0 : World} {rb : Nat} {sv : Value} {s : List Int}
theorem qdigit_any (w1 : World) (st : RX.St) (he : Qn w0 rb sv s w1 st) (ha1 : st.at_ ≤ 1000) :
    Calls Try.prog 55 #[.pointer (some ⟨rb, 0, none⟩)] w1 (QV (.int .i64 (RX.must s st).1) rb sv w1 (RX.must s st).2) := by
  have HQ1 := Lib.hid he
  have HO1 := Lib.hid (Only.refl w1 rb)
  obtain ⟨c, hc⟩ : ∃ c, RX.nxt s st 0 = c := ⟨_, rfl⟩
  have HN := Lib.hid hc
  clear he
  by_cases hd : 48 ≤ c ∧ c ≤ 57
  · have HW := Lib.hid (show RX.within c 48 57 = true from within_iff.2 hd)
    have hm : RX.must s st = (c - 48, st.bump 1) := by
      unfold RX.must RX.digit
      rw [hc, if_neg (by rw [if_neg (by omega)]; omega), if_neg (by omega)]
    rw [hm]
    obtain ⟨h48, h57⟩ := hd
    clear hm hc
    go_enter Try.func55, Try.ntmps55
    go_upto_region 5 with (first
      | (go_at_call 37; go_loud (refine (qnext_any _ _ HQ1.out).mono ?_; rw [show RX.nxt s st 0 = c from HN.out]; rintro e w2 ⟨rfl, hx⟩; have HQ2 := Lib.hid (Qn.ex HQ1.out hx); have HO2 := Lib.hid (Only.trans HO1.out (Only.of_ext hx rb)); have HE2 := Lib.hid hx; clear hx))
      | (go_at_call 66; go_loud (refine (rdigQ_any c _).mono ?_; rw [HW.out]; rintro e w3 ⟨rfl, rfl⟩)))
    have c1 := HQ2.out.blk.c1
    have f1 := HQ2.out.blk.fr 1
    go_wp2_with fail
    go_ret
    exact ⟨rfl, (Qn.bump1 HQ2.out).blk, HO2.out.trans ((Only.refl _ _).set _)⟩
  · have HW := Lib.hid (show RX.within c 48 57 = false from Bool.eq_false_iff.2 (fun h => hd (within_iff.1 h)))
    have hm : RX.must s st = (0, st.fail 5 st.at_) := by
      unfold RX.must RX.digit
      rw [hc, if_pos (by split <;> omega)]
    rw [hm]
    clear hm hc hd
    go_enter Try.func55, Try.ntmps55
    go_upto_region 3 with (first
      | (go_at_call 37; go_loud (refine (qnext_any _ _ HQ1.out).mono ?_; rw [show RX.nxt s st 0 = c from HN.out]; rintro e w2 ⟨rfl, hx⟩; have HQ2 := Lib.hid (Qn.ex HQ1.out hx); have HO2 := Lib.hid (Only.trans HO1.out (Only.of_ext hx rb)); have HE2 := Lib.hid hx; clear hx))
      | (go_at_call 66; go_loud (refine (rdigQ_any c _).mono ?_; rw [HW.out]; rintro e w3 ⟨rfl, rfl⟩)))
    have c1 := HQ2.out.blk.c1
    go_wp2_with (go_at_call 29; go_loud (refine (qbad_any _ _ 5 (st.at_ : Int) HQ2.out).mono ?_; rintro e w4 ⟨rfl, hq, ho⟩; have HQ4 := Lib.hid (Qn.step HQ2.out ho hq); have HO4 := Lib.hid (Only.trans HO2.out ho); have HP4 := Lib.hid ho; clear hq ho))
    go_ret
    exact ⟨rfl, HQ4.out.blk, HO4.out⟩
/-- What behind returns. -/
def BeP (c : Int) (rb : Nat) (sv : Value) (w : World) (st' : RX.St) (e : Ending) (w' : World) : Prop :=
  ∃ v, e = .returned (.tuple #[v, .bool (RX.behindM c).2]) ∧ SlB 21 1 Cc w.heap.size w' v (RX.behindM c).1 ∧ QS rb sv w' st' ∧ Only w w' rb
theorem BeP.lit {c : Int} {w w' : World} {st' : RX.St} (l : List Int) (b : Bool) (h : RX.behindM c = (l, b)) (hl : l.length ≤ 1000) (hq : QS rb sv w' st') (ho : Only w w' rb) (n : Nat) (hn : n = l.length) :
    BeP c rb sv w st' (.returned (.tuple #[.slice (some ⟨w'.heap.size, 0, none⟩) n n, .bool b])) (w'.alloc (.cells (l.map (Value.int .i32)).toArray 21)) := by
  refine ⟨_, by rw [h], ?_, ((Ext.refl w').alloc _).heap hq, ho.alloc _⟩
  rw [h]
  exact c_lit w' l _ _ rfl hn ho.size hl
theorem BeP.none_ {c : Int} {w w' : World} {st' : RX.St} (h : RX.behindM c = ([], true)) (hq : QS rb sv w' st') (ho : Only w w' rb) : BeP c rb sv w st' (.returned (.tuple #[.slice none 0 0, .bool true])) w' := by
  refine ⟨_, by rw [h], ?_, hq, ho⟩
  rw [h]
  exact SlB.nil_
theorem qbehind_any (w1 : World) (st : RX.St) (he : Qn w0 rb sv s w1 st) (ha1 : st.at_ ≤ 1000) :
    Calls Try.prog 53 #[.pointer (some ⟨rb, 0, none⟩)] w1 (BeP (RX.nxt s (st.bump 1) 0) rb sv w1 (st.bump 2)) := by
  have HQ1 := Lib.hid he
  have HO1 := Lib.hid (Only.refl w1 rb)
  obtain ⟨c, hc⟩ : ∃ c, RX.nxt s (st.bump 1) 0 = c := ⟨_, rfl⟩
  obtain ⟨low, hlow⟩ : ∃ x, RX.lower c = x := ⟨_, rfl⟩
  have hcn : c = -1 ∨ 0 ≤ c := by
    rw [← hc]
    unfold RX.nxt
    rcases hx : s[(st.bump 1).at_ + 0]? with _ | x
    · exact .inl rfl
    · exact .inr (he.pos x (List.mem_of_getElem? hx))
  have HLOW := Lib.hid hlow
  rw [hc]
  have HC := Lib.hid hc
  clear he hc hlow
  go_enter Try.func53, Try.ntmps53
  have c1 := HQ1.out.blk.c1
  have f1 := HQ1.out.blk.fr 1
  go_upto_region 2 with fail
  have HQ2 := Lib.hid (Qn.bump1 HQ1.out)
  have HO2 := Lib.hid (Only.trans HO1.out ((Only.refl w1 rb).set (o := 1) (.int .i64 ((st.at_ : Int) + 1))))
  generalize w1.setCell _ _ = w2 at HQ2 HO2 ⊢
  obtain ⟨st2, hst⟩ : ∃ x, RX.St.bump st 1 = x := ⟨_, rfl⟩
  have ha2 : st2.at_ ≤ 1001 := by rw [← hst]; show st.at_ + 1 ≤ _; omega
  rw [hst] at HQ2
  have HST2 := Lib.hid hst
  clear c1 f1 hst HQ1 HO1
  have HN := Lib.hid (show RX.nxt s st2 0 = c by rw [← HST2.out]; exact HC.out)
  go_upto_region 4 with (first
    | (go_at_call 37; go_loud (refine (qnext_any _ _ HQ2.out).mono ?_; rw [show RX.nxt s st2 0 = c from HN.out]; rintro e w3 ⟨rfl, hx⟩; have HQ3 := Lib.hid (Qn.ex HQ2.out hx); have HO3 := Lib.hid (Only.trans HO2.out (Only.of_ext hx rb)); have HE3 := Lib.hid hx; clear hx))
    | (go_at_call 64; go_loud (refine (rlower_any c _).mono ?_; rw [HLOW.out]; rintro e wz ⟨rfl, n, rfl⟩; have HQ4 := Lib.hid (Qn.ex HQ3.out ((Ext.refl _).drewN n)); have HO4 := Lib.hid (Only.trans HO3.out ((Only.refl _ _).drewN n)))))
  generalize w3.drewN _ = w4 at HQ4 HO4 ⊢
  have c1 := HQ4.out.blk.c1
  have f1 := HQ4.out.blk.fr 1
  go_upto_region 6 with fail
  have HQ5 := Lib.hid (Qn.bump1 HQ4.out)
  have HO5 := Lib.hid (Only.trans HO4.out ((Only.refl w4 rb).set (o := 1) (.int .i64 ((st2.at_ : Int) + 1))))
  generalize w4.setCell _ _ = w5 at HQ5 HO5 ⊢
  obtain ⟨st5, hst⟩ : ∃ x, RX.St.bump st2 1 = x := ⟨_, rfl⟩
  have ha5 : st5.at_ ≤ 1002 := by rw [← hst]; show st2.at_ + 1 ≤ _; omega
  rw [hst] at HQ5
  have HST5 := Lib.hid hst
  clear c1 f1 hst HQ4 HO4
  have HS := Lib.hid (show st5 = st.bump 2 by rw [← HST5.out, ← HST2.out]; rfl)
  rw [HS.out] at HQ5
  have HCL := Lib.hid (fun w => rclassQ_any c w)
  by_cases h100 : c = 100
  · subst h100
    obtain rfl : low = RX.lower 100 := HLOW.out.symm
    have hl : RX.lower 100 = 100 := by decide
    rw [hl]
    clear hl HLOW
    go_wp2_with fail
    go_ret2
    exact BeP.lit (c := 100) [48, 57] false (by decide) (by decide) HQ5.out.blk HO5.out _ rfl
  by_cases h68 : c = 68
  · subst h68
    obtain rfl : low = RX.lower 68 := HLOW.out.symm
    have hl : RX.lower 68 = 100 := by decide
    rw [hl]
    clear hl HLOW
    go_wp2_with fail
    go_ret2
    exact BeP.lit (c := 68) [48, 57] true (by decide) (by decide) HQ5.out.blk HO5.out _ rfl
  by_cases h119 : c = 119
  · subst h119
    obtain rfl : low = RX.lower 119 := HLOW.out.symm
    have hl : RX.lower 119 = 119 := by decide
    rw [hl]
    clear hl HLOW
    go_wp2_with fail
    go_ret2
    exact BeP.lit (c := 119) [97, 122, 65, 90, 48, 57, 95, 95] false (by decide) (by decide) HQ5.out.blk HO5.out _ rfl
  by_cases h87 : c = 87
  · subst h87
    obtain rfl : low = RX.lower 87 := HLOW.out.symm
    have hl : RX.lower 87 = 119 := by decide
    rw [hl]
    clear hl HLOW
    go_wp2_with fail
    go_ret2
    exact BeP.lit (c := 87) [97, 122, 65, 90, 48, 57, 95, 95] true (by decide) (by decide) HQ5.out.blk HO5.out _ rfl
  by_cases h115 : c = 115
  · subst h115
    obtain rfl : low = RX.lower 115 := HLOW.out.symm
    have hl : RX.lower 115 = 115 := by decide
    rw [hl]
    clear hl HLOW
    go_wp2_with fail
    go_ret2
    exact BeP.lit (c := 115) [32, 32, 9, 9, 10, 10] false (by decide) (by decide) HQ5.out.blk HO5.out _ rfl
  by_cases h83 : c = 83
  · subst h83
    obtain rfl : low = RX.lower 83 := HLOW.out.symm
    have hl : RX.lower 83 = 115 := by decide
    rw [hl]
    clear hl HLOW
    go_wp2_with fail
    go_ret2
    exact BeP.lit (c := 83) [32, 32, 9, 9, 10, 10] true (by decide) (by decide) HQ5.out.blk HO5.out _ rfl
  by_cases h110 : c = 110
  · subst h110
    obtain rfl : low = RX.lower 110 := HLOW.out.symm
    have hl : RX.lower 110 = 110 := by decide
    rw [hl]
    clear hl HLOW
    go_wp2_with fail
    go_ret2
    exact BeP.lit (c := 110) [10, 10] false (by decide) (by decide) HQ5.out.blk HO5.out _ rfl
  by_cases h116 : c = 116
  · subst h116
    obtain rfl : low = RX.lower 116 := HLOW.out.symm
    have hl : RX.lower 116 = 116 := by decide
    rw [hl]
    clear hl HLOW
    go_wp2_with fail
    go_ret2
    exact BeP.lit (c := 116) [9, 9] false (by decide) (by decide) HQ5.out.blk HO5.out _ rfl
  have hlw := RX.lower_six (c := c) ⟨h100, h119, h115, h68, h87, h83⟩
  rw [HLOW.out] at hlw
  have hel := RX.behind_else (c := c) ⟨h100, h119, h115, h68, h87, h83⟩
  have b100 : (low == 100) = false := by simpa using hlw.1
  have b119 : (low == 119) = false := by simpa using hlw.2.1
  have b115 : (low == 115) = false := by simpa using hlw.2.2
  have b110 : (c == 110) = false := by simpa using h110
  have b116 : (c == 116) = false := by simpa using h116
  rcases hcn with rfl | hcn
  · have HB := Lib.hid (show RX.behindM (-1) = ([], true) by decide)
    clear hel hlw
    go_wp2_with fail
    go_ret2
    exact BeP.none_ HB.out HQ5.out.blk HO5.out
  have hneg : decide (c < 0) = false := decide_eq_false (by omega)
  have hc1 : c ≠ -1 := by omega
  by_cases h4 : RX.classOf c = 4
  · have HB := Lib.hid (show RX.behindM c = ([c, c], false) by rw [hel]; unfold RX.signR; rw [if_neg h110, if_neg h116, if_neg hc1, if_pos (.inl h4)])
    have H4 := Lib.hid h4
    clear hel hlw h4
    go_wp2_with (go_at_call 65; go_loud (refine (HCL.out _).mono ?_; rw [H4.out]; rintro e w6 ⟨rfl, rfl⟩))
    go_ret2
    exact BeP.lit [c, c] false HB.out (by simp) HQ5.out.blk HO5.out _ rfl
  obtain ⟨z, hz⟩ : ∃ z, RX.classOf c = z := ⟨_, rfl⟩
  have HZ := Lib.hid hz
  rw [hz] at h4
  have bz4 : (z == 4) = false := by simpa using h4
  by_cases h1 : z = 1
  · have HB := Lib.hid (show RX.behindM c = ([c, c], false) by rw [hel]; unfold RX.signR; rw [if_neg h110, if_neg h116, if_neg hc1, if_pos (.inr (hz.trans h1))])
    have bz1 : (z == 1) = true := by simpa using h1
    clear hel hlw h4 hz h1
    go_wp2_with (go_at_call 65; go_loud (refine (HCL.out _).mono ?_; rw [HZ.out]; rintro e w6 ⟨rfl, rfl⟩))
    go_ret2
    exact BeP.lit [c, c] false HB.out (by simp) HQ5.out.blk HO5.out _ rfl
  · have HB := Lib.hid (show RX.behindM c = ([], true) by rw [hel]; unfold RX.signR; rw [if_neg h110, if_neg h116, if_neg hc1, if_neg (by rw [hz]; omega)])
    have bz1 : (z == 1) = false := by simpa using h1
    clear hel hlw h4 hz h1
    go_wp2_with (go_at_call 65; go_loud (refine (HCL.out _).mono ?_; rw [HZ.out]; rintro e w6 ⟨rfl, rfl⟩))
    go_ret2
    exact BeP.none_ HB.out HQ5.out.blk HO5.out
end
theorem same_any (va vb : Value) (xs ys : List Int) (w : World) (hx : SlC w va xs) (hy : SlC w vb ys) :
    Calls Try.prog 30 #[va, vb] w (Ret (.bool (decide (xs = ys))) w) := by
  have HX := Lib.hid hx
  have HY := Lib.hid hy
  obtain ⟨A, ca, rfl, hlx, hcx, _⟩ := hx
  obtain ⟨B, cb, rfl, hly, hcy, _⟩ := hy
  by_cases hl : xs.length = ys.length
  · have hb1 : ((xs.length : Int) != ys.length) = false := by simp [hl]
    have HL := Lib.hid hl
    clear hl
    go_enter Try.func30, Try.ntmps30
    go_wp2_with fail
    go_loopw [5] (fun i wr => ∃ k : Nat, k ≤ xs.length ∧ i = .int .i64 k ∧ (∀ j, j < k → xs[j]? = ys[j]?) ∧ Ext w wr) (fun i _ => xs.length - (intOf i).toNat)
    case atStart => exact ⟨0, Nat.zero_le _, rfl, by intro j hj; omega, Ext.refl w⟩
    case round =>
      obtain ⟨k, hk, rfl, hpre, hE⟩ := hrel
      have HP := Lib.hid hpre
      clear hpre
      by_cases hlt : k < xs.length
      · have hlt2 : k < ys.length := by have := HL.out; omega
        obtain ⟨b, o, rfl, hc⟩ := (HX.out.ext hE).at_ hlt
        obtain ⟨b', o', rfl, hc'⟩ := (HY.out.ext hE).at_ hlt2
        by_cases he : xs[k] = ys[k]
        · have hb2 : (xs[k] != ys[k]) = false := by simp [he]
          have HE := Lib.hid he
          clear he
          go_wp2_with fail
          go_quiet (fail)
          go_wp2_with fail
          go_roundw
          case rel => exact ⟨k + 1, by omega, by go_num, by intro j hj; rcases Nat.lt_succ_iff_lt_or_eq.1 hj with h | rfl; exact HP.out j h; rw [List.getElem?_eq_getElem hlt, List.getElem?_eq_getElem hlt2, HE.out], hE.drewN _⟩
          case measure => simp [intOf]; omega
        · have hb2 : (xs[k] != ys[k]) = true := by simp [he]
          have hf : decide (xs = ys) = false := decide_eq_false (fun h => he (by subst h; rfl))
          have HF := Lib.hid hf
          clear hf
          go_wp2_with fail
          go_quiet (fail)
          go_wp2_with fail
          go_ret
          exact ⟨by rw [HF.out]; rfl, hE.drewN _⟩
      · have hf : decide (xs = ys) = true := decide_eq_true (List.ext_getElem? fun j => by
          rcases Nat.lt_or_ge j k with h | h
          · exact HP.out j h
          · rw [List.getElem?_eq_none (by omega), List.getElem?_eq_none (by have := HL.out; omega)])
        have HF := Lib.hid hf
        clear hf
        go_wp2_with fail
        go_ret
        exact ⟨by rw [HF.out]; rfl, hE⟩
  · have hb1 : ((xs.length : Int) != ys.length) = true := by simp; omega
    have hf : decide (xs = ys) = false := decide_eq_false (fun h => hl (by rw [h]))
    have HF := Lib.hid hf
    clear hf hl
    go_enter Try.func30, Try.ntmps30
    go_wp2_with fail
    go_ret
    exact ⟨by rw [HF.out]; rfl, Ext.refl _⟩
theorem heap_nS {w : World} {g h o : Nat} {u : Value} (hne : g ≠ h) : (w.setCell ⟨h, o, none⟩ u).heap[g]? = w.heap[g]? := Below.heap_setCell w ⟨h, o, none⟩ u g hne
/-- Outside of the blocks from B to below T all is as it was. -/
structure Rng (B T : Nat) (w w' : World) : Prop where
  os : w'.os = w.os
  tape : w'.tape = w.tape
  output : w'.output = w.output
  size : w.heap.size ≤ w'.heap.size
  out : ∀ i, i < w.heap.size → ¬ (B ≤ i ∧ i < T) → w'.heap[i]? = w.heap[i]?
theorem Rng.refl (B T : Nat) (w : World) : Rng B T w w := ⟨rfl, rfl, rfl, Nat.le_refl _, fun _ _ _ => rfl⟩
theorem Rng.trans {B T : Nat} {a b c : World} (h : Rng B T a b) (k : Rng B T b c) : Rng B T a c :=
  ⟨k.os.trans h.os, k.tape.trans h.tape, k.output.trans h.output, Nat.le_trans h.size k.size, fun i hi hn => (k.out i (Nat.lt_of_lt_of_le hi h.size) hn).trans (h.out i hi hn)⟩
theorem Rng.set {B T g o : Nat} (w : World) (u : Value) (hB : B ≤ g) (hT : g < T) : Rng B T w (w.setCell ⟨g, o, none⟩ u) :=
  ⟨rfl, rfl, rfl, by simp, fun i _ hn => heap_nS (by intro e; subst e; exact hn ⟨hB, hT⟩)⟩
theorem Rng.of_ext {B T : Nat} {a b : World} (h : Ext a b) : Rng B T a b := ⟨Below.os h, Below.tape h, Below.output h, Below.size h, fun i hi _ => Below.block h i hi⟩
theorem Rng.ext {B T : Nat} {w0 w w' : World} (h : Ext w0 w) (k : Rng B T w w') (hB : w0.heap.size ≤ B) : Ext w0 w' :=
  ⟨k.os.trans (Below.os h), k.tape.trans (Below.tape h), k.output.trans (Below.output h), Nat.le_trans (Below.size h) k.size, fun i hi => (k.out i (Nat.lt_of_lt_of_le hi (Below.size h)) (by omega)).trans (Below.block h i hi)⟩
theorem Rng.keepB {B T : Nat} {w w' : World} (k : Rng B T w w') : KeepB T w w' := fun g o hg ho => (k.out g (heap_lt ho) (by omega)).trans ho
/-- The same, and rows of signs stay rows of signs, rows of anything else stay as they were. -/
structure Spo (B T : Nat) (w w' : World) : Prop where
  rng : Rng B T w w'
  row : ∀ (g : Nat) (cur : Array Value), w.heap[g]? = some (.cells cur 21 (0, 0)) → ∃ cur', w'.heap[g]? = some (.cells cur' 21 (0, 0)) ∧ cur'.size = cur.size
  oth : ∀ (g : Nat) (cur : Array Value) (t : TypeId), t ≠ 21 → w.heap[g]? = some (.cells cur t (0, 0)) → w'.heap[g]? = some (.cells cur t (0, 0))
theorem Spo.refl (B T : Nat) (w : World) : Spo B T w w := ⟨Rng.refl _ _ _, fun _ cur h => ⟨cur, h, rfl⟩, fun _ _ _ _ h => h⟩
theorem Spo.set {B T g o : Nat} {w a : World} {cur : Array Value} (h : Spo B T w a) (u : Value) (hB : B ≤ g) (hT : g < T) (hg : a.heap[g]? = some (.cells cur 21 (0, 0))) : Spo B T w (a.setCell ⟨g, o, none⟩ u) := by
  refine ⟨h.rng.trans (Rng.set a u hB hT), fun g2 cu hg2 => ?_, fun g2 cu t ht hg2 => ?_⟩
  · obtain ⟨cu2, h1, h2⟩ := h.row g2 cu hg2
    by_cases e : g2 = g
    · subst e
      exact ⟨_, heap_set h1, by simpa using h2⟩
    · exact ⟨cu2, by rw [heap_nS e]; exact h1, h2⟩
  · have h1 := h.oth g2 cu t ht hg2
    have e : g2 ≠ g := by
      intro e
      subst e
      rw [hg] at h1
      injection h1 with h1
      injection h1 with _ h1 _
      exact ht h1.symm
    rw [heap_nS e]; exact h1
theorem Spo.drewN {B T n : Nat} {w a : World} (h : Spo B T w a) : Spo B T w (a.drewN n) := ⟨h.rng.trans (Rng.of_ext ((Ext.refl a).drewN n)), h.row, h.oth⟩
/-- A row of signs that may be written over. -/
def Shp (B T : Nat) (w : World) (v : Value) : Prop :=
  ∃ (A : Option Addr) (n c : Nat), v = .slice A n c ∧ n ≤ c ∧ c ≤ 9223372036854775807 ∧ (A = none → n = 0) ∧ ∀ ad, A = some ad → ∃ g o cur, ad = ⟨g, o, none⟩ ∧ B ≤ g ∧ g < T ∧ w.heap[g]? = some (.cells cur 21 (0, 0)) ∧ o + n ≤ cur.size
theorem Shp.of {B : Nat} {w : World} {v : Value} {xs : List Int} (h : SlB 21 1 Cc B w v xs) : Shp B w.heap.size w v := by
  obtain ⟨A, c, rfl, hl, hc, hn, ha⟩ := h
  refine ⟨A, xs.length, c, rfl, hl, hc, fun e => by have := hn e; omega, fun ad had => ?_⟩
  obtain ⟨g, o, cur, h1, h2, h3, h4, _⟩ := ha ad had
  exact ⟨g, o, cur, h1, h2, heap_lt h3, h3, by omega⟩
theorem Shp.spo {B T : Nat} {w w' : World} {v : Value} (h : Shp B T w v) (hr : ∀ (g : Nat) (cur : Array Value), w.heap[g]? = some (.cells cur 21 (0, 0)) → ∃ cur', w'.heap[g]? = some (.cells cur' 21 (0, 0)) ∧ cur'.size = cur.size) : Shp B T w' v := by
  obtain ⟨A, n, c, rfl, hl, hc, hn, ha⟩ := h
  refine ⟨A, n, c, rfl, hl, hc, hn, fun ad had => ?_⟩
  obtain ⟨g, o, cur, h1, h2, h3, h4, h5⟩ := ha ad had
  obtain ⟨cur', h6, h7⟩ := hr g cur h4
  exact ⟨g, o, cur', h1, h2, h3, h6, by omega⟩
def SpoP (B T : Nat) (w : World) (e : Ending) (w' : World) : Prop := e = .returned (.tuple #[]) ∧ Spo B T w w'
theorem kspoil_any (B T : Nat) (v : Value) (w : World) (h : Shp B T w v) : Calls Try.prog 18 #[v] w (SpoP B T w) := by
  have H := Lib.hid h
  obtain ⟨A, n, c, rfl, hnc, hcm, -⟩ := id h
  clear h
  go_enter Try.func18, Try.ntmps18
  go_wp2_with fail
  go_loopw [2] (fun i wr => ∃ k : Nat, k ≤ n ∧ i = .int .i64 (k : Int) ∧ Spo B T w wr) (fun i _ => n - (intOf i).toNat)
  case atStart => exact ⟨0, Nat.zero_le _, rfl, Spo.refl _ _ _⟩
  case round =>
    obtain ⟨k, hk, rfl, hS⟩ := hrel
    have HS := Lib.hid hS
    by_cases hlt : k < n
    · obtain ⟨A', n', c', hv, hl, _, hn, ha⟩ := H.out.spo hS.row
      injection hv with e1 e2 e3
      subst e1 e2 e3
      cases A with
      | none => have := hn rfl; omega
      | some ad =>
        obtain ⟨g, o, cur, rfl, hB, hT, hg, hs⟩ := ha ad rfl
        have hc := cell_of_row wr g (o + k) _ _ _ hg
        rw [Array.getElem?_eq_getElem (by omega)] at hc
        have hf := frozen_of_row wr g (o + k) _ _ hg
        have HG := Lib.hid (And.intro hB (And.intro hT hg))
        generalize cur[o + k]'(by omega) = u at hc
        clear hB hT hg hS hl hn ha
        go_wp2_with fail
        go_roundw
        case rel => exact ⟨k + 1, by omega, by go_num, HS.out.set _ HG.out.1 HG.out.2.1 HG.out.2.2⟩
        case measure => simp [intOf]; omega
    · clear hS
      go_wp2_with fail
      go_end0
      exact ⟨rfl, HS.out⟩
def LendP (s : List Int) (w : World) (e : Ending) (w' : World) : Prop :=
  Ext w w' ∧ ∃ g c, e = .returned (.slice (some ⟨g, 0, none⟩) s.length c) ∧ s.length + 2 ≤ c ∧ OwnB 21 1 Cc w.heap.size w' (.slice (some ⟨g, 0, none⟩) (s.length + 2) c) (s ++ [-77, -78])
theorem run_sl_hiS {P : Program} {t e : TypeId} {i : TypeInfo} (ht : P.underlying t = some (.slice e)) (hi : P.info? e = some i) (A : Option Addr) {n c m : Nat} (hm : m ≤ c) (W : World) :
    (Instr.slice t (.slice A n c) none (some (.int .i64 (m : Int))) none).run P W = .ok (.slice A m c) W := by
  have h1 : (m : Int) ≤ c := by omega
  simp [Instr.slice, Instr.sliceBounds, run_underlying ht, sizeOf, typeInfo, hi, run_sliceBound, h1]
  intro _
  cases A <;> simp [Addr.add]
theorem SlC.front {w : World} {A : Option Addr} {n c : Nat} {xs ys : List Int} (h : SlC w (.slice A n c) (xs ++ ys)) : SlC w (.slice A xs.length c) xs := by
  obtain ⟨A', c', hv, hl, hc, hk, hn⟩ := h
  injection hv with e1 e2 e3
  subst e1 e3
  rw [List.length_append] at hl
  refine ⟨A, c, rfl, by omega, hc, fun k x hx => hk k x ?_, hn⟩
  rw [List.getElem?_append_left (List.getElem?_eq_some_iff.1 hx).1]; exact hx
theorem lend_any (s : List Int) (vs : Value) (w : World) (hs : SlC w vs s) (hsl : s.length ≤ 35184372088000) : Calls Try.prog 11 #[vs] w (LendP s w) := by
  have H := Lib.hid hs
  obtain ⟨A, ca, rfl, hlx, hcx, -⟩ := id hs
  have HNIL := Lib.hid (show OwnB 21 1 Cc w.heap.size w (.slice none 0 0) ([] : List Int) from OwnB.nil_)
  clear hs
  have tok1 : True := trivial
  go_enter Try.func11, Try.ntmps11
  go_upto_region 2 with (first
    | (at_builtin; have _t := tok1; go_loud (refine app_srcC rfl _ _ rfl w.heap.size (.slice none 0 0) _ [] s HNIL.out rfl rfl H.out ?hn ?hB ?_; (case hn => (simp only [List.length_nil]; omega)); (case hB => exact Nat.le_refl _); intro v6 w6 h1 h2; have hE6 : Ext w w6 := (Ext.refl w).grown h2 (fun k hk => (HNIL.out.lt k hk).1); rw [List.nil_append] at h1; obtain ⟨A6, c6, rfl, -⟩ := h1.form; have HO6 := Lib.hid h1; have HE6 := Lib.hid hE6; clear h1 h2 hE6; clear tok1 _t))
    | (at_builtin; go_loud (refine app_srcC rfl _ _ rfl w.heap.size _ _ s [-77, -78] (OwnB.allocs HO6.out) rfl rfl (SlB.slc (c_lit (B := 0) w6 [-77, -78] _ _ rfl rfl (Nat.zero_le _) (by decide))) ?hn ?hB ?_; (case hn => (simp only [List.length_cons, List.length_nil]; omega)); (case hB => exact Nat.le_trans HE6.out.size (by simp)); intro v7 w7 h1 h2; have hE7 : Ext w w7 := (HE6.out.alloc _).grown h2 (fun k hk => (HO6.out.lt k hk).1); obtain ⟨A7, c7, rfl, hc7, hm7⟩ := h1.form; have HO7 := Lib.hid h1; have HE7 := Lib.hid hE7; clear h1 h2 hE7)))
  have hll : (s ++ [-77, -78]).length = s.length + 2 := by simp
  rw [hll] at hc7 HO7
  obtain ⟨g, rfl, -⟩ := HO7.out.get (k := 0) (by rw [hll]; omega)
  have HC7 := Lib.hid hc7
  obtain ⟨i0, hi0, hz0, hz1, hz2⟩ := info_parts info_c
  have hsl7 := fun W => run_sl_hiS (P := Try.prog) Try.underlying23 hi0 (some ⟨g, 0, none⟩) (n := s.length + 2) (c := c7) (m := s.length) (by omega) W
  clear hll
  go_wp2_with fail
  go_ret
  exact ⟨HE7.out, g, c7, rfl, HC7.out, HO7.out⟩
theorem kept_any (s : List Int) (vs : Value) (b g c : Nat) (w : World) (hs : SlC w vs s) (hx : SlB 21 1 Cc b w (.slice (some ⟨g, 0, none⟩) (s.length + 2) c) (s ++ [-77, -78])) :
    Calls Try.prog 17 #[.slice (some ⟨g, 0, none⟩) s.length c, vs] w (Ret (.bool true) w) := by
  obtain ⟨A', c', hv, hlc, hcm, -⟩ := id hx
  have hll : (s ++ [-77, -78]).length = s.length + 2 := by simp
  have hc2 : s.length + 2 ≤ c := by
    injection hv with e1 e2 e3
    omega
  have hcm2 : c ≤ 9223372036854775807 := by
    injection hv with e1 e2 e3
    omega
  have HSM := Lib.hid (same_any _ vs s s w (SlC.front (SlB.slc hx)) hs)
  have HD := Lib.hid (show decide (s = s) = true by simp)
  have hcell : ∀ j y, (s ++ [-77, -78])[j]? = some y → w.cell? ⟨g, j, none⟩ = some (.int .i32 y) := by
    intro j y hy
    have := SlB.add hx j y hy
    rw [Go.WideShapes.add_plain, Nat.zero_add] at this
    exact this
  have k77 := hcell s.length (-77) (by simp)
  have k78 := hcell (s.length + 1) (-78) (by simp)
  obtain ⟨Av, cv, rfl, hlv, hcv, -⟩ := id hs
  obtain ⟨i0, hi0, hz0, hz1, hz2⟩ := info_parts info_c
  have hsl7 := fun W => run_sl_hiS (P := Try.prog) Try.underlying23 hi0 (some ⟨g, 0, none⟩) (n := s.length) (c := c) (m := s.length + 2) (by omega) W
  simp only [Int.natCast_add, Int.cast_ofNat_Int] at hsl7
  clear hs hx hv hlc hcm hll hcell
  go_enter Try.func17, Try.ntmps17
  go_wp2_with (go_at_call 30; go_loud (refine HSM.out.mono ?_; rw [HD.out]; rintro e w2 ⟨rfl, hE⟩; replace k77 := hE.cell k77; replace k78 := hE.cell k78; have HE := Lib.hid hE; clear hE))
  go_ret
  exact ⟨rfl, HE.out⟩
end Go.Proofs.Ytpcdknfmgacggaa
