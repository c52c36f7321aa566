/- Walks: slices.IndexFunc, Parse, Groups of package resyn. -/
import Derived.Test.YtfblkahjefdmaaaAlt
import Derived.RegionTactic
namespace Go.Proofs.Ytfblkahjefdmaaa
open Go.RowKit

set_option maxHeartbeats 400000 in
theorem none_any (c : Int) (w : World) : Calls Try.prog 60 #[.int .i32 c] w (RetD (.bool (RX.classOf c == 0)) w) := by
  go_enter Try.func60, Try.ntmps60
  go_wp2_with fail
  refine (class_any _ _).mono ?_
  rintro e w' ⟨rfl, n, rfl⟩
  go_wp2_with fail
  go_ret
  exact ⟨rfl, _, rfl⟩

/-- The first place of a sign that is none; -1: there is no such place. -/
def firstNo (s : List Int) : Int := match s.findIdx? (fun c => RX.classOf c == 0) with | some i => i | none => -1
theorem firstNo_none {s : List Int} (h : ∀ x ∈ s, (RX.classOf x == 0) = false) : firstNo s = -1 := by
  unfold firstNo
  rw [List.findIdx?_eq_none_iff.2 (by intro x hx; simpa using h x hx)]
theorem firstNo_at {s : List Int} {k : Nat} (hk : k < s.length) (h : ∀ j (hj : j < k), (RX.classOf (s[j]'(by omega)) == 0) = false) (h1 : (RX.classOf s[k] == 0) = true) : firstNo s = k := by
  unfold firstNo
  rw [List.findIdx?_eq_some_iff_getElem.2 ⟨hk, h1, fun j hj => by rw [h j hj]; decide⟩]

set_option maxHeartbeats 1000000 in
theorem index_any (s : List Int) (v : Value) (w : World) (hv : SlC w v s) (_hl : s.length ≤ 1000000) : Calls Try.prog 59 #[v, .func (.func 60) #[] #[]] w (RetD (.int .i64 (firstNo s)) w) := by
  obtain ⟨A, c, rfl, hlc, hcm, _⟩ := id hv
  have HV := Lib.hid hv
  clear hv
  go_enter Try.func59, Try.ntmps59
  go_wp2_with fail
  go_loopw [8] (fun i wr => ∃ k n : Nat, k ≤ s.length ∧ i = .int .i64 k ∧ wr = w.drewN n ∧ ∀ x ∈ s.take k, (RX.classOf x == 0) = false) (fun i _ => s.length - (intOf i).toNat)
  case atStart => exact ⟨0, 0, Nat.zero_le _, rfl, rfl, by simp⟩
  case round =>
    obtain ⟨k, n, hk, rfl, rfl, hall⟩ := hrel
    have HALL := Lib.hid hall
    clear hall
    by_cases hlt : k < s.length
    · obtain ⟨b, o, rfl, hc⟩ := HV.out.at_ hlt
      obtain ⟨x, hx⟩ : ∃ x, s[k] = x := ⟨_, rfl⟩
      rw [hx] at hc
      have HX := Lib.hid hx
      clear hx
      rcases hz : (RX.classOf x == 0) with _ | _
      · go_wp2_with (go_at_call 60; refine (none_any _ _).mono ?_; rintro e w' ⟨rfl, n2, rfl⟩)
        go_roundw
        case rel =>
          refine ⟨k + 1, _, by omega, by go_num, rfl, fun y hy => ?_⟩
          rw [List.take_succ_eq_append_getElem hlt] at hy
          rcases List.mem_append.1 hy with hy | hy
          · exact HALL.out y hy
          · simp at hy; subst hy; rw [HX.out]; exact hz
        case measure => simp [intOf]; omega
      · go_wp2_with (go_at_call 60; refine (none_any _ _).mono ?_; rintro e w' ⟨rfl, n2, rfl⟩)
        go_ret
        refine ⟨ret_congr ?_, _, rfl⟩
        rw [firstNo_at hlt (fun j hj => HALL.out _ (List.mem_take_iff_getElem.2 ⟨j, by omega, rfl⟩)) (by rw [HX.out]; exact hz)]; rfl
    · have hkl : k = s.length := by omega
      have HK := Lib.hid hkl
      clear hkl
      go_wp2_with fail
      go_ret
      refine ⟨ret_congr ?_, _, rfl⟩
      rw [firstNo_none (by intro x hx; exact HALL.out x (by rw [HK.out, List.take_length]; exact hx))]; rfl

/-- Inside of Parse: the reader behind the fault's cells; the tree. -/
structure Pst (w : World) (nb : Nat) (s : List Int) (sv : Value) (st : RX.St) (vl : Value) (l : List RX.ReN) (wr : World) : Prop where
  env : Env (w.alloc (.cells #[.int .i64 0, .int .i64 0] 36)) (nb + 1) sv s wr st
  ext : Ext w wr
  box : wr.heap[nb]? = some (.cells #[.int .i64 0, .int .i64 0] 36 (0, 0))
  val : SlRe (nb + 2) (nb + 2) wr vl l
  nbs : nb = w.heap.size
section
variable {w wr w' : World} {nb : Nat} {s : List Int} {sv vl vl' : Value} {st st' : RX.St} {l l' : List RX.ReN}
theorem Pst.step (h : Pst w nb s sv st vl l wr) (he : Env (w.alloc (.cells #[.int .i64 0, .int .i64 0] 36)) (nb + 1) sv s w' st') (ho : Only wr w' (nb + 1)) : Pst w nb s sv st' vl l w' :=
  ⟨he, h.ext.only ho (by have := h.nbs; omega), (ho.block nb (heap_lt h.box) (by intro e; injection e with e; omega)).trans h.box, SlB.only h.val (keepsB_re _) ho, h.nbs⟩
theorem Pst.drewN {n : Nat} (h : Pst w nb s sv st vl l wr) : Pst w nb s sv st vl l (wr.drewN n) := h.step (h.env.drewN n) ((Only.refl _ _).drewN n)
theorem Pst.call (h : Pst w nb s sv st vl l wr) (hr : RS (nb + 1) sv w' st') (ho : Only wr w' (nb + 1)) : Pst w nb s sv st' vl l w' := h.step (h.env.step ho hr) ho
theorem Pst.setv (h : Pst w nb s sv st vl l wr) (hv : SlRe (nb + 2) (nb + 2) wr vl' l') : Pst w nb s sv st vl' l' wr := ⟨h.env, h.ext, h.box, hv, h.nbs⟩

theorem SlRe.weak {B B' : Nat} (h : SlRe B B w vl l) (hb : B' ≤ B) : SlRe B' B' w vl l := SlB.weaken (SlB.imp h fun _ _ ⟨sv, e, hs⟩ => ⟨sv, e, hs.weaken hb⟩) hb
/-- Behind the store of the fault. -/
theorem Pst.done {n : Nat} {x y : Value} (h : Pst w nb s sv st vl l wr) : SlRe w.heap.size w.heap.size (((wr.drewN n).setCell ⟨nb, 0, none⟩ x).setCell ⟨nb, 1, none⟩ y) vl l ∧ Ext w (((wr.drewN n).setCell ⟨nb, 0, none⟩ x).setCell ⟨nb, 1, none⟩ y) := by
  have hb := h.nbs
  have ho : Only wr (((wr.drewN n).setCell ⟨nb, 0, none⟩ x).setCell ⟨nb, 1, none⟩ y) nb := (((Only.refl _ _).drewN n).set _).set _
  exact ⟨SlRe.weak (SlB.keepB h.val (keepsB_re _) (KeepB.low ho (by omega))) (by omega), h.ext.only ho (by omega)⟩

def ParseP (s : List Int) (w : World) : Ending → World → Prop :=
  RetP2 (fun w' a b => SlRe w.heap.size w.heap.size w' a (RX.parse s).1 ∧ b = .agg #[.int .i64 (RX.parse s).2.1, .int .i64 (RX.parse s).2.2]) w

set_option maxRecDepth 100000 in
set_option maxHeartbeats 4000000 in
theorem parse_any (s : List Int) (v : Value) (w : World) (hv : SlC w v s) : Calls Try.prog 22 #[v] w (ParseP s w) := by
  obtain ⟨A, c, rfl, hlc, hcm, _⟩ := id hv
  by_cases hlen : 60 < s.length
  · have hP := Lib.hid (show RX.parse s = ([], 3, 60) by unfold RX.parse; rw [if_pos hlen])
    have hd : decide ((60 : Int) < s.length) = true := by simp; omega
    clear hv
    go_enter Try.func22, Try.ntmps22
    go_wp2_with fail
    refine bodyPost_ret (v := .tuple #[.slice none 0 0, .agg #[.int .i64 3, .int .i64 60]]) (by simp [results, Try.results22, go_sem]) rfl ?_
    exact ⟨_, _, rfl, by rw [hP.out]; exact ⟨SlB.nil_, rfl⟩, (Ext.refl w).alloc _⟩
  have hd : decide ((60 : Int) < s.length) = false := by simp; omega
  have hl60 : s.length ≤ 60 := by omega
  have HX := Lib.hid (fun w' (h : Ext w w') => index_any s _ w' (hv.ext h) (by omega))
  rcases hf : s.findIdx? (fun c => RX.classOf c == 0) with _ | i
  · have hz : firstNo s = -1 := by unfold firstNo; rw [hf]
    rw [hz] at HX
    have HF := Lib.hid hf
    clear hz hf
    go_enter Try.func22, Try.ntmps22
    go_wp2_with (go_at_call 59; refine (HX.out _ ((Ext.refl w).alloc _)).mono ?_; rintro e w' ⟨rfl, n, rfl⟩)
    have HNB := Lib.hid (rfl : w.heap.size = w.heap.size)
    obtain ⟨nb, hnb⟩ : ∃ nb, nb = w.heap.size := ⟨_, rfl⟩
    have hpre : Pst w nb s (.slice A s.length c) ⟨0, 0, 0, 0, 0⟩ (.slice none 0 0) [] (((w.alloc (.cells #[.int .i64 0, .int .i64 0] 36)).drewN n).alloc (.cells #[.slice A s.length c, .int .i64 0, .int .i64 0, .int .i64 0, .int .i64 0, .int .i64 0] 99)) :=
      ⟨⟨hv.ext ((Ext.refl w).alloc _), by simp; omega, hl60, ((Ext.refl _).drewN n).alloc _, by
          have := heap_alloc_new ((w.alloc (.cells #[.int .i64 0, .int .i64 0] 36)).drewN n) (.cells #[.slice A s.length c, .int .i64 0, .int .i64 0, .int .i64 0, .int .i64 0, .int .i64 0] 99)
          rw [show nb + 1 = ((w.alloc (.cells #[.int .i64 0, .int .i64 0] 36)).drewN n).heap.size by simp; omega]
          exact this⟩, (((Ext.refl w).alloc _).drewN n).alloc _,
        (((Ext.refl _).drewN n).alloc _).heap (hnb ▸ heap_alloc_new w _), SlB.nil_, hnb⟩
    have HC := Lib.hid hpre
    have hN := RX.altN_ok s 12 ⟨0, 0, 0, 0, 0⟩ rfl (Nat.zero_le _) (by decide)
    have hA : ∀ w2, Env (w.alloc (.cells #[.int .i64 0, .int .i64 0] 36)) (nb + 1) (.slice A s.length c) s w2 ⟨0, 0, 0, 0, 0⟩ → Calls Try.prog 62 #[.pointer (some ⟨nb + 1, 0, none⟩)] w2 (PostR (fun w' v => SlRe (nb + 2) (nb + 2) w' v (RX.altN s 12 ⟨0, 0, 0, 0, 0⟩).1) (nb + 1) (.slice A s.length c) w2 (RX.altN s 12 ⟨0, 0, 0, 0, 0⟩).2 (s.length + 30)) :=
      fun w2 he => altN_c s 12 0 rfl w2 _ he rfl (Nat.zero_le _) (by decide) rfl
    have hP : RX.parse s = (if (if (RX.altN s 12 ⟨0, 0, 0, 0, 0⟩).2.ok = true ∧ (RX.altN s 12 ⟨0, 0, 0, 0, 0⟩).2.at_ < s.length then (RX.altN s 12 ⟨0, 0, 0, 0, 0⟩).2.fail 5 (RX.altN s 12 ⟨0, 0, 0, 0, 0⟩).2.at_ else (RX.altN s 12 ⟨0, 0, 0, 0, 0⟩).2).ok = true then ((RX.altN s 12 ⟨0, 0, 0, 0, 0⟩).1, 0, 0) else ([], (if (RX.altN s 12 ⟨0, 0, 0, 0, 0⟩).2.ok = true ∧ (RX.altN s 12 ⟨0, 0, 0, 0, 0⟩).2.at_ < s.length then (RX.altN s 12 ⟨0, 0, 0, 0, 0⟩).2.fail 5 (RX.altN s 12 ⟨0, 0, 0, 0, 0⟩).2.at_ else (RX.altN s 12 ⟨0, 0, 0, 0, 0⟩).2).code, (if (RX.altN s 12 ⟨0, 0, 0, 0, 0⟩).2.ok = true ∧ (RX.altN s 12 ⟨0, 0, 0, 0, 0⟩).2.at_ < s.length then (RX.altN s 12 ⟨0, 0, 0, 0, 0⟩).2.fail 5 (RX.altN s 12 ⟨0, 0, 0, 0, 0⟩).2.at_ else (RX.altN s 12 ⟨0, 0, 0, 0, 0⟩).2).bat)) := by
      unfold RX.parse; rw [if_neg hlen, HF.out]
    generalize RX.altN s 12 ⟨0, 0, 0, 0, 0⟩ = r at hN hA hP
    have hat : r.2.at_ ≤ s.length + 14 := hN.1.hi
    have HA := Lib.hid hA
    have HP := Lib.hid hP
    have HW := Lib.hid hnb
    rw [← hnb]
    clear hpre hN hA hP hnb hv HX
    generalize World.alloc _ _ = wb at HC ⊢
    have hr1 := HC.out.env.rs; have c1 := hr1.c1; have c4 := hr1.c4; have c5 := hr1.c5; have f1 := hr1.fr 1; clear hr1
    have hq := (HA.out _ HC.out.env)
    refine hq.mono ?_
    rintro e w' ⟨v, rfl, hv, hr, ho, hb⟩
    have HC := Lib.hid (Pst.call (by (focus (repeat (first | exact HC.out | apply Pst.drewN)))) hr ho); have hr1 := HC.out.env.rs; have c1 := hr1.c1; have c4 := hr1.c4; have c5 := hr1.c5; have f1 := hr1.fr 1; clear hr1; clear hr ho hb
    obtain ⟨Aa, ca, rfl, _⟩ := hv.form; have HV := Lib.hid hv; clear hv
    have HC := Lib.hid (Pst.setv HC.out HV.out)
    go_upto_region 8 with fail
    go_cut [32] (fun s32 wx => ∃ b, s32 = .bool b ∧ b = (r.2.ok && decide (r.2.at_ < s.length)) ∧ Pst w nb s (.slice A s.length c) r.2 (.slice Aa r.1.length ca) r.1 wx)
    case first =>
      rcases hok : r.2.ok with _ | _
      · go_wp2_with (first | (go_at_call 63; apply Calls.mono; apply ok_any (w0 := w.alloc (.cells #[.int .i64 0, .int .i64 0] 36)) (rb := nb + 1) (sv := .slice A s.length c) (s := s); (apply Pst.env; (focus (repeat (first | exact HC.out | apply Pst.drewN)))); rintro e w' ⟨rfl, n, rfl⟩))
        go_meet
        exact ⟨_, rfl, by rw [hok]; rfl, by (focus (repeat (first | exact HC.out | apply Pst.drewN)))⟩
      · go_wp2_with (first | (go_at_call 63; apply Calls.mono; apply ok_any (w0 := w.alloc (.cells #[.int .i64 0, .int .i64 0] 36)) (rb := nb + 1) (sv := .slice A s.length c) (s := s); (apply Pst.env; (focus (repeat (first | exact HC.out | apply Pst.drewN)))); rintro e w' ⟨rfl, n, rfl⟩))
        go_meet
        exact ⟨_, rfl, by rw [hok]; rfl, by (focus (repeat (first | exact HC.out | apply Pst.drewN)))⟩
    case rest =>
      obtain ⟨b, rfl, hb, hcc⟩ := hcut
      have HC := Lib.hid hcc
      have HB := Lib.hid hb
      clear hb hcc c1 c4 c5 f1
      have hr1 := HC.out.env.rs; have c1 := hr1.c1; have c4 := hr1.c4; have c5 := hr1.c5; have f1 := hr1.fr 1; clear hr1
      go_upto_if 32 with fail
      go_cut [] (fun wx => Pst w nb s (.slice A s.length c) (if r.2.ok = true ∧ r.2.at_ < s.length then r.2.fail 5 r.2.at_ else r.2) (.slice Aa r.1.length ca) r.1 wx)
      case first =>
        rcases b with _ | _
        · have HY := Lib.hid (show ¬ (r.2.ok = true ∧ r.2.at_ < s.length) by have := HB.out; intro h; rw [h.1, decide_eq_true h.2] at this; cases this)
          go_wp2_with fail
          go_meet
          rw [if_neg HY.out]; (focus (repeat (first | exact HC.out | apply Pst.drewN)))
        · have HY := Lib.hid (show r.2.ok = true ∧ r.2.at_ < s.length by have := HB.out.symm; simp only [Bool.and_eq_true, decide_eq_true_eq] at this; exact this)
          go_wp2_with (first | (go_at_call 64; apply Calls.mono; apply fail_any (w0 := w.alloc (.cells #[.int .i64 0, .int .i64 0] 36)) (rb := nb + 1) (sv := .slice A s.length c) (s := s); (apply Pst.env; (focus (repeat (first | exact HC.out | apply Pst.drewN)))); rintro e w' ⟨rfl, hr, ho, hb⟩; have HC := Lib.hid (Pst.call (by (focus (repeat (first | exact HC.out | apply Pst.drewN)))) hr ho); have hr1 := HC.out.env.rs; have c1 := hr1.c1; have c4 := hr1.c4; have c5 := hr1.c5; have f1 := hr1.fr 1; clear hr1; clear hr ho hb))
          go_meet
          rw [if_pos HY.out]; (focus (repeat (first | exact HC.out | apply Pst.drewN)))
      case rest =>
        generalize (if r.2.ok = true ∧ r.2.at_ < s.length then r.2.fail 5 r.2.at_ else r.2) = st2 at hcut HP
        have HC := Lib.hid hcut
        clear hcut c1 c4 c5 f1
        have hr1 := HC.out.env.rs; have c1 := hr1.c1; have c4 := hr1.c4; have c5 := hr1.c5; have f1 := hr1.fr 1; clear hr1
        have b0 := cell_of_row _ nb 0 _ _ _ HC.out.box
        have b1 := cell_of_row _ nb 1 _ _ _ HC.out.box
        have g0 := frozen_of_row _ nb 0 _ _ HC.out.box
        have g1 := frozen_of_row _ nb 1 _ _ HC.out.box
        rcases hok : st2.ok with _ | _
        · go_wp2_with (first | (go_at_call 63; apply Calls.mono; apply ok_any (w0 := w.alloc (.cells #[.int .i64 0, .int .i64 0] 36)) (rb := nb + 1) (sv := .slice A s.length c) (s := s); (apply Pst.env; (focus (repeat (first | exact HC.out | apply Pst.drewN)))); rintro e w' ⟨rfl, n, rfl⟩))
          go_region
          all_goals go_wp2_with fail
          all_goals refine bodyPost_ret (v := .tuple #[.slice none 0 0, .agg #[.int .i64 st2.code, .int .i64 st2.bat]]) (by simp [results, Try.results22, go_sem, *]) rfl ?_
          all_goals
            have hp := HP.out
            rw [hok, if_neg (by decide)] at hp
            have hd := HC.out.done (n := n + 1) (x := .int .i64 st2.code) (y := .int .i64 st2.bat)
            exact ⟨_, _, rfl, by rw [hp]; exact ⟨SlB.nil_, rfl⟩, hd.2⟩
        · go_wp2_with (first | (go_at_call 63; apply Calls.mono; apply ok_any (w0 := w.alloc (.cells #[.int .i64 0, .int .i64 0] 36)) (rb := nb + 1) (sv := .slice A s.length c) (s := s); (apply Pst.env; (focus (repeat (first | exact HC.out | apply Pst.drewN)))); rintro e w' ⟨rfl, n, rfl⟩))
          refine bodyPost_ret (v := .tuple #[.slice Aa r.1.length ca, .agg #[.int .i64 0, .int .i64 0]]) (by simp [results, Try.results22, go_sem, b0, b1]) rfl ?_
          have hp := HP.out
          rw [hok, if_pos rfl] at hp
          have hd := HC.out.done (n := n) (x := .int .i64 0) (y := .int .i64 0)
          exact ⟨_, _, rfl, by rw [hp]; exact ⟨hd.1, rfl⟩, hd.2⟩
  · have hz : firstNo s = i := by unfold firstNo; rw [hf]
    rw [hz] at HX
    have hP := Lib.hid (show RX.parse s = ([], 1, (i : Int)) by unfold RX.parse; rw [if_neg hlen, hf])
    clear hz hf hv
    go_enter Try.func22, Try.ntmps22
    go_wp2_with (go_at_call 59; refine (HX.out _ ((Ext.refl w).alloc _)).mono ?_; rintro e w' ⟨rfl, n, rfl⟩)
    refine bodyPost_ret (v := .tuple #[.slice none 0 0, .agg #[.int .i64 1, .int .i64 i]]) (by simp [results, Try.results22, go_sem]) rfl ?_
    exact ⟨_, _, rfl, by rw [hP.out]; exact ⟨SlB.nil_, rfl⟩, ((((Ext.refl w).alloc _).drewN n).set (by simp) _).set (by simp) _⟩
end
end Go.Proofs.Ytfblkahjefdmaaa
