/- Walks: a made text of signs; a made pattern and a made format (package standishlaw12). -/
import Derived.Test.YtfblkahjefdmaaaTuP
namespace Go.Proofs.Ytfblkahjefdmaaa
open Go.RowKit

theorem sign_byte (x : UInt8) : RX.isSign (x.toNat : Int) = true := by
  have := UInt8.toNat_lt x
  unfold RX.isSign
  simp only [Bool.and_eq_true, Bool.or_eq_true, decide_eq_true_eq]
  omega
theorem sign_byte32 (x : UInt8) : RX.isSign (wrap32 (x.toNat : Int)) = true := by rw [wrap_byte]; exact sign_byte x
section
variable {w0 : World} {tb : Nat} {sv : Value} {ts : List Int} {w wr w' : World} {i j : Nat}
set_option maxRecDepth 100000 in
set_option maxHeartbeats 2000000 in
theorem tsign2_any (w : World) (i : Nat) (he : Ten w0 tb sv ts w i) : Calls Try.prog 70 #[.pointer (some ⟨tb, 0, none⟩)] w (PostX (fun _ v => ∃ x : Int, v = .int .i32 x ∧ RX.isSign x = true) tb sv ts.length w) := by
  have HT := Lib.hid (tnext_any 25 w i he (by decide))
  have hlt := TP.next_lt ts i (n := 25) (by decide)
  have hle := TP.next_le 25 he.le
  have HL := Lib.hid hle
  rw [show (25 : Int).toNat = 25 from rfl] at HT
  generalize TP.next ts i 25 = nx at HT hlt HL
  obtain ⟨q, j⟩ := nx
  dsimp only at HT hlt HL
  clear he hle
  go_enter Try.func70, Try.ntmps70
  by_cases h22 : q < 22
  · have hd : decide ((q : Int) < 22) = true := by simp; omega
    have hq1 : (q : Int) < 22 := by omega
    go_wp2_with (go_at_call 53; go_loud (refine HT.out.mono ?_; rintro e2 w2 ⟨rfl, hr, ho⟩; have HR := Lib.hid hr; have HO := Lib.hid ho; clear hr ho))
    go_ret
    exact ⟨_, j, rfl, ⟨_, rfl, by first | exact sign_byte32 _ | exact sign_byte _⟩, HR.out, HO.out, HL.out⟩
  · have hd : decide ((q : Int) < 22) = false := by simp; omega
    obtain rfl | rfl | rfl : q = 22 ∨ q = 23 ∨ q = 24 := by omega
    · have E : ∀ w, Sem.run Try.prog (Instr.index 144 (.agg #[.int .i32 233, .int .i32 215, .int .i32 128512]) (.int .i64 0)) w = .ok (.int .i32 233) w := fun w => rfl
      go_wp2_with (go_at_call 53; go_loud (refine HT.out.mono ?_; rintro e2 w2 ⟨rfl, hr, ho⟩; have HR := Lib.hid hr; have HO := Lib.hid ho; clear hr ho))
      go_ret
      exact ⟨_, j, rfl, ⟨_, rfl, by decide⟩, HR.out, HO.out, HL.out⟩
    · have E : ∀ w, Sem.run Try.prog (Instr.index 144 (.agg #[.int .i32 233, .int .i32 215, .int .i32 128512]) (.int .i64 1)) w = .ok (.int .i32 215) w := fun w => rfl
      go_wp2_with (go_at_call 53; go_loud (refine HT.out.mono ?_; rintro e2 w2 ⟨rfl, hr, ho⟩; have HR := Lib.hid hr; have HO := Lib.hid ho; clear hr ho))
      go_ret
      exact ⟨_, j, rfl, ⟨_, rfl, by decide⟩, HR.out, HO.out, HL.out⟩
    · have E : ∀ w, Sem.run Try.prog (Instr.index 144 (.agg #[.int .i32 233, .int .i32 215, .int .i32 128512]) (.int .i64 2)) w = .ok (.int .i32 128512) w := fun w => rfl
      go_wp2_with (go_at_call 53; go_loud (refine HT.out.mono ?_; rintro e2 w2 ⟨rfl, hr, ho⟩; have HR := Lib.hid hr; have HO := Lib.hid ho; clear hr ho))
      go_ret
      exact ⟨_, j, rfl, ⟨_, rfl, by decide⟩, HR.out, HO.out, HL.out⟩
set_option maxRecDepth 100000 in
set_option maxHeartbeats 2000000 in
theorem ttext2_any (m : Nat) (hm : m ≤ 1000) (w : World) (i : Nat) (he : Ten w0 tb sv ts w i) : Calls Try.prog 32 #[.pointer (some ⟨tb, 0, none⟩), .int .i64 m] w (PostX (fun w' v => ∃ s : List Int, s.length ≤ m ∧ s.all RX.isSign = true ∧ SlB 21 1 Cc (tb + 1) w' v s) tb sv ts.length w) := by
  have HC := Lib.hid (Tps.start he)
  have HT := Lib.hid (tnext_any (m + 1 : Nat) w i he (by omega))
  have hlt := TP.next_lt ts i (n := m + 1) (by omega)
  have hle := TP.next_le (m + 1) he.le
  have HS := Lib.hid (fun w i he => tsign2_any (w0 := w0) (tb := tb) (sv := sv) (ts := ts) w i he)
  rw [Int.toNat_natCast] at HT
  generalize TP.next ts i (m + 1) = nx at HT hlt hle
  obtain ⟨q, j⟩ := nx
  dsimp only at HT hlt hle
  clear he
  go_enter Try.func32, Try.ntmps32
  go_wp2_with (go_at_call 53; go_loud (refine HT.out.mono ?_; rintro e2 w2 ⟨rfl, hr, ho⟩; have HC := Lib.hid (Tps.call HC.out hr ho hle); clear hr ho))
  go_loopg [5, 6] q (fun k v n wr => ∃ (i' : Nat) (out : List Int), n = .int .i64 k ∧ Tps w0 tb sv ts w i' v out wr ∧ out.length + k ≤ m ∧ out.all RX.isSign = true)
  case atStart =>
    exact ⟨j, [], rfl, HC.out, by simp; omega, rfl⟩
  case round =>
    obtain ⟨i', out, rfl, hcs, hlen, hall⟩ := hrel
    have HC := Lib.hid hcs
    have HAL := Lib.hid hall
    have hol : out.length ≤ 1000 := by omega
    obtain ⟨Ao, co, rfl, hco, hcm⟩ := hcs.own.form
    clear hcs hall
    by_cases hk0 : gk = 0
    · subst hk0
      go_wp2_with fail
      go_ret
      exact ⟨_, _, rfl, ⟨out, by omega, HAL.out, SlB.weaken HC.out.own.sl HC.out.le⟩, HC.out.ten.st, HC.out.only, HC.out.ten.le⟩
    · obtain ⟨k, rfl⟩ : ∃ k, gk = k + 1 := ⟨gk - 1, by omega⟩
      go_wp2_with fail
      refine (HS.out wr i' (Tps.ten (HC.out))).mono ?_
      rintro e w' ⟨v, j', rfl, ⟨x, rfl, hxs⟩, hr, ho, hj⟩
      have HC := Lib.hid (Tps.call HC.out hr ho hj)
      have HXS := Lib.hid hxs
      clear hr ho hxs
      go_wp2_with (at_builtin; go_loud (refine app_i32 rfl _ _ rfl w.heap.size _ _ [x] (Tps.own (Tps.alloc HC.out)) rfl ⟨_, 0, none⟩ 1 1 rfl rfl (one_cells rfl) ?hn ?hll ?hB ?_; (case hn => omega); (case hll => (show 1 ≤ 1000; decide)); (case hB => exact Nat.le_trans (World.grownBy.size HC.out.only) (by simp)); intro v' w' h1 h2; have hal2 : (out ++ [x]).all RX.isSign = true := (by rw [List.all_append, HAL.out, List.all_cons, HXS.out]; rfl); generalize hl : out ++ [x] = out3 at h1 hal2; have HAL3 := Lib.hid hal2; have out3L := Nat.le_of_eq ((congrArg List.length hl.symm).trans List.length_append); simp only [List.length_cons, List.length_nil] at out3L; have hz := Tps.app (Tps.alloc HC.out) h1 h2; obtain ⟨Ax, cx, rfl, hcx, hcy⟩ := h1.form; have HC := Lib.hid hz; clear h1 h2 hz hl hal2))
      go_roundg k
      case measure => omega
      case rel => exact ⟨_, out3, by go_num, HC.out, by omega, HAL3.out⟩
theorem klt_only {T : Nat} {w w' : World} (h : Only w w' tb) {cur : Array Value} (hb : w.heap[tb]? = some (.cells cur 26 (0, 0))) : KLt T w w' := by
  intro g cu _ hg
  exact (h.block g (heap_lt hg) (by intro e; injection e with e; exact types_ne hg hb (by decide) e)).trans hg
/-- What made returns: a pattern, a format's parts. -/
def MadeP (tb : Nat) (sv : Value) (n : Nat) (w : World) (e : Ending) (w' : World) : Prop :=
  ∃ (p : List Int) (l : List FM.Form) (vp vl : Value) (j : Nat), e = .returned (.tuple #[vp, vl]) ∧ SlB 21 1 Cc (tb + 1) w' vp p ∧ SlB 82 5 (CF (tb + 1)) (tb + 1) w' vl l ∧ TS tb sv w' j ∧ Only w w' tb ∧ j ≤ n ∧ FM.total l ≤ 520 ∧ FM.may l = true ∧ l.length ≤ 105
set_option maxRecDepth 100000 in
set_option maxHeartbeats 2000000 in
theorem made12_any (w : World) (i : Nat) (he : Ten w0 tb sv ts w i) : Calls Try.prog 48 #[.pointer (some ⟨tb, 0, none⟩)] w (MadeP tb sv ts.length w) := by
  have HP := Lib.hid (pat_c2 w i he)
  have hpl := (TP.pat2_ok ts i he.le).1
  have HE := Lib.hid he
  clear he
  go_enter Try.func48, Try.ntmps48
  go_wp2_with fail
  refine HP.out.mono ?_
  rintro e w1 ⟨v1, rfl, hv1, hr1, ho1⟩
  have hT1 := HE.out.step ho1 hr1 hpl
  have HT1 := Lib.hid hT1
  have HF1 := Lib.hid (format2_any w1 _ hT1)
  have hfl := (TP.fmt_ok hpl).2.2
  have hfj := (TP.fmt_ok hpl).2.1
  generalize (TP.pat ts 2 i).2 = i1 at HT1 HF1 hfl hfj
  generalize (TP.pat ts 2 i).1 = p at hv1
  obtain ⟨A1, c1, rfl, -⟩ := hv1.form
  have HV1 := Lib.hid hv1
  have HO1 := Lib.hid ho1
  clear hv1 ho1 hr1 hT1 hpl HP
  go_wp2_with fail
  refine HF1.out.mono ?_
  rintro e w2 ⟨v2, rfl, hv2, hr2, ho2⟩
  generalize (TP.fmt ts i1).2 = j at hr2 hfj
  generalize (TP.fmt ts i1).1 = f at hv2 hfl
  have HV2 := Lib.hid hv2
  have HO2 := Lib.hid ho2
  have HR2 := Lib.hid hr2
  obtain ⟨A2, c2, rfl, -⟩ := hv2.form
  clear hv2 hr2 ho2 HF1
  go_wp2_with (at_builtin; go_loud (refine app_i32L rfl _ _ rfl w1.heap.size _ f [47] (OwnB.allocs HV2.out) rfl ⟨_, 0, none⟩ 1 1 rfl rfl (one_cells rfl) ?hn ?hB ?_; (case hn => (simp only [List.length_cons, List.length_nil]; omega)); (case hB => exact Nat.le_trans HO2.out.size (by simp)); intro v3 w3 h1 h2; have HO3 := Lib.hid (Only.own (HO2.out.alloc _) h2 (fun k hk => (HV2.out.lt k hk).1) (Nat.le_refl _)); have HR3 := Lib.hid (show TS tb sv w3 j from (h2.block tb (Nat.lt_of_lt_of_le (heap_lt HR2.out) (by simp)) (by intro e; have := (HV2.out.lt tb e.symm).1; have := HT1.out.tbl; omega)).trans (((Ext.refl w2).alloc _).heap HR2.out)); generalize hl : f ++ [47] = g at h1; have hgl : g.length ≤ 52 := (by rw [← hl, List.length_append]; simp only [List.length_cons, List.length_nil]; omega); obtain ⟨A3, c3, rfl, -⟩ := h1.form; have HV3 := Lib.hid (SlB.slc h1.sl); clear h1 h2 hl))
  refine (rscan_any g _ 0 w3 HV3.out (by omega)).mono ?_
  rintro e w4 ⟨hx4, hsc⟩
  have HO4 := Lib.hid (HO3.out.trans (Only.of_ext hx4 tb))
  have HR4 := Lib.hid (show TS tb sv w4 j from hx4.heap HR3.out)
  have hsz : tb + 1 ≤ w3.heap.size := heap_lt HR3.out
  obtain ⟨l, A4, c4, z4, b4, rfl, hs4, ht4, hm4, hl4⟩ : ∃ (l : List FM.Form) (A : Option Addr) (c : Nat) (z : Int) (b : Bool), e = .returned (.tuple #[.slice A l.length c, .int .i64 z, .bool b]) ∧ SlB 82 5 (CF (tb + 1)) (tb + 1) w4 (.slice A l.length c) l ∧ FM.total l ≤ 520 ∧ FM.may l = true ∧ l.length ≤ 105 := by
    rcases hsc with ⟨l, z, A, c, h1, h2, h3⟩ | ⟨h1, h2⟩
    · obtain ⟨h4, h5, h6⟩ := scanAt_fit h1
      exact ⟨l, A, c, z, true, h2, (h3.imp fun _ _ hc => hc.weaken hsz).weaken hsz, by omega, h5, by omega⟩
    · exact ⟨[], none, 0, 0, false, h2, SlB.nil_, by decide, by decide, by simp⟩
  have HS4 := Lib.hid hs4
  have HM4 := Lib.hid (And.intro ht4 (And.intro hm4 hl4))
  clear hx4 hsc hs4 ht4 hm4 hl4
  go_wp2_with fail
  go_ret2
  refine ⟨p, l, _, _, j, rfl, SlB.keepLt HV1.out HV1.out.blo (klt_only HO4.out HT1.out.st), HS4.out, HR4.out, HO1.out.trans HO4.out, hfj, HM4.out.1, HM4.out.2.1, HM4.out.2.2⟩
end
end Go.Proofs.Ytfblkahjefdmaaa
