/- Walks: the row of numbers that texts are made of. -/
import Derived.Test.YtfblkahjefdmaaaDoorFdCom
import Derived.Test.YtfblkahjefdmaaaDoorTpN
namespace Go.Proofs.YtfblkahjefdmaaaDoor
open Go.RowKit

/-- The tape's block: its row, its place. -/
def TS (tb : Nat) (sv : Value) (w : World) (i : Nat) : Prop := w.heap[tb]? = some (.cells #[sv, .int .i64 i] 26 (0, 0))
structure Ten (w0 : World) (tb : Nat) (sv : Value) (ts : List Int) (w : World) (i : Nat) : Prop where
  sl : SlI w0 sv ts
  lo : w0.heap.size ≤ tb
  ext : Ext w0 w
  st : TS tb sv w i
  le : i ≤ ts.length
section
variable {w0 : World} {tb : Nat} {sv : Value} {ts : List Int} {w wr w' : World} {i j : Nat}
theorem Ten.step (h : Ten w0 tb sv ts w i) (ho : Only w w' tb) (hr : TS tb sv w' j) (hj : j ≤ ts.length) : Ten w0 tb sv ts w' j := ⟨h.sl, h.lo, h.ext.only ho h.lo, hr, hj⟩
theorem Ten.drewN {n : Nat} (h : Ten w0 tb sv ts w i) : Ten w0 tb sv ts (w.drewN n) i := ⟨h.sl, h.lo, h.ext.drewN n, h.st, h.le⟩
theorem Ten.alloc {o : Obj} (h : Ten w0 tb sv ts w i) : Ten w0 tb sv ts (w.alloc o) i := ⟨h.sl, h.lo, h.ext.alloc o, ((Ext.refl w).alloc o).heap h.st, h.le⟩
theorem Ten.tbl (h : Ten w0 tb sv ts w i) : tb < w.heap.size := heap_lt h.st
theorem Ten.c0 (h : Ten w0 tb sv ts w i) : w.cell? ⟨tb, 0, none⟩ = some sv := cell_of_row w tb 0 _ _ _ h.st
theorem Ten.c1 (h : Ten w0 tb sv ts w i) : w.cell? ⟨tb, 1, none⟩ = some (.int .i64 i) := cell_of_row w tb 1 _ _ _ h.st
theorem Ten.fr (h : Ten w0 tb sv ts w i) (o : Nat) : w.frozen? ⟨tb, o, none⟩ = false := frozen_of_row w tb o _ _ h.st

theorem TS.put {x : Nat} (h : TS tb sv w i) : TS tb sv (w.setCell ⟨tb, 1, none⟩ (.int .i64 ((x : Int) + 1))) (x + 1) := heap_set h
theorem and_low (n : Int) : bits .and .i64 n 16777215 = n % 16777216 := by
  have h127 : (BitVec.ofInt 64 16777215).toNat = 2 ^ 24 - 1 := by decide
  have key : (BitVec.ofInt 64 n &&& BitVec.ofInt 64 16777215).toNat = (n % ((2 ^ 64 : Nat) : Int)).toNat % 2 ^ 24 := by
    rw [BitVec.toNat_and, BitVec.toNat_ofInt, h127, Nat.and_two_pow_sub_one_eq_mod]
  show IntKind.i64.wrap ((BitVec.ofInt 64 n &&& BitVec.ofInt 64 16777215).toNat : Nat) = n % 16777216
  rw [key, IntKind.wrap_i64]
  omega
/-- Behind a call on the tape: the result, its place. -/
def PostT (v : Value) (tb : Nat) (sv : Value) (w : World) (j : Nat) (e : Ending) (w' : World) : Prop := e = .returned v ∧ TS tb sv w' j ∧ Only w w' tb
def PostTV (R : World → Value → Prop) (tb : Nat) (sv : Value) (w : World) (j : Nat) (e : Ending) (w' : World) : Prop := ∃ v, e = .returned v ∧ R w' v ∧ TS tb sv w' j ∧ Only w w' tb

theorem tmod_low {x n : Int} (hn : 1 ≤ n) : (x % 16777216).tmod n = (((x % 16777216).toNat % n.toNat : Nat) : Int) := by
  have h0 : 0 ≤ x % 16777216 := by omega
  rw [Int.tmod_eq_emod_of_nonneg h0, Int.natCast_emod, Int.toNat_of_nonneg h0, Int.toNat_of_nonneg (by omega)]
theorem tnext_any (k : Int) (w : World) (i : Nat) (he : Ten w0 tb sv ts w i) (hk : 1 ≤ k ∧ k ≤ 1000000) :
    Calls Tryd.prog 24 #[.pointer (some ⟨tb, 0, none⟩), .int .i64 k] w (PostT (.int .i64 ((TP.next ts i k.toNat).1 : Nat)) tb sv w (TP.next ts i k.toNat).2) := by
  have c0 := he.c0
  have c1 := he.c1
  have f1 := he.fr 1
  have hs := he.sl.ext he.ext
  have HE := Lib.hid he
  obtain ⟨A, c, rfl, hlc, hcm, _⟩ := id hs
  obtain ⟨hk1, hk2⟩ := hk
  have hd2 : decide (k < 1) = false := by simp; omega
  by_cases h : i < ts.length
  · obtain ⟨b, o, rfl, hc⟩ := hs.at_ h
    have HN := Lib.hid (show TP.next ts i k.toNat = ((ts[i] % 16777216).toNat % k.toNat, i + 1) by unfold TP.next; rw [List.getElem?_eq_getElem h])
    generalize ts[i] = x at hc HN
    have hd1 : decide ((ts.length : Int) ≤ i) = false := by simp; omega
    clear he hs
    go_enter Tryd.func24, Tryd.ntmps24
    go_wp2_with fail
    go_quiet (fail)
    go_wp2_with fail
    go_quiet (fail)
    go_wp2_with fail
    go_ret
    rw [HN.out]
    refine ⟨?_, heap_set (HE.out.drewN).st, ((Only.refl _ _).drewN _).set _⟩
    show Ending.returned (.int .i64 ((bits .and .i64 x 16777215).tmod k)) = _
    rw [and_low, tmod_low hk1]
  · have HN := Lib.hid (show TP.next ts i k.toNat = (0, i) by unfold TP.next; rw [List.getElem?_eq_none (by omega)])
    have hd1 : decide ((ts.length : Int) ≤ i) = true := by simp; omega
    clear he hs
    go_enter Tryd.func24, Tryd.ntmps24
    go_wp2_with fail
    go_quiet (fail)
    go_wp2_with fail
    go_ret
    rw [HN.out]
    exact ⟨rfl, HE.out.st, (Only.refl _ _).drewN _⟩
end

/-- A string's bytes as signs. -/
def signs (b : ByteArray) : List Int := b.data.toList.map fun x => (x.toNat : Int)
theorem signs_len (b : ByteArray) : (signs b).length = b.size := by simp [signs]
theorem signs_take {b : ByteArray} {k : Nat} (h : k < b.size) : (signs b).take (k + 1) = (signs b).take k ++ [(b[k].toNat : Int)] := by
  have h2 : k < (signs b).length := by rw [signs_len]; exact h
  rw [List.take_succ_eq_append_getElem h2]
  congr 1
  simp [signs]; rfl

set_option maxHeartbeats 1000000 in
theorem plain_any (s : ByteArray) (w : World) (hs : s.size ≤ 1000000) : Calls Tryd.prog 23 #[.string s] w (RetP (fun w' v => OwnB 21 1 Cc w.heap.size w' v (signs s)) w) := by
  go_enter Tryd.func23, Tryd.ntmps23
  go_wp2_with fail
  go_loopw [3, 4] (fun v i wr => ∃ k : Nat, k ≤ s.size ∧ i = .int .i64 k ∧ OwnB 21 1 Cc w.heap.size wr v ((signs s).take k) ∧ Ext w wr) (fun _ i _ => s.size - (intOf i).toNat)
  case atStart => exact ⟨0, Nat.zero_le _, rfl, OwnB.nil_, Ext.refl w⟩
  case round =>
    obtain ⟨k, hk, rfl, hown, hE⟩ := hrel
    have HOW := Lib.hid hown
    have HE := Lib.hid hE
    have HLT := Lib.hid hown.lt
    obtain ⟨A, c, rfl, hlc, hcm⟩ := hown.form
    have hlen : ((signs s).take k).length ≤ 1000000 := by rw [List.length_take, signs_len]; omega
    have hsz := hE.size
    by_cases hlt : k < s.size
    · have HT := Lib.hid (signs_take hlt)
      have HW := Lib.hid (wrap_byte s[k])
      generalize (signs s).take k = xs at HOW HLT HT hlen hlc ⊢
      obtain ⟨xs', hxs'⟩ : ∃ l, l = (signs s).take (k + 1) := ⟨_, rfl⟩
      rw [← hxs'] at HT
      have HX := Lib.hid hxs'
      clear hown hE hxs'
      have hi0 : w.heap.size ≤ (wr.alloc (.cells #[.int .i32 (wrap32 (s[k].toNat : Int))] 21)).heap.size := by simp; omega
      go_wp2_with (at_builtin; go_loud (refine app_i32 rfl _ _ rfl w.heap.size _ xs [wrap32 (s[k].toNat : Int)] ?hown rfl ⟨wr.heap.size, 0, none⟩ 1 1 rfl rfl ?hc ?hn ?hB ?_; (case hown => exact HOW.out.allocs); (case hc => exact one_cells rfl); (case hn => (simp only [List.length_cons, List.length_nil]; omega)); (case hB => exact hi0); intro v' w' h1 h2; have HX2 := Lib.hid (And.intro h1 ((HE.out.alloc _).grown h2 (fun k hk => (HLT.out k hk).1))); clear h1 h2))
      go_roundw
      case rel => exact ⟨k + 1, by omega, by go_num, by rw [← HX.out, HT.out, ← HW.out]; exact HX2.out.1, HX2.out.2⟩
      case measure => simp [intOf]; omega
    · have hk2 : k = s.size := by omega
      have HT := Lib.hid (show (signs s).take k = signs s by rw [hk2, ← signs_len, List.take_length])
      clear hown hE hk2
      go_wp2_with fail
      go_ret
      exact ⟨_, rfl, by have := HOW.out; rw [HT.out] at this ⊢; exact this, HE.out⟩
end Go.Proofs.YtfblkahjefdmaaaDoor
