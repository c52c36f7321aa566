/- Walks: law 2's small helpers, Make, Unwrap. -/
import Derived.Test.YtdhhoicngldfmaaDoorInts
import Derived.LaidEql
import Derived.Stop.Asserts
namespace Go.Proofs.YtdhhoicngldfmaaDoor
open Go.RowKit

theorem rev_drop (xs : List Int) (k : Nat) (hk : k < xs.length) : (xs.drop (k + 1)).reverse ++ [xs[k]] = (xs.drop k).reverse := by
  rw [← List.reverse_cons, List.drop_eq_getElem_cons hk]

set_option maxHeartbeats 400000 in
theorem turned_any (va : Value) (xs : List Int) (w : World) (hx : SlI w va xs) (hn : xs.length ≤ 1000) :
    Calls Tryd.prog 12 #[va] w (RetP (fun w' v => OwnI w' w.heap.size 3 v xs.reverse) w) := by
  have HX := Lib.hid hx
  obtain ⟨A, ca, rfl, hlx, hcx, _⟩ := hx
  go_enter Tryd.func12, Tryd.ntmps12
  go_wp2_with fail
  go_loopw [3, 4] (fun v i wr => ∃ k : Nat, k ≤ xs.length ∧ i = .int .i64 ((k : Int) - 1) ∧ OwnI wr w.heap.size 3 v (xs.drop k).reverse ∧ Ext w wr) (fun _ i _ => (intOf i + 1).toNat)
  case atStart => exact ⟨xs.length, Nat.le_refl _, rfl, by rw [List.drop_length]; exact World.ownsRow_nil _ _ _ _, Ext.refl w⟩
  case round =>
    obtain ⟨k, hk, rfl, hown, hE⟩ := hrel
    have hsz := hE.size
    rcases Nat.eq_zero_or_pos k with rfl | hpos
    · go_wp2_with fail
      go_ret
      exact ⟨_, rfl, hown, hE⟩
    · obtain ⟨j, rfl⟩ : ∃ j, k = j + 1 := ⟨k - 1, by omega⟩
      obtain ⟨b, o, rfl, hc⟩ := (HX.out.ext hE).at_ (k := j) (by omega)
      have HD := Lib.hid (rev_drop xs j (by omega))
      have hlen : (xs.drop (j + 1)).reverse.length ≤ 1000000 := by simp; omega
      have e1 : ((j + 1 : Nat) : Int) - 1 = j := by omega
      simp only [e1]
      clear e1
      go_wp2_with (at_builtin; refine app_int rfl _ _ rfl w.heap.size _ _ _ _ hown rfl rfl hlen hsz ?_)
      intro v' w1 h1 h2
      have h1' : OwnI w1 w.heap.size 3 v' (xs.drop j).reverse := by rw [← HD.out]; exact h1
      have hE' : Ext w w1 := (hE.alloc _).grown h2 (fun q hq => (hown.lt q hq).1)
      clear h1 h2
      go_wp2_with fail
      go_roundw
      case rel => exact ⟨j, by omega, rfl, h1', hE'⟩
      case measure => simp [intOf]

def some40 (xs : List Int) : List Int := xs.take 40

set_option maxHeartbeats 400000 in
theorem some_any (va : Value) (xs : List Int) (w : World) (hx : SlI w va xs) :
    Calls Tryd.prog 6 #[va] w (RetP (fun w' v => SlI w' v (some40 xs)) w) := by
  have HX := Lib.hid hx
  obtain ⟨A, ca, rfl, hlx, hcx, hk, hnil⟩ := hx
  by_cases h : 40 < xs.length
  · go_enter Tryd.func6, Tryd.ntmps6
    go_wp2_with fail
    go_ret
    refine ⟨_, rfl, ⟨A, ca, ?_, ?_, hcx, ?_, hnil⟩, Ext.refl _⟩
    · simp [some40]; omega
    · simp [some40]; omega
    · intro k x hx
      have : xs[k]? = some x := by
        rw [some40, List.getElem?_take] at hx; split at hx
        · exact hx
        · cases hx
      exact hk k x this
  · go_enter Tryd.func6, Tryd.ntmps6
    go_wp2_with fail
    go_ret
    refine ⟨_, rfl, ?_, Ext.refl _⟩
    rw [some40, List.take_of_length_le (by omega)]
    exact HX.out

/-- An error of this package: its code, and the marks of its wraps from the outermost on. -/
def Chain (w : World) : Value → Int → List Int → Prop
  | e, c, [] => ∃ b, e = .iface 40 (.pointer (some ⟨b, 0, none⟩)) ∧ w.heap[b]? = some (.cells #[.int .i64 c] 42 (0, 0))
  | e, c, m :: r => ∃ b e', e = .iface 43 (.pointer (some ⟨b, 0, none⟩)) ∧ w.heap[b]? = some (.cells #[.int .i64 m, e'] 45 (0, 0)) ∧ Chain w e' c r

theorem Chain.ext {w w' : World} (he : Ext w w') {c : Int} : ∀ (r : List Int) (e : Value), Chain w e c r → Chain w' e c r
  | [], _, ⟨b, h1, h2⟩ => ⟨b, h1, he.heap h2⟩
  | _ :: r, _, ⟨b, e', h1, h2, h3⟩ => ⟨b, e', h1, he.heap h2, Chain.ext he r e' h3⟩
theorem Chain.iface {w : World} {e : Value} {c : Int} {r : List Int} (h : Chain w e c r) : ∃ t b, e = .iface t (.pointer (some ⟨b, 0, none⟩)) := by
  cases r with
  | nil => obtain ⟨b, h, _⟩ := h; exact ⟨_, b, h⟩
  | cons m r => obtain ⟨b, e', h, _⟩ := h; exact ⟨_, b, h⟩

theorem take_rev_snoc (xs : List Int) (k : Nat) (hk : k < xs.length) : (xs.take (k + 1)).reverse = xs[k] :: (xs.take k).reverse := by
  rw [List.take_succ_eq_append_getElem hk]; simp

set_option maxHeartbeats 400000 in
theorem make_some (c : Int) (va : Value) (xs : List Int) (w : World) (hx : SlI w va xs) (hc0 : (c == 0) = false) :
    Calls Tryd.prog 13 #[.int .i64 c, va] w (RetP (fun w' v => Chain w' v c xs.reverse) w) := by
  have HX := Lib.hid hx
  obtain ⟨A, ca, rfl, hlx, hcx, _⟩ := hx
  go_enter Tryd.func13, Tryd.ntmps13
  go_wp2_with fail
  go_loopw [5, 16] (fun v i wr => ∃ k : Nat, k ≤ xs.length ∧ i = .int .i64 k ∧ Chain wr v c (xs.take k).reverse ∧ Ext w wr) (fun _ i _ => xs.length - (intOf i).toNat)
  case atStart => exact ⟨0, by omega, rfl, ⟨w.heap.size, rfl, heap_alloc_new w _⟩, (Ext.refl w).alloc _⟩
  case round =>
    obtain ⟨k, hk, rfl, hch, hE⟩ := hrel
    by_cases hlt : k < xs.length
    · obtain ⟨b, o, rfl, hc⟩ := (HX.out.ext hE).at_ hlt
      have HT := Lib.hid (take_rev_snoc xs k hlt)
      obtain ⟨t5, b5, rfl⟩ := hch.iface
      go_wp2_with fail
      go_roundw
      case rel => exact ⟨k + 1, by omega, by go_num, by rw [HT.out]; exact ⟨_, _, rfl, heap_alloc_new _ _, Chain.ext ((Ext.refl _).alloc _) _ _ hch⟩, hE.alloc _⟩
      case measure => simp [intOf]; omega
    · have e : (xs.take k).reverse = xs.reverse := by rw [List.take_of_length_le (by omega)]
      have HE := Lib.hid e
      clear e
      go_wp2_with fail
      go_ret
      exact ⟨_, rfl, by rw [← HE.out]; exact hch, hE⟩

set_option maxHeartbeats 400000 in
theorem make_ok (va : Value) (w : World) :
    Calls Tryd.prog 13 #[.int .i64 0, va] w (Ret .nilIface w) := by
  go_enter Tryd.func13, Tryd.ntmps13
  go_wp2_with fail
  go_ret
  exact ⟨rfl, Ext.refl _⟩

set_option maxHeartbeats 400000 in
theorem wrap_unwrap (b : Nat) (m : Int) (e' : Value) (w : World) (h : w.heap[b]? = some (.cells #[.int .i64 m, e'] 45 (0, 0))) (t : TypeId) (x : Value) (he : e' = .iface t x) :
    Calls Tryd.prog 47 #[.pointer (some ⟨b, 0, none⟩)] w (Ret e' w) := by
  subst he
  have c1 : w.cell? ⟨b, 1, none⟩ = some (.iface t x) := cell_of_row w b 1 _ _ _ h
  clear h
  go_enter Tryd.func47, Tryd.ntmps47
  go_wp2_with fail
  go_ret
  exact ⟨rfl, Ext.refl _⟩
end Go.Proofs.YtdhhoicngldfmaaDoor
