/- Walks: is a sign among some; numerals. -/
import Derived.Test.YtfblkahjefdmaaaDoorFdOne
namespace Go.Proofs.YtfblkahjefdmaaaDoor
open Go.RowKit

def IdxP (c : Int) (xs : List Int) (w : World) (e : Ending) (w' : World) : Prop := ∃ n : Int, e = .returned (.int .i64 n) ∧ decide (0 ≤ n) = decide (c ∈ xs) ∧ w = w'
set_option maxHeartbeats 1000000 in
theorem index_any (c : Int) (v : Value) (xs : List Int) (w : World) (h : SlC w v xs) : Calls Tryd.prog 62 #[v, .int .i32 c] w (IdxP c xs w) := by
  have H := Lib.hid h
  obtain ⟨A, ca, rfl, hlx, hcx, _⟩ := h
  go_enter Tryd.func62, Tryd.ntmps62
  go_wp2_with fail
  go_loop [8] (fun i => ∃ k : Nat, k ≤ xs.length ∧ i = .int .i64 k ∧ ∀ j, j < k → xs[j]? ≠ some c) (fun i => xs.length - (intOf i).toNat)
  case atStart => exact ⟨0, Nat.zero_le _, rfl, by intro j hj; omega⟩
  case round =>
    obtain ⟨k, hk, rfl, hpre⟩ := hrel
    have HP := Lib.hid hpre
    clear hpre
    by_cases hlt : k < xs.length
    · obtain ⟨b, o, rfl, hc⟩ := H.out.at_ hlt
      by_cases he : c = xs[k]
      · have hb : (c == xs[k]) = true := by simp [he]
        have HM := Lib.hid (show decide (0 ≤ (k : Int)) = decide (c ∈ xs) by rw [decide_eq_true (by omega : (0 : Int) ≤ k), decide_eq_true (he ▸ List.getElem_mem hlt)])
        clear he
        go_wp2_with fail
        go_ret
        exact ⟨_, rfl, HM.out, rfl⟩
      · have hb : (c == xs[k]) = false := by simp [he]
        have HE := Lib.hid he
        clear he
        go_wp2_with fail
        go_round
        case rel => exact ⟨k + 1, by omega, by go_num, by intro j hj; rcases Nat.lt_succ_iff_lt_or_eq.1 hj with h | rfl; exact HP.out j h; rw [List.getElem?_eq_getElem hlt]; intro e; injection e with e; exact HE.out e.symm⟩
        case measure => simp [intOf]; omega
    · have HM := Lib.hid (show decide (0 ≤ (-1 : Int)) = decide (c ∈ xs) from by
        rw [decide_eq_false (by decide : ¬ (0 : Int) ≤ -1), decide_eq_false]
        intro hm
        obtain ⟨j, hj, e⟩ := List.mem_iff_getElem.1 hm
        exact HP.out j (by omega) (by rw [List.getElem?_eq_getElem hj, e]))
      go_wp2_with fail
      go_ret
      exact ⟨_, rfl, HM.out, rfl⟩
def BoolP (b : Bool) (w : World) (e : Ending) (w' : World) : Prop := e = .returned (.bool b) ∧ w = w'
set_option maxHeartbeats 1000000 in
theorem contains_any (c : Int) (v : Value) (xs : List Int) (w : World) (h : SlC w v xs) : Calls Tryd.prog 55 #[v, .int .i32 c] w (BoolP (decide (c ∈ xs)) w) := by
  have H := Lib.hid (index_any c v xs w h)
  obtain ⟨A, ca, rfl, hlx, hcx, _⟩ := h
  go_enter Tryd.func55, Tryd.ntmps55
  go_wp2_with fail
  refine H.out.mono ?_
  rintro e w' ⟨n, rfl, hn, rfl⟩
  have HN := Lib.hid hn
  clear hn
  go_wp2_with fail
  go_ret
  exact ⟨by rw [← HN.out]; rfl, rfl⟩

set_option maxHeartbeats 1000000 in
theorem among_any (c : Int) (bs : ByteArray) (ms : List Int) (hr : Conv.runesFrom bs bs.size 0 #[] = (ms.map (Value.int .i32)).toArray) (hm : ms.length ≤ 100) (w : World) :
    Calls Tryd.prog 43 #[.int .i32 c, .string bs] w (Ret (.bool (decide (c ∈ ms))) w) := by
  have hlen : (Conv.runesFrom bs bs.size 0 #[]).size = ms.length := by rw [hr]; simp
  have kc := run_runes_of_string (P := Tryd.prog) w 9 22 21 bs Tryd.underlying9 Tryd.underlying22 Tryd.underlying21 (by rw [hlen]; omega)
  rw [hlen, hr] at kc
  have hcap := grownCap_ge w ms.length 0 21
  have hcm := grownCap_le_maxLen w ms.length 0 21 (by unfold maxLen; omega)
  unfold maxLen at hcm
  generalize grownCap w ms.length 0 21 = cap at kc hcap hcm
  obtain ⟨W1, hW1⟩ : ∃ W1, w.drew.alloc (.cells ((ms.map (Value.int .i32)).toArray ++ Array.replicate (cap - ms.length) (.int .i32 0)) 21) = W1 := ⟨_, rfl⟩
  rw [hW1] at kc
  have hs : SlC W1 (.slice (some ⟨w.heap.size, 0, none⟩) ms.length cap) ms := by
    refine ⟨_, cap, rfl, by omega, by omega, fun k x hx => ⟨w.heap.size, 0, rfl, ?_⟩, by intro h; cases h⟩
    rw [← hW1]
    have hk : k < ms.length := (List.getElem?_eq_some_iff.1 hx).1
    have h2 := World.cell?_alloc_new w.drew ((ms.map (Value.int .i32)).toArray ++ Array.replicate (cap - ms.length) (.int .i32 0)) 21 (0 + k * 1)
    refine h2.trans ?_
    rw [Nat.mul_one, Nat.zero_add, Array.getElem?_append_left (by simpa using hk)]
    simp [hx]
  have HE := Lib.hid (show Ext w W1 by rw [← hW1]; exact ((Ext.refl w).drew).alloc _)
  have HC := Lib.hid (contains_any c _ ms W1 hs)
  clear hs hr hlen hW1
  go_enter Tryd.func43, Tryd.ntmps43
  go_wp2_with fail
  refine HC.out.mono ?_
  rintro e w' ⟨rfl, rfl⟩
  go_wp2_with fail
  go_ret
  exact ⟨rfl, HE.out⟩
end Go.Proofs.YtfblkahjefdmaaaDoor
