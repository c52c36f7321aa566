/- Walks: FaultOnes. -/
import Derived.Test.YtdhhoicngldfmaaDoorFaultI
namespace Go.Proofs.YtdhhoicngldfmaaDoor
open Go.RowKit

def squares (n : Nat) : List Int := (List.range n).map fun i => ((i * i : Nat) : Int)
theorem squares_succ (n : Nat) : squares (n + 1) = squares n ++ [(n : Int) * n] := by simp [squares, List.range_succ]
theorem squares_length (n : Nat) : (squares n).length = n := by simp [squares]

/-- Asks, of whatever codes. -/
theorem asks_any (c d : Int) (va : Value) (xs : List Int) (w : World) (hx : SlI w va xs) :
    Calls Tryd.prog 8 #[.int .i64 c, .int .i64 d, va] w (Ret (.bool (c == d && c != 0)) w) := by
  by_cases hc : c = 0
  · subst hc
    have hd : d = 0 ∨ (d == 0) = false := by by_cases h : d = 0; exact .inl h; exact .inr (by simpa using h)
    have e : ((0 : Int) == d && (0 : Int) != 0) = false := by simp
    rw [e]; exact asks_ok d va w hd
  · have e : (c == d && c != 0) = (c == d) := by simp [hc]
    rw [e]; exact asks_some c d va xs w hx (by simpa using hc)

set_option maxRecDepth 100000 in
set_option maxHeartbeats 1000000 in
theorem faultOnes_any (w : World) (hL : Laid w) :
    Calls Tryd.prog 5 #[] w (Ret (.bool true) w) := by
  have HL := Lib.hid hL
  clear hL
  go_enter Tryd.func5, Tryd.ntmps5
  go_wp2_with fail
  go_loopg [1, 2] 7 (fun k v n wr => ∃ j : Nat, j + k = 7 ∧ n = .int .i64 j ∧ OwnI wr w.heap.size 3 v (squares j) ∧ Ext w wr)
  case atStart => exact ⟨0, rfl, rfl, World.ownsRow_nil _ _ _ _, Ext.refl w⟩
  case round =>
    obtain ⟨j, hj, rfl, hown, hE⟩ := hrel
    by_cases hj7 : j ≤ 6
    · obtain ⟨wo, rfl⟩ : ∃ wo : World, wo = wr := ⟨_, rfl⟩
      have bj : decide ((j : Int) ≤ 6) = true := by simp; omega
      have HO := Lib.hid hown
      have HJ := Lib.hid hj
      clear hj
      go_wp2_with fail
      go_loopg [3] 9 (fun k a wr => ∃ i : Nat, i + k = 9 ∧ a = .int .i64 i ∧ Ext wo wr)
      case atStart => exact ⟨0, rfl, rfl, Ext.refl _⟩
      case round =>
        obtain ⟨i, hi, rfl, hE2⟩ := hrel
        by_cases hi9 : i ≤ 8
        · obtain ⟨w2, rfl⟩ : ∃ w2 : World, w2 = wr := ⟨_, rfl⟩
          have bi : decide ((i : Int) ≤ 8) = true := by simp; omega
          have HI := Lib.hid hi
          clear hi
          go_wp2_with fail
          go_loopg [4] 9 (fun k b wr => ∃ q : Nat, q + k = 9 ∧ b = .int .i64 q ∧ Ext wo wr)
          case atStart => exact ⟨0, rfl, rfl, hE2⟩
          case round =>
            obtain ⟨q, hq, rfl, hE3⟩ := hrel
            by_cases hq9 : q ≤ 8
            · have HQ := Lib.hid hq
              clear hq
              have HS := Lib.hid (OwnI.sl (hE3.own HO.out))
              have hqq : q + 1 ≤ 9 := by omega
              by_cases hab : ((i : Int) == q) = true
              · by_cases hi0 : ((i : Int) != 0) = true
                · go_wp2_with fail
                  refine (asks_any i q _ (squares j) _ HS.out).mono ?_
                  rintro e w3 ⟨rfl, hE4⟩
                  rw [hab, hi0]
                  go_wp2_with fail
                  go_roundg (8 - q)
                  case measure => have := HQ.out; omega
                  case rel => exact ⟨q + 1, by omega, by go_num, hE3.trans hE4⟩
                · have hi1 : ((i : Int) != 0) = false := by simpa using hi0
                  clear hi0
                  go_wp2_with fail
                  refine (asks_any i q _ (squares j) _ HS.out).mono ?_
                  rintro e w3 ⟨rfl, hE4⟩
                  rw [hab, hi1]
                  go_wp2_with fail
                  go_roundg (8 - q)
                  case measure => have := HQ.out; omega
                  case rel => exact ⟨q + 1, by omega, by go_num, hE3.trans hE4⟩
              · have hab1 : ((i : Int) == q) = false := by simpa using hab
                clear hab
                go_wp2_with fail
                refine (asks_any i q _ (squares j) _ HS.out).mono ?_
                rintro e w3 ⟨rfl, hE4⟩
                rw [hab1]
                go_wp2_with fail
                go_roundg (8 - q)
                case measure => have := HQ.out; omega
                case rel => exact ⟨q + 1, by omega, by go_num, hE3.trans hE4⟩
            · have bq : decide ((q : Int) ≤ 8) = false := by simp; omega
              go_wp2_with fail
              go_roundg (8 - i)
              case measure => have := HI.out; omega
              case rel => exact ⟨i + 1, by omega, by go_num, hE3⟩
        · have hown2 := hE2.own HO.out
          have hsz : w.heap.size ≤ wr.heap.size := Nat.le_trans hE.size hE2.size
          have hE4 := hE.trans hE2
          have hw : IntKind.i64.wrap ((j : Int) * j) = (j : Int) * j := by
            have h1 : (j : Int) * j ≤ 6 * 6 := Int.mul_le_mul (by omega) (by omega) (by omega) (by omega)
            have h2 : 0 ≤ (j : Int) * j := Int.mul_nonneg (by omega) (by omega)
            exact IntWalk.i64_in _ (by omega)
          have hl : (squares j).length ≤ 1000000 := by rw [squares_length]; omega
          have hl2 : j + 1 ≤ 7 := by omega
          have bi : decide ((i : Int) ≤ 8) = false := by simp; omega
          clear hown hE2
          go_wp2_with (at_builtin; refine app_int rfl _ _ rfl w.heap.size _ _ _ _ hown2 rfl rfl hl hsz ?_)
          intro v' w5 h1 h2
          have h1' : OwnI w5 w.heap.size 3 v' (squares (j + 1)) := by rw [squares_succ]; exact h1
          have hE5 : Ext w w5 := (hE4.alloc _).grown h2 (fun q hq => (hown2.lt q hq).1)
          clear h1 h2 hown2 hw
          go_wp2_with fail
          go_roundg (6 - j)
          case measure => have := HJ.out; omega
          case rel => exact ⟨j + 1, by have := HJ.out; omega, by go_num, h1', hE5⟩
    · have bj : decide ((j : Int) ≤ 6) = false := by simp; omega
      go_wp2_with fail
      refine (known_any _ (HL.out.ext hE)).mono ?_
      rintro e w1 ⟨rfl, hE1⟩
      go_wp2_with fail
      go_ret
      exact ⟨rfl, hE.trans hE1⟩
end Go.Proofs.YtdhhoicngldfmaaDoor
