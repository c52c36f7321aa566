/- Walks: literal rows; sort. -/
import Derived.Test.YtfblkahjefdmaaaMem
import Derived.Test.YtfblkahjefdmaaaSigns
namespace Go.Proofs.Ytfblkahjefdmaaa
open Go.RowKit

/-- A literal row of elements. -/
def Cc (_ : World) (cs : List Value) (x : Int) : Prop := cs = [.int .i32 x]
theorem keeps_c (T : List TypeId) : Keeps T Cc := fun _ _ _ _ _ h => h
theorem lit_c {B : Nat} (w : World) (xs : List Int) (hb : B ≤ w.heap.size) (hn : xs.length ≤ 1000) :
    OwnB 21 1 Cc B (w.alloc (.cells (xs.map (Value.int .i32)).toArray 21)) (.slice (some ⟨w.heap.size, 0, none⟩) xs.length xs.length) xs :=
  OwnB.lit _ xs _ _ rfl rfl hb (by omega) (by simp) fun k x hx => ⟨[.int .i32 x], rfl, rfl, fun i u hu => by
    match i, hu with
    | 0, hu => simp at hu; subst hu; simp [hx]⟩

/-- A nil slice where there is none, else one of the call's own. -/
def OptC (B : Nat) (w : World) (v : Value) : Option (List Int) → Prop
  | none => v = .slice none 0 0
  | some l => OwnB 21 1 Cc B w v l ∧ ∃ g, v = .slice (some ⟨g, 0, none⟩) l.length l.length

set_option maxHeartbeats 1000000 in
theorem sort_any (c : Int) (w : World) : Calls Try.prog 153 #[.int .i32 c] w (RetP (fun w' v => OptC w.heap.size w' v (RX.sortR c)) w) := by
  by_cases h1 : c = 100
  · subst h1
    go_enter Try.func153, Try.ntmps153
    go_wp2_with fail
    go_ret
    exact ⟨_, rfl, ⟨lit_c w [48, 57] (Nat.le_refl _) (by decide), _, rfl⟩, (Ext.refl w).alloc _⟩
  by_cases h2 : c = 119
  · subst h2
    go_enter Try.func153, Try.ntmps153
    go_wp2_with fail
    go_ret
    exact ⟨_, rfl, ⟨lit_c w [97, 122, 65, 90, 48, 57, 95, 95] (Nat.le_refl _) (by decide), _, rfl⟩, (Ext.refl w).alloc _⟩
  by_cases h3 : c = 115
  · subst h3
    go_enter Try.func153, Try.ntmps153
    go_wp2_with fail
    go_ret
    exact ⟨_, rfl, ⟨lit_c w [32, 32, 9, 9, 10, 10] (Nat.le_refl _) (by decide), _, rfl⟩, (Ext.refl w).alloc _⟩
  have b1 : (c == 100) = false := by simpa using h1
  have b2 : (c == 119) = false := by simpa using h2
  have b3 : (c == 115) = false := by simpa using h3
  have HS := Lib.hid (show RX.sortR c = none by simp [RX.sortR, h1, h2, h3])
  clear h1 h2 h3
  go_enter Try.func153, Try.ntmps153
  go_wp2_with fail
  go_ret
  exact ⟨_, rfl, by rw [HS.out]; rfl, Ext.refl w⟩
end Go.Proofs.Ytfblkahjefdmaaa
