/- Plain law of FormFree: the parts that it makes may be, and how large they are. -/
import Derived.Test.YtfblkahjefdmaaaDoorFdQ
namespace Go.Proofs.YtfblkahjefdmaaaDoor
open Go.RowKit

def freeL (a b : List Int) (g k : Int) : List FM.Form :=
  [⟨2, g, 0, a, []⟩, ⟨3, 99 - g, 0, [], b⟩, ⟨4, g, 0, b, a⟩, ⟨1, g, k, [], []⟩] ++ (if a = [] then [] else [⟨0, 0, 0, a, []⟩])
theorem free_may {a b : List Int} (ha : a.all RX.isSign = true) (hb : b.all RX.isSign = true) {g k : Int} (hg : 0 ≤ g ∧ g ≤ 99) (hk : 0 ≤ k ∧ k ≤ 5) : FM.may (freeL a b g k) = true := by
  obtain ⟨hg1, hg2⟩ := hg
  obtain ⟨hk1, hk2⟩ := hk
  have h9 : g ≤ 99 ∧ 99 - g ≤ 99 ∧ 0 ≤ 99 - g := by omega
  unfold freeL
  cases a with
  | nil => simp [FM.may, FM.mayR, FM.may1, hb, hg1, hg2, hk1, hk2, h9]
  | cons x r => simp [FM.may, FM.mayR, FM.may1, ha, hb, hg1, hg2, hk1, hk2, h9]
theorem free_szs (a b : List Int) (g k : Int) : FM.szs (freeL a b g k) ≤ 6 * a.length + 4 * b.length + 150 := by
  unfold freeL
  split <;> simp [FM.szs, FM.sz, *] <;> omega
theorem free_back {a b : List Int} (ha : a.all RX.isSign = true) (hb : b.all RX.isSign = true) {g k : Int} (hg : 0 ≤ g ∧ g ≤ 99) (hk : 0 ≤ k ∧ k ≤ 5) :
    scanAt (FM.print (freeL a b g k) ++ [47]) 0 = some (freeL a b g k, (FM.print (freeL a b g k)).length) := back_again (free_may ha hb hg hk) (ms := []) rfl
end Go.Proofs.YtfblkahjefdmaaaDoor
