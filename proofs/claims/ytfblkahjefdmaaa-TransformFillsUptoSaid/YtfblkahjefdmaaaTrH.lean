/- Walk: found of package transform. Plain words: what is found, in order; what Run makes of it. -/
import Derived.Test.YtfblkahjefdmaaaTrG
import Derived.Test.YtfblkahjefdmaaaTrD
import Derived.Test.YtfblkahjefdmaaaMc
namespace Go.Proofs.Ytfblkahjefdmaaa
open Go.RowKit

namespace TR
/-- Matches in order, from a place on. -/
inductive Mts (n : Nat) : Nat → List (List Int) → Prop
  | nil (at_ : Nat) : at_ ≤ n → Mts n at_ []
  | cons (at_ a b : Nat) (c : List Int) (L : List (List Int)) : c[0]? = some (a : Int) → c[1]? = some (b : Int) → at_ ≤ a → a ≤ b → b ≤ n → (∀ x ∈ c, x = -1 ∨ (0 ≤ x ∧ x ≤ (n : Int))) → Mts n b L → Mts n at_ (c :: L)
theorem mts_first {l : List PG.Inst} {g e : Nat} (h : PG.Made l g e) {fold : Bool} {s r : List Int} {from_ : Nat} (hf : MX.First (MX.act l fold s) s.length (MX.blank g) from_ (some r)) :
    ∃ a b : Nat, r[0]? = some (a : Int) ∧ r[1]? = some (b : Int) ∧ from_ ≤ a ∧ a ≤ b ∧ b ≤ s.length ∧ ∀ x ∈ r, x = -1 ∨ (0 ≤ x ∧ x ≤ (s.length : Int)) := by
  obtain ⟨p, h1, h2, h3, -⟩ := MX.first_match h hf
  obtain ⟨b, h4, h5, h6, h7⟩ := h3.last
  refine ⟨p, b, h3.first, h4, h1, h5, h6, fun x hx => ?_⟩
  obtain ⟨i, hi⟩ := List.getElem?_of_mem hx
  have := h7 i x hi
  omega
theorem alls_mts {l : List PG.Inst} {g e : Nat} (h : PG.Made l g e) {fold : Bool} {s : List Int} {at_ : Nat} {L : List (List Int)} (hA : MX.Alls (MX.act l fold s) s.length (MX.blank g) at_ L) : ∀ k, k ≤ at_ → k ≤ s.length → Mts s.length k L := by
  induction hA with
  | out at_ h1 => exact fun k _ h2 => .nil k h2
  | none_ at_ h1 h2 => exact fun k _ h3 => .nil k h3
  | more at_ a b r L h1 h2 h3 h4 h5 ih =>
    intro k hk hk2
    obtain ⟨a', b', e1, e2, e3, e4, e5, e6⟩ := mts_first h h2
    rw [h3] at e1
    rw [h4] at e2
    have e1 := Option.some.inj e1
    have e2 := Option.some.inj e2
    refine .cons k a b r L h3 h4 (by omega) (by omega) (by omega) e6 (ih b (by split <;> omega) (by omega))
/-- The places that a pattern is replaced at. -/
def Fnd (A : Nat → Nat → MX.Act) (n : Nat) (nt : List Int) (all : Bool) (L : List (List Int)) : Prop :=
  (all = true ∧ MX.Alls A n nt 0 L) ∨ (all = false ∧ ((MX.First A n nt 0 none ∧ L = []) ∨ ∃ r, MX.First A n nt 0 (some r) ∧ L = [r]))
theorem fnd_mts {l : List PG.Inst} {g e : Nat} (h : PG.Made l g e) {fold all : Bool} {s : List Int} {L : List (List Int)} (hF : Fnd (MX.act l fold s) s.length (MX.blank g) all L) : Mts s.length 0 L := by
  rcases hF with ⟨-, hA⟩ | ⟨-, ⟨-, rfl⟩ | ⟨r, hf, rfl⟩⟩
  · exact alls_mts h hA 0 (Nat.le_refl _) (Nat.zero_le _)
  · exact .nil 0 (Nat.zero_le _)
  · obtain ⟨a, b, e1, e2, e3, e4, e5, e6⟩ := mts_first h hf
    exact .cons 0 a b r [] e1 e2 e3 e4 e5 e6 (.nil b e5)
/-- What Run makes of what is found. -/
def goR (s : List Int) (forms : List FM.Form) : List (List Int) → List Int → Nat → Option (List Int)
  | [], out, at_ => if (1000 : Int) - (out.length : Int) < (s.length : Int) - (at_ : Int) then none else some (out ++ s.drop at_)
  | c :: L, out, at_ => match fillR (cut s c) 1000 forms (out ++ (s.drop at_).take ((c.getD 0 0).toNat - at_)) with
    | none => none
    | some o => goR s forms L o (c.getD 1 0).toNat
/-- What Run returns: a text, or a fault. -/
def RunQ (s p : List Int) (forms : List FM.Form) (all fold : Bool) (text : List Int) (code bat : Int) : Prop :=
  if s.all RX.isSign = true ∧ s.length ≤ 1000 ∧ FM.may forms = true then
    (∃ c b, PG.compile p = ([], c, b) ∧ c ≠ 0 ∧ text = [] ∧ code = c ∧ bat = b) ∨
    (∃ l t k L, PG.compile p = (l, 0, 0) ∧ RX.parse p = (t, 0, 0) ∧ PG.Made l (RX.groups t) k ∧ Fnd (MX.act l fold s) s.length (MX.blank (RX.groups t)) all L ∧ ((goR s forms L [] 0 = none ∧ text = [] ∧ code = 3 ∧ bat = 0) ∨ (goR s forms L [] 0 = some text ∧ code = 0 ∧ bat = 0)))
  else text = [] ∧ code = 1 ∧ bat = 0
end TR
/-- What found returns. -/
def FndP (A : Nat → Nat → MX.Act) (n : Nat) (nt : List Int) (all : Bool) (w : World) (e : Ending) (w' : World) : Prop :=
  Ext w w' ∧ ∃ L v, TR.Fnd A n nt all L ∧ e = .returned v ∧ SlB 22 1 (Cn w) w.heap.size w' v L
set_option maxRecDepth 100000 in
set_option maxHeartbeats 2000000 in
theorem tfound_any {w : World} {mb : Nat} {sv vp : Value} {prog : List PG.Inst} {g e : Nat} {fold : Bool} {s : List Int} (all : Bool) (hmade : PG.Made prog g e) (hset : ∀ x ∈ prog, x.set.length ≤ 1000) (hg : g ≤ 200)
    (hm : Mtc w mb vp prog g fold) (hs : SlC w sv s) (hsl : s.length ≤ 1000) :
    Calls Try.prog 82 #[.pointer (some ⟨mb, 0, none⟩), sv, .bool all] w (FndP (MX.act prog fold s) s.length (MX.blank g) all w) := by
  have HA := Lib.hid (mall_any hmade hset hg hm hs hsl)
  have HF := Lib.hid (mfind_any hmade hset hg hm hs hsl 0 (Nat.zero_le _))
  obtain ⟨As, cs, rfl, -, -, -⟩ := id hs
  generalize MX.act prog fold s = A at HA HF ⊢
  clear hm hs hmade hset
  cases all with
  | true =>
    go_enter Try.func82, Try.ntmps82
    go_wp2_with fail
    refine HA.out.mono ?_
    rintro e w1 ⟨hx1, L, v, hal, rfl, hl⟩
    have HX := Lib.hid hx1
    have HL := Lib.hid hl
    have HAL := Lib.hid hal
    clear hx1 hl hal
    go_wp2_with fail
    go_ret
    exact ⟨HX.out, L, _, .inl ⟨rfl, HAL.out⟩, rfl, HL.out⟩
  | false =>
    go_enter Try.func82, Try.ntmps82
    go_wp2_with fail
    refine HF.out.mono ?_
    rintro e w1 ⟨hx1, r, hf, hre⟩
    have HX := Lib.hid hx1
    have HFR := Lib.hid hf
    clear hx1 hf
    cases r with
    | none =>
      obtain rfl := hre
      go_wp2_with fail
      go_ret
      exact ⟨HX.out, [], _, .inr ⟨rfl, .inl ⟨HFR.out, rfl⟩⟩, rfl, SlB.nil_⟩
    | some r =>
      obtain ⟨v1, rfl, hn⟩ := hre
      have HN := Lib.hid hn
      obtain ⟨nb, rfl, -, -⟩ := hn
      go_wp2_with fail
      go_ret
      refine ⟨HX.out.alloc _, [r], _, .inr ⟨rfl, .inr ⟨r, HFR.out, rfl⟩⟩, rfl, ?_⟩
      refine OwnB.sl (OwnB.lit #[.slice (some ⟨nb, 0, none⟩) r.length r.length] [r] w1.heap.size 1 rfl rfl HX.out.size (by simp) (by simp) ?_)
      intro k x hx
      match k, hx with
      | 0, hx =>
        simp at hx
        subst hx
        exact ⟨[.slice (some ⟨nb, 0, none⟩) r.length r.length], ⟨_, rfl, HN.out.ext ((Ext.refl w1).alloc _)⟩, rfl, fun i u hu => by simpa using hu⟩
end Go.Proofs.Ytfblkahjefdmaaa
