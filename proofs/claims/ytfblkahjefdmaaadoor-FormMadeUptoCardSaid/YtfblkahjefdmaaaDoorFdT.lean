/- Walk: text of package format. -/
import Derived.Test.YtfblkahjefdmaaaDoorFdA
namespace Go.Proofs.YtfblkahjefdmaaaDoor
open Go.RowKit

theorem among_marks (c : Int) (w : World) : Calls Tryd.prog 43 #[.int .i32 c, .string { data := #[92, 125, 58, 36, 47] }] w (Ret (.bool (decide (c ∈ FM.marks))) w) := among_any c _ FM.marks (by kernel_rfl) (by decide) w
theorem among_outer (c : Int) (w : World) : Calls Tryd.prog 43 #[.int .i32 c, .string { data := #[92, 36, 125, 47] }] w (Ret (.bool (decide (c ∈ FM.outer))) w) := among_any c _ FM.outer (by kernel_rfl) (by decide) w

def TextP (R : Option (List Int × Nat)) (w : World) (en : Ending) (w' : World) : Prop :=
  Ext w w' ∧ ((∃ t k v, R = some (t, k) ∧ en = .returned (.tuple #[v, .int .i64 (k : Int), .bool true]) ∧ OwnB 21 1 Cc w.heap.size w' v t) ∨ (R = none ∧ en = .returned (.tuple #[.slice none 0 0, .int .i64 0, .bool false])))
def txt (e : Int) (s : List Int) (k : Nat) : Option (List Int × Nat) := (FM.text e (s.drop k)).map (fun p => (p.1, k + p.2))
theorem txt_esc {e : Int} {s acc : List Int} {k : Nat} (h : k + 1 < s.length) (h1 : s[k] = 92) (h2 : s[k + 1] ∈ FM.marks) : (FM.text e (s.drop k)).map (fun p => (acc ++ p.1, k + p.2)) = (FM.text e (s.drop (k + 2))).map (fun p => ((acc ++ [s[k + 1]]) ++ p.1, k + 2 + p.2)) := by
  rw [List.drop_eq_getElem_cons (by omega : k < s.length), List.drop_eq_getElem_cons h, h1, FM.text_esc h2, Option.map_map]
  congr 1
  funext p
  simp; omega
theorem txt_plain {e : Int} {s acc : List Int} {k : Nat} (h : k < s.length) (hc : s[k] ≠ e) (h1 : ¬ (s[k] = 92 ∧ ∃ hk : k + 1 < s.length, s[k + 1] ∈ FM.marks)) : (FM.text e (s.drop k)).map (fun p => (acc ++ p.1, k + p.2)) = (FM.text e (s.drop (k + 1))).map (fun p => ((acc ++ [s[k]]) ++ p.1, k + 1 + p.2)) := by
  rw [List.drop_eq_getElem_cons h, FM.text_plain hc, Option.map_map]
  · congr 1
    funext p
    simp; omega
  · rintro ⟨h2, d, r', h3, h4⟩
    refine h1 ⟨h2, ?_⟩
    have hk : k + 1 < s.length := by
      have := congrArg List.length h3
      rw [List.length_drop] at this
      simp at this; omega
    refine ⟨hk, ?_⟩
    rw [List.drop_eq_getElem_cons hk] at h3
    injection h3 with h3 _
    rw [h3]; exact h4
theorem txt_stop {e : Int} {s acc : List Int} {k : Nat} (h : k < s.length) (he : e ≠ 92) (hc : s[k] = e) : (FM.text e (s.drop k)).map (fun p => (acc ++ p.1, k + p.2)) = some (acc, k + 1) := by
  rw [List.drop_eq_getElem_cons h, hc, FM.text_stop he]; simp
theorem txt_end {e : Int} {s acc : List Int} {k : Nat} (h : s.length ≤ k) : (FM.text e (s.drop k)).map (fun p => (acc ++ p.1, k + p.2)) = none := by
  rw [List.drop_eq_nil_of_le h]; rfl

/-- Inside of a loop that makes a row of signs: the row so far, and what was there is as it was. -/
structure Acs (w : World) (v : Value) (out : List Int) (wr : World) : Prop where
  own : OwnB 21 1 Cc w.heap.size wr v out
  ext : Ext w wr
variable {w wr w' : World} {v v' : Value} {out out' : List Int}
theorem Acs.alloc {o : Obj} (h : Acs w v out wr) : Acs w v out (wr.alloc o) := ⟨h.own.allocs, h.ext.alloc o⟩
theorem Acs.drewN {n : Nat} (h : Acs w v out wr) : Acs w v out (wr.drewN n) := ⟨h.own.drewN, h.ext.drewN n⟩
theorem Acs.call (h : Acs w v out wr) (hx : Ext wr w') : Acs w v out w' := ⟨h.own.keepB (keepsB_c _) (fun _ _ _ ho => hx.heap ho), h.ext.trans hx⟩
theorem Acs.app (h : Acs w v out wr) (h1 : OwnB 21 1 Cc w.heap.size w' v' out') (h2 : wr.grownBy w' v.ownBlock) : Acs w v' out' w' := ⟨h1, h.ext.grown h2 (fun k hk => (h.own.lt k hk).1)⟩
theorem Acs.size (h : Acs w v out wr) : w.heap.size ≤ wr.heap.size := h.ext.size

set_option maxRecDepth 100000 in
set_option maxHeartbeats 2000000 in
theorem text_any (e : Int) (he : e ≠ 92) (s : List Int) (vs : Value) (i : Nat) (w : World) (hs : SlC w vs s) (hsl : s.length ≤ 35184372088832) (hi : i ≤ s.length) :
    Calls Tryd.prog 61 #[vs, .int .i64 (i : Int), .int .i32 e] w (TextP (txt e s i) w) := by
  have H := Lib.hid hs
  obtain ⟨A, ca, rfl, hlx, hcx, -⟩ := hs
  have HAM := Lib.hid among_marks
  have HE92 := Lib.hid he
  obtain ⟨R, hR⟩ : ∃ R, txt e s i = R := ⟨_, rfl⟩
  rw [hR]
  have HR := Lib.hid (show (FM.text e (s.drop i)).map (fun p => ([] ++ p.1, i + p.2)) = R from hR)
  clear hR he
  go_enter Tryd.func61, Tryd.ntmps61
  go_wp2_with fail
  go_loopw [1, 6] (fun a v wr => ∃ (k : Nat) (acc : List Int), k ≤ s.length ∧ a = .int .i64 k ∧ Acs w v acc wr ∧ acc.length ≤ k ∧ (FM.text e (s.drop k)).map (fun p => (acc ++ p.1, k + p.2)) = R) (fun a _ _ => s.length - (intOf a).toNat)
  case atStart => exact ⟨i, [], hi, rfl, ⟨OwnB.nil_, Ext.refl w⟩, Nat.zero_le _, HR.out⟩
  case round =>
    obtain ⟨k, acc, hk, rfl, hacs, hal, hT⟩ := hrel
    have HC := Lib.hid hacs
    have HT := Lib.hid hT
    obtain ⟨Ao, co, rfl, hco, hcm⟩ := hacs.own.form
    clear hT hacs
    by_cases hlt : k < s.length
    · obtain ⟨b, o, rfl, hc⟩ := (H.out.ext HC.out.ext).at_ hlt
      by_cases h92 : s[k] = 92
      · have hb92 : (s[k] == 92) = true := by simpa using h92
        have hce : s[k] ≠ e := fun h => HE92.out (by rw [← h]; exact h92)
        have hbe : (s[k] == e) = false := by simpa using hce
        by_cases hk1 : k + 1 < s.length
        · have hk1i : (k : Int) + 1 < s.length := by omega
          obtain ⟨b', o', hbo, hc'⟩ := (H.out.ext HC.out.ext).at_ hk1
          injection hbo with hbo
          injection hbo with hb1 hb2
          subst hb1 hb2
          by_cases hm : s[k + 1] ∈ FM.marks
          · have HT2 := Lib.hid ((txt_esc (e := e) (acc := acc) hk1 h92 hm).symm.trans HT.out)
            have HM := Lib.hid (show decide (s[k + 1] ∈ FM.marks) = true from decide_eq_true hm)
            clear h92 hce hm
            generalize s[k] = x at hc hb92 hbe
            generalize s[k + 1] = y at hc' HM HT2
            go_wp2_with (first | (go_at_call 43; refine (HAM.out y _).mono ?_; rw [HM.out]; rintro e' w2 ⟨rfl, hx⟩; have HC := Lib.hid (Acs.call HC.out hx); have hc := hx.cell hc; have hc' := hx.cell hc'; clear hx) | (at_builtin; go_loud (refine app_i32 rfl _ _ rfl w.heap.size _ acc [y] HC.out.own.allocs rfl ⟨w2.heap.size, 0, none⟩ 1 1 rfl rfl (one_cells rfl) ?hn ?hB ?_; (case hn => (simp only [List.length_cons, List.length_nil]; omega)); (case hB => exact Nat.le_trans HC.out.size (by simp)); intro v' w' h1 h2; generalize hl : acc ++ [y] = acc2 at h1; have HL := Lib.hid hl; have hl2 : acc2.length = acc.length + 1 := (by rw [← hl, List.length_append]; rfl); have HL2 := Lib.hid hl2; obtain ⟨A2, c2, rfl, -⟩ := h1.form; have HC := Lib.hid (Acs.app (Acs.alloc HC.out) h1 h2); clear h1 h2 hl hl2)))
            go_roundw
            case rel => exact ⟨k + 2, acc2, by omega, by go_num, HC.out, by have := HL2.out; omega, by rw [← HL.out]; exact HT2.out⟩
            case measure => simp [intOf]; omega
          · have HT2 := Lib.hid ((txt_plain (e := e) (acc := acc) hlt hce (fun h => by obtain ⟨_, _, h⟩ := h; exact hm h)).symm.trans HT.out)
            have HM := Lib.hid (show decide (s[k + 1] ∈ FM.marks) = false from decide_eq_false hm)
            clear h92 hce hm
            generalize s[k] = x at hc hb92 hbe HT2
            generalize s[k + 1] = y at hc' HM
            go_wp2_with (first | (go_at_call 43; refine (HAM.out y _).mono ?_; rw [HM.out]; rintro e' w2 ⟨rfl, hx⟩; have HC := Lib.hid (Acs.call HC.out hx); have hc := hx.cell hc; have hc' := hx.cell hc'; clear hx) | (at_builtin; go_loud (refine app_i32 rfl _ _ rfl w.heap.size _ acc [x] HC.out.own.allocs rfl ⟨w2.heap.size, 0, none⟩ 1 1 rfl rfl (one_cells rfl) ?hn ?hB ?_; (case hn => (simp only [List.length_cons, List.length_nil]; omega)); (case hB => exact Nat.le_trans HC.out.size (by simp)); intro v' w' h1 h2; generalize hl : acc ++ [x] = acc2 at h1; have HL := Lib.hid hl; have hl2 : acc2.length = acc.length + 1 := (by rw [← hl, List.length_append]; rfl); have HL2 := Lib.hid hl2; obtain ⟨A2, c2, rfl, -⟩ := h1.form; have HC := Lib.hid (Acs.app (Acs.alloc HC.out) h1 h2); clear h1 h2 hl hl2)))
            go_roundw
            case rel => exact ⟨k + 1, acc2, by omega, by go_num, HC.out, by have := HL2.out; omega, by rw [← HL.out]; exact HT2.out⟩
            case measure => simp [intOf]; omega
        · have HT2 := Lib.hid ((txt_plain (e := e) (acc := acc) hlt hce (fun h => by obtain ⟨_, h, _⟩ := h; exact hk1 h)).symm.trans HT.out)
          have hk1i : ¬ (k : Int) + 1 < s.length := by omega
          clear h92 hce hk1
          generalize s[k] = x at hc hb92 hbe HT2
          go_wp2_with (at_builtin; go_loud (refine app_i32 rfl _ _ rfl w.heap.size _ acc [x] HC.out.own.allocs rfl ⟨wr.heap.size, 0, none⟩ 1 1 rfl rfl (one_cells rfl) ?hn ?hB ?_; (case hn => (simp only [List.length_cons, List.length_nil]; omega)); (case hB => exact Nat.le_trans HC.out.size (by simp)); intro v' w' h1 h2; generalize hl : acc ++ [x] = acc2 at h1; have HL := Lib.hid hl; have hl2 : acc2.length = acc.length + 1 := (by rw [← hl, List.length_append]; rfl); have HL2 := Lib.hid hl2; obtain ⟨A2, c2, rfl, -⟩ := h1.form; have HC := Lib.hid (Acs.app (Acs.alloc HC.out) h1 h2); clear h1 h2 hl hl2))
          go_roundw
          case rel => exact ⟨k + 1, acc2, by omega, by go_num, HC.out, by have := HL2.out; omega, by rw [← HL.out]; exact HT2.out⟩
          case measure => simp [intOf]; omega
      · have hb92 : (s[k] == 92) = false := by simpa using h92
        by_cases hce : s[k] = e
        · have hbe : (s[k] == e) = true := by simpa using hce
          have HT2 := Lib.hid ((txt_stop (acc := acc) hlt HE92.out hce).symm.trans HT.out)
          clear h92 hce
          generalize s[k] = x at hc hb92 hbe
          go_wp2_with fail
          go_ret3
          exact ⟨HC.out.ext, .inl ⟨acc, k + 1, _, HT2.out.symm, by go_num, HC.out.own⟩⟩
        · have hbe : (s[k] == e) = false := by simpa using hce
          have HT2 := Lib.hid ((txt_plain (e := e) (acc := acc) hlt hce (fun h => h92 h.1)).symm.trans HT.out)
          clear h92 hce
          generalize s[k] = x at hc hb92 hbe HT2
          go_wp2_with (at_builtin; go_loud (refine app_i32 rfl _ _ rfl w.heap.size _ acc [x] HC.out.own.allocs rfl ⟨wr.heap.size, 0, none⟩ 1 1 rfl rfl (one_cells rfl) ?hn ?hB ?_; (case hn => (simp only [List.length_cons, List.length_nil]; omega)); (case hB => exact Nat.le_trans HC.out.size (by simp)); intro v' w' h1 h2; generalize hl : acc ++ [x] = acc2 at h1; have HL := Lib.hid hl; have hl2 : acc2.length = acc.length + 1 := (by rw [← hl, List.length_append]; rfl); have HL2 := Lib.hid hl2; obtain ⟨A2, c2, rfl, -⟩ := h1.form; have HC := Lib.hid (Acs.app (Acs.alloc HC.out) h1 h2); clear h1 h2 hl hl2))
          go_roundw
          case rel => exact ⟨k + 1, acc2, by omega, by go_num, HC.out, by have := HL2.out; omega, by rw [← HL.out]; exact HT2.out⟩
          case measure => simp [intOf]; omega
    · have HT2 := Lib.hid ((txt_end (e := e) (acc := acc) (by omega)).symm.trans HT.out)
      have hge : ¬ k < s.length := hlt
      clear hlt
      go_wp2_with fail
      go_ret3
      exact ⟨HC.out.ext, .inr ⟨HT2.out.symm, rfl⟩⟩
end Go.Proofs.YtfblkahjefdmaaaDoor
