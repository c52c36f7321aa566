/- Walk: the document's own answer: words. -/
import Derived.Test.YtfblkahjefdmaaaDoorRaA
import Derived.Test.YtfblkahjefdmaaaDoorFdT
namespace Go.Proofs.YtfblkahjefdmaaaDoor
open Go.RowKit

/-- A text and the place behind it, or none. -/
def WordsP (R : Option (List Int × Nat)) (w : World) (en : Ending) (w' : World) : Prop :=
  Ext w w' ∧ ((∃ t k A c, R = some (t, k) ∧ en = .returned (.tuple #[.slice A t.length c, .int .i64 (k : Int)]) ∧ SlB 21 1 Cc w.heap.size w' (.slice A t.length c) t) ∨ (R = none ∧ en = .returned (.tuple #[.slice none 0 0, .int .i64 0])))
set_option maxRecDepth 100000 in
set_option maxHeartbeats 2000000 in
theorem words_any (e : Int) (he : e ≠ 92) (s : List Int) (vs : Value) (i : Nat) (w : World) (hs : SlC w vs s) (hsl : s.length ≤ 35184372088832) (hi : i ≤ s.length) :
    Calls Tryd.prog 46 #[vs, .int .i64 (i : Int), .int .i32 e] w (WordsP (txt e s i) w) := by
  have H := Lib.hid hs
  obtain ⟨A, ca, rfl, hlx, hcx, -⟩ := hs
  have HAM := Lib.hid has_marks
  have HE92 := Lib.hid he
  obtain ⟨R, hR⟩ : ∃ R, txt e s i = R := ⟨_, rfl⟩
  rw [hR]
  have HR := Lib.hid (show (FM.text e (s.drop i)).map (fun p => ([] ++ p.1, i + p.2)) = R from hR)
  clear hR he
  go_enter Tryd.func46, Tryd.ntmps46
  go_wp2_with fail
  go_loopw [1, 8] (fun a v wr => ∃ (k : Nat) (acc : List Int), k ≤ s.length ∧ a = .int .i64 k ∧ Acs w v acc wr ∧ acc.length ≤ k ∧ (FM.text e (s.drop k)).map (fun p => (acc ++ p.1, k + p.2)) = R) (fun a _ _ => s.length - (intOf a).toNat)
  case atStart => exact ⟨i, [], hi, rfl, ⟨OwnB.nil_, Ext.refl w⟩, Nat.zero_le _, HR.out⟩
  case round =>
    obtain ⟨k, acc, hk, rfl, hacs, hal, hT⟩ := hrel
    have HC := Lib.hid hacs
    have HT := Lib.hid hT
    obtain ⟨Ao, co, rfl, hco, hcm⟩ := hacs.own.form
    clear hT hacs
    by_cases hlt : k < s.length
    · obtain ⟨b, o, rfl, hc⟩ := (H.out.ext HC.out.ext).at_ hlt
      by_cases hce : s[k] = e
      · have hbe : (s[k] == e) = true := by simpa using hce
        have HT2 := Lib.hid ((txt_stop (acc := acc) hlt HE92.out hce).symm.trans HT.out)
        clear hce
        generalize s[k] = x at hc hbe
        go_wp2_with fail
        go_ret2
        exact ⟨HC.out.ext, .inl ⟨acc, k + 1, _, _, HT2.out.symm, rfl, HC.out.own.sl⟩⟩
      have hbe : (s[k] == e) = false := by simpa using hce
      by_cases h92 : s[k] = 92
      · have hb92 : (s[k] == 92) = true := by simpa using h92
        by_cases hk1 : k + 1 < s.length
        · have hk1i : (k : Int) + 1 < s.length := by omega
          obtain ⟨b', o', hbo, hc'⟩ := (H.out.ext HC.out.ext).at_ hk1
          injection hbo with hbo
          injection hbo with hb1 hb2
          subst hb1 hb2
          by_cases hm : s[k + 1] ∈ FM.marks
          · have HT2 := Lib.hid ((txt_esc (e := e) (acc := acc) hk1 h92 hm).symm.trans HT.out)
            have HM := Lib.hid (show decide (s[k + 1] ∈ FM.marks) = true from decide_eq_true hm)
            clear h92 hce hm
            generalize s[k] = x at hc hb92 hbe
            generalize s[k + 1] = y at hc' HM HT2
            go_wp2_with (first | (go_at_call 30; refine (HAM.out y _).mono ?_; rw [HM.out]; rintro e' w2 ⟨rfl, rfl⟩) | (at_builtin; go_loud (refine app_i32 rfl _ _ rfl w.heap.size _ acc [y] HC.out.own.allocs rfl ⟨wr.heap.size, 0, none⟩ 1 1 rfl rfl (one_cells rfl) ?hn ?hB ?_; (case hn => (simp only [List.length_cons, List.length_nil]; omega)); (case hB => exact Nat.le_trans HC.out.size (by simp)); intro v' w' h1 h2; generalize hl : acc ++ [y] = acc2 at h1; have HL := Lib.hid hl; have hl2 : acc2.length = acc.length + 1 := (by rw [← hl, List.length_append]; rfl); have HL2 := Lib.hid hl2; obtain ⟨A2, c2, rfl, -⟩ := h1.form; have HC := Lib.hid (Acs.app (Acs.alloc HC.out) h1 h2); clear h1 h2 hl hl2)))
            go_roundw
            case rel => exact ⟨k + 2, acc2, by omega, by go_num, HC.out, by have := HL2.out; omega, by rw [← HL.out]; exact HT2.out⟩
            case measure => simp [intOf]; omega
          · have HT2 := Lib.hid ((txt_plain (e := e) (acc := acc) hlt hce (fun h => by obtain ⟨_, _, h⟩ := h; exact hm h)).symm.trans HT.out)
            have HM := Lib.hid (show decide (s[k + 1] ∈ FM.marks) = false from decide_eq_false hm)
            clear h92 hce hm
            generalize s[k] = x at hc hb92 hbe HT2
            generalize s[k + 1] = y at hc' HM
            go_wp2_with (first | (go_at_call 30; refine (HAM.out y _).mono ?_; rw [HM.out]; rintro e' w2 ⟨rfl, rfl⟩) | (at_builtin; go_loud (refine app_i32 rfl _ _ rfl w.heap.size _ acc [x] HC.out.own.allocs rfl ⟨wr.heap.size, 0, none⟩ 1 1 rfl rfl (one_cells rfl) ?hn ?hB ?_; (case hn => (simp only [List.length_cons, List.length_nil]; omega)); (case hB => exact Nat.le_trans HC.out.size (by simp)); intro v' w' h1 h2; generalize hl : acc ++ [x] = acc2 at h1; have HL := Lib.hid hl; have hl2 : acc2.length = acc.length + 1 := (by rw [← hl, List.length_append]; rfl); have HL2 := Lib.hid hl2; obtain ⟨A2, c2, rfl, -⟩ := h1.form; have HC := Lib.hid (Acs.app (Acs.alloc HC.out) h1 h2); clear h1 h2 hl hl2)))
            go_roundw
            case rel => exact ⟨k + 1, acc2, by omega, by go_num, HC.out, by have := HL2.out; omega, by rw [← HL.out]; exact HT2.out⟩
            case measure => simp [intOf]; omega
        · have HT2 := Lib.hid ((txt_plain (e := e) (acc := acc) hlt hce (fun h => by obtain ⟨_, h, _⟩ := h; exact hk1 h)).symm.trans HT.out)
          have hk1i : ¬ (k : Int) + 1 < s.length := by omega
          clear h92 hce hk1
          generalize s[k] = x at hc hb92 hbe HT2
          go_wp2_with (at_builtin; go_loud (refine app_i32 rfl _ _ rfl w.heap.size _ acc [x] HC.out.own.allocs rfl ⟨wr.heap.size, 0, none⟩ 1 1 rfl rfl (one_cells rfl) ?hn ?hB ?_; (case hn => (simp only [List.length_cons, List.length_nil]; omega)); (case hB => exact Nat.le_trans HC.out.size (by simp)); intro v' w' h1 h2; generalize hl : acc ++ [x] = acc2 at h1; have HL := Lib.hid hl; have hl2 : acc2.length = acc.length + 1 := (by rw [← hl, List.length_append]; rfl); have HL2 := Lib.hid hl2; obtain ⟨A2, c2, rfl, -⟩ := h1.form; have HC := Lib.hid (Acs.app (Acs.alloc HC.out) h1 h2); clear h1 h2 hl hl2))
          go_roundw
          case rel => exact ⟨k + 1, acc2, by omega, by go_num, HC.out, by have := HL2.out; omega, by rw [← HL.out]; exact HT2.out⟩
          case measure => simp [intOf]; omega
      · have hb92 : (s[k] == 92) = false := by simpa using h92
        have HT2 := Lib.hid ((txt_plain (e := e) (acc := acc) hlt hce (fun h => h92 h.1)).symm.trans HT.out)
        clear h92 hce
        generalize s[k] = x at hc hb92 hbe HT2
        go_wp2_with (at_builtin; go_loud (refine app_i32 rfl _ _ rfl w.heap.size _ acc [x] HC.out.own.allocs rfl ⟨wr.heap.size, 0, none⟩ 1 1 rfl rfl (one_cells rfl) ?hn ?hB ?_; (case hn => (simp only [List.length_cons, List.length_nil]; omega)); (case hB => exact Nat.le_trans HC.out.size (by simp)); intro v' w' h1 h2; generalize hl : acc ++ [x] = acc2 at h1; have HL := Lib.hid hl; have hl2 : acc2.length = acc.length + 1 := (by rw [← hl, List.length_append]; rfl); have HL2 := Lib.hid hl2; obtain ⟨A2, c2, rfl, -⟩ := h1.form; have HC := Lib.hid (Acs.app (Acs.alloc HC.out) h1 h2); clear h1 h2 hl hl2))
        go_roundw
        case rel => exact ⟨k + 1, acc2, by omega, by go_num, HC.out, by have := HL2.out; omega, by rw [← HL.out]; exact HT2.out⟩
        case measure => simp [intOf]; omega
    · have HT2 := Lib.hid ((txt_end (e := e) (acc := acc) (by omega)).symm.trans HT.out)
      have hge : ¬ k < s.length := hlt
      clear hlt
      go_wp2_with fail
      go_ret2
      exact ⟨HC.out.ext, .inr ⟨HT2.out.symm, rfl⟩⟩
end Go.Proofs.YtfblkahjefdmaaaDoor
