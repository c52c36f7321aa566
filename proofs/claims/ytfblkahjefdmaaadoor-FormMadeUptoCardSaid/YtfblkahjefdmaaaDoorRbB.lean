/- Walks: the document's own answer: Marked, Digits, Plain. -/
import Derived.Test.YtfblkahjefdmaaaDoorRbA
import Derived.Test.YtfblkahjefdmaaaDoorFdL
namespace Go.Proofs.YtfblkahjefdmaaaDoor
open Go.RowKit

set_option maxRecDepth 100000 in
set_option maxHeartbeats 2000000 in
theorem marked_any (m : List Int) (bs : ByteArray) (ham : ∀ (c : Int) (w : World), Calls Tryd.prog 30 #[.string bs, .int .i32 c] w (BoolP (decide (c ∈ m)) w)) (s : List Int) (vs : Value) (w : World) (hs : SlC w vs s) (hb : s.length ≤ 1000000000) :
    Calls Tryd.prog 34 #[vs, .string bs] w (RetP (fun w' v => OwnB 21 1 Cc w.heap.size w' v (FM.guard m s)) w) := by
  have H := Lib.hid hs
  obtain ⟨A, ca, rfl, hlx, hcx, -⟩ := hs
  have HAM := Lib.hid ham
  clear ham
  go_enter Tryd.func34, Tryd.ntmps34
  go_wp2_with fail
  go_loopw [5, 6] (fun v i wr => ∃ k : Nat, k ≤ s.length ∧ i = .int .i64 (k : Int) ∧ Acs w v (FM.guard m (s.take k)) wr) (fun _ i _ => s.length - (intOf i).toNat)
  case atStart => exact ⟨0, Nat.zero_le _, rfl, OwnB.nil_, Ext.refl w⟩
  case round =>
    obtain ⟨k, hk, rfl, hac⟩ := hrel
    have HA := Lib.hid hac
    have hlen : (FM.guard m (s.take k)).length ≤ 2000000000 := by
      have := guard_bound m (s.take k)
      rw [List.length_take] at this
      omega
    obtain ⟨Ao, co, rfl, -⟩ := hac.own.form
    have hws := hac.size
    clear hac
    by_cases hlt : k < s.length
    · obtain ⟨b, o, rfl, hc0⟩ := H.out.at_ hlt
      have hc := HA.out.ext.cell hc0
      have HC0 := Lib.hid hc0
      clear hc0
      have hgt := guard_take (m := m) hlt
      by_cases hm : s[k] ∈ m
      · have HM := Lib.hid (show decide (s[k] ∈ m) = true from decide_eq_true hm)
        rw [if_pos hm] at hgt
        have HG := Lib.hid (show FM.guard m (s.take (k + 1)) = (FM.guard m (s.take k) ++ [92]) ++ [s[k]] by rw [hgt]; simp)
        clear hm hgt
        generalize s[k] = x at hc HM HG HC0
        generalize FM.guard m (s.take k) = acc at HA HG hlen ⊢
        have tok1 : True := trivial
        go_wp2_with (first
          | (go_at_call 30; refine (HAM.out x _).mono ?_; rw [HM.out]; rintro e' w2 ⟨rfl, rfl⟩)
          | (at_builtin; have _t := tok1; go_loud (refine app_i32 rfl _ _ rfl w.heap.size _ acc [92] HA.out.own.allocs rfl ⟨wr.heap.size, 0, none⟩ 1 1 rfl rfl (one_cells rfl) ?hn ?hB ?_; (case hn => (simp only [List.length_cons, List.length_nil]; omega)); (case hB => (simp; omega)); intro v' w' h1 h2; generalize hl : acc ++ [92] = acc2 at h1; have HL := Lib.hid hl; have hl2 : acc2.length ≤ acc.length + 1 := (by rw [← hl, List.length_append]; exact Nat.le_refl _); obtain ⟨A2, c2, rfl, -⟩ := h1.form; have HA2 := Lib.hid (Acs.app (Acs.alloc HA.out) h1 h2); have hws := HA2.out.size; have hc := HA2.out.ext.cell HC0.out; clear h1 h2 hl tok1 _t))
          | (at_builtin; go_loud (refine app_i32 rfl _ _ rfl w.heap.size _ acc2 [x] HA2.out.own.allocs rfl ⟨w'.heap.size, 0, none⟩ 1 1 rfl rfl (one_cells rfl) ?hn ?hB ?_; (case hn => (simp only [List.length_cons, List.length_nil]; omega)); (case hB => (simp; omega)); intro v3 w3 h1 h2; generalize hl : acc2 ++ [x] = acc3 at h1; have HL3 := Lib.hid hl; obtain ⟨A3, c3, rfl, -⟩ := h1.form; have HA3 := Lib.hid (Acs.app (Acs.alloc HA2.out) h1 h2); clear h1 h2 hl)))
        go_roundw
        case rel => exact ⟨k + 1, by omega, by go_num, by rw [HG.out, HL.out, HL3.out]; exact HA3.out⟩
        case measure => simp [intOf]; omega
      · have HM := Lib.hid (show decide (s[k] ∈ m) = false from decide_eq_false hm)
        rw [if_neg hm] at hgt
        have HG := Lib.hid hgt
        clear hm hgt
        generalize s[k] = x at hc HM HG HC0
        generalize FM.guard m (s.take k) = acc at HA HG hlen ⊢
        go_wp2_with (first
          | (go_at_call 30; refine (HAM.out x _).mono ?_; rw [HM.out]; rintro e' w2 ⟨rfl, rfl⟩)
          | (at_builtin; go_loud (refine app_i32 rfl _ _ rfl w.heap.size _ acc [x] HA.out.own.allocs rfl ⟨wr.heap.size, 0, none⟩ 1 1 rfl rfl (one_cells rfl) ?hn ?hB ?_; (case hn => (simp only [List.length_cons, List.length_nil]; omega)); (case hB => (simp; omega)); intro v3 w3 h1 h2; generalize hl : acc ++ [x] = acc3 at h1; have HL3 := Lib.hid hl; obtain ⟨A3, c3, rfl, -⟩ := h1.form; have HA3 := Lib.hid (Acs.app (Acs.alloc HA.out) h1 h2); clear h1 h2 hl)))
        go_roundw
        case rel => exact ⟨k + 1, by omega, by go_num, by rw [HG.out, HL3.out]; exact HA3.out⟩
        case measure => simp [intOf]; omega
    · have HT := Lib.hid (show FM.guard m (s.take k) = FM.guard m s by rw [List.take_of_length_le (by omega)])
      generalize FM.guard m (s.take k) = acc at HA HT ⊢
      go_wp2_with fail
      go_ret
      exact ⟨_, rfl, by rw [← HT.out]; exact HA.out.own, HA.out.ext⟩

set_option maxHeartbeats 1000000 in
theorem rplain_any (s : ByteArray) (w : World) (hs : s.size ≤ 1000000) : Calls Tryd.prog 36 #[.string s] w (RetP (fun w' v => OwnB 21 1 Cc w.heap.size w' v (signs s)) w) := by
  go_enter Tryd.func36, Tryd.ntmps36
  go_wp2_with fail
  go_loopw [3, 4] (fun v i wr => ∃ k : Nat, k ≤ s.size ∧ i = .int .i64 k ∧ OwnB 21 1 Cc w.heap.size wr v ((signs s).take k) ∧ Ext w wr) (fun _ i _ => s.size - (intOf i).toNat)
  case atStart => exact ⟨0, Nat.zero_le _, rfl, OwnB.nil_, Ext.refl w⟩
  case round =>
    obtain ⟨k, hk, rfl, hown, hE⟩ := hrel
    have HOW := Lib.hid hown
    have HE := Lib.hid hE
    have HLT := Lib.hid hown.lt
    obtain ⟨A, c, rfl, hlc, hcm⟩ := hown.form
    have hlen : ((signs s).take k).length ≤ 1000000 := by rw [List.length_take, signs_len]; omega
    have hsz := hE.size
    by_cases hlt : k < s.size
    · have HT := Lib.hid (signs_take hlt)
      have HW := Lib.hid (wrap_byte s[k])
      generalize (signs s).take k = xs at HOW HLT HT hlen hlc ⊢
      obtain ⟨xs', hxs'⟩ : ∃ l, l = (signs s).take (k + 1) := ⟨_, rfl⟩
      rw [← hxs'] at HT
      have HX := Lib.hid hxs'
      clear hown hE hxs'
      have hi0 : w.heap.size ≤ (wr.alloc (.cells #[.int .i32 (wrap32 (s[k].toNat : Int))] 21)).heap.size := by simp; omega
      go_wp2_with (at_builtin; go_loud (refine app_i32 rfl _ _ rfl w.heap.size _ xs [wrap32 (s[k].toNat : Int)] ?hown rfl ⟨wr.heap.size, 0, none⟩ 1 1 rfl rfl ?hc ?hn ?hB ?_; (case hown => exact HOW.out.allocs); (case hc => exact one_cells rfl); (case hn => (simp only [List.length_cons, List.length_nil]; omega)); (case hB => exact hi0); intro v' w' h1 h2; have HX2 := Lib.hid (And.intro h1 ((HE.out.alloc _).grown h2 (fun k hk => (HLT.out k hk).1))); clear h1 h2))
      go_roundw
      case rel => exact ⟨k + 1, by omega, by go_num, by rw [← HX.out, HT.out, ← HW.out]; exact HX2.out.1, HX2.out.2⟩
      case measure => simp [intOf]; omega
    · have hk2 : k = s.size := by omega
      have HT := Lib.hid (show (signs s).take k = signs s by rw [hk2, ← signs_len, List.take_length])
      clear hown hE hk2
      go_wp2_with fail
      go_ret
      exact ⟨_, rfl, by have := HOW.out; rw [HT.out] at this ⊢; exact this, HE.out⟩
end Go.Proofs.YtfblkahjefdmaaaDoor
