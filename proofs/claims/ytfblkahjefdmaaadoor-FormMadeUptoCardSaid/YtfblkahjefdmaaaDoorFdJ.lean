/- Walks: numerals below a hundred; a text with backslashes. -/
import Derived.Test.YtfblkahjefdmaaaDoorFdH
namespace Go.Proofs.YtfblkahjefdmaaaDoor
open Go.RowKit

theorem runes_from (s : ByteArray) (h : ∀ k (hk : k < s.size), s[k].toNat < 128) : ∀ (n i : Nat) (acc : Array Value), s.size - i ≤ n → Conv.runesFrom s n i acc = acc ++ (((signs s).drop i).map (Value.int .i32)).toArray
  | 0, i, acc, hn => by
    rw [List.drop_eq_nil_of_le (by rw [signs_len]; omega)]
    simp [Conv.runesFrom]
  | n + 1, i, acc, hn => by
    unfold Conv.runesFrom
    split
    · rename_i hi
      have hd : Utf8.decode s i = (s[i].toNat, 1) := by
        have h1 := h i hi
        have h2 : (s.get! (i + 0)).toNat = s[i].toNat := by
          have hi' : i < s.data.size := hi
          show (s.data[i + 0]!).toNat = (s.data[i]'hi').toNat
          rw [Nat.add_zero, getElem!_pos s.data i hi']
        unfold Utf8.decode
        simp only [h2]
        rw [if_pos h1]
      rw [hd]
      simp only
      rw [runes_from s h n (i + 1) _ (by omega)]
      have hl : i < (signs s).length := by rw [signs_len]; exact hi
      rw [List.drop_eq_getElem_cons hl]
      have e : (signs s)[i] = (s[i].toNat : Int) := by simp [signs]; rfl
      rw [e]
      simp
    · rw [List.drop_eq_nil_of_le (by rw [signs_len]; omega)]
      simp
theorem runes_ascii (s : ByteArray) (h : ∀ x ∈ signs s, x < 128) : Conv.runesFrom s s.size 0 #[] = ((signs s).map (Value.int .i32)).toArray := by
  rw [runes_from s (fun k hk => ?_) _ _ _ (Nat.sub_le _ _)]
  · simp
  · have hl : k < (signs s).length := by rw [signs_len]; exact hk
    have e : (signs s)[k] = (s[k].toNat : Int) := by simp [signs]; rfl
    have := h _ (List.getElem_mem hl)
    rw [e] at this; omega

def StrP (l : List Int) (w : World) (e : Ending) (w' : World) : Prop := ∃ b : ByteArray, e = .returned (.string b) ∧ signs b = l ∧ w = w'
theorem small_one : ∀ g, g < 10 → signs (ByteArray.extract { data := #[48, 49, 50, 51, 52, 53, 54, 55, 56, 57, 97, 98, 99, 100, 101, 102, 103, 104, 105, 106, 107, 108, 109, 110, 111, 112, 113, 114, 115, 116, 117, 118, 119, 120, 121, 122] } g (g + 1)) = FM.dec g := by decide +kernel
def dec2 : ByteArray := { data := #[48, 48, 48, 49, 48, 50, 48, 51, 48, 52, 48, 53, 48, 54, 48, 55, 48, 56, 48, 57, 49, 48, 49, 49, 49, 50, 49, 51, 49, 52, 49, 53, 49, 54, 49, 55, 49, 56, 49, 57, 50, 48, 50, 49, 50, 50, 50, 51, 50, 52, 50, 53, 50, 54, 50, 55, 50, 56, 50, 57, 51, 48, 51, 49, 51, 50, 51, 51, 51, 52, 51, 53, 51, 54, 51, 55, 51, 56, 51, 57, 52, 48, 52, 49, 52, 50, 52, 51, 52, 52, 52, 53, 52, 54, 52, 55, 52, 56, 52, 57, 53, 48, 53, 49, 53, 50, 53, 51, 53, 52, 53, 53, 53, 54, 53, 55, 53, 56, 53, 57, 54, 48, 54, 49, 54, 50, 54, 51, 54, 52, 54, 53, 54, 54, 54, 55, 54, 56, 54, 57, 55, 48, 55, 49, 55, 50, 55, 51, 55, 52, 55, 53, 55, 54, 55, 55, 55, 56, 55, 57, 56, 48, 56, 49, 56, 50, 56, 51, 56, 52, 56, 53, 56, 54, 56, 55, 56, 56, 56, 57, 57, 48, 57, 49, 57, 50, 57, 51, 57, 52, 57, 53, 57, 54, 57, 55, 57, 56, 57, 57] }
set_option maxRecDepth 100000 in
theorem small_two : ∀ g, g < 100 → 10 ≤ g → signs (dec2.extract (g * 2) (g * 2 + 2)) = FM.dec g := by decide +kernel
set_option maxRecDepth 100000 in
set_option maxHeartbeats 1000000 in
theorem small_any (g : Nat) (hg : g < 100) (w : World) : Calls Tryd.prog 67 #[.int .i64 (g : Int)] w (StrP (FM.dec g) w) := by
  by_cases h : g < 10
  · have HS := Lib.hid (small_one g h)
    have h2 : (g : Int) < 10 := by omega
    go_enter Tryd.func67, Tryd.ntmps67
    go_wp2_with fail
    go_ret
    exact ⟨_, rfl, HS.out, rfl⟩
  · have HS := Lib.hid (small_two g hg (by omega))
    have h2 : ¬ (g : Int) < 10 := by omega
    have e1 : IntKind.i64.wrap ((g : Int) * 2) = (g : Int) * 2 := IntWalk.i64_in _ (by omega)
    go_enter Tryd.func67, Tryd.ntmps67
    go_wp2_with fail
    go_ret
    exact ⟨_, rfl, HS.out, rfl⟩
set_option maxHeartbeats 1000000 in
theorem formatint_any (g : Nat) (hg : g < 100) (w : World) : Calls Tryd.prog 63 #[.int .i64 (g : Int), .int .i64 10] w (StrP (FM.dec g) w) := by
  have HS := Lib.hid (small_any g hg w)
  have h1 : decide ((0 : Int) ≤ (g : Int)) = true := by simp
  have h2 : decide ((g : Int) < 100) = true := by simp; omega
  go_enter Tryd.func63, Tryd.ntmps63
  go_wp2_with fail
  refine HS.out.mono ?_
  rintro e w' ⟨b, rfl, hb, rfl⟩
  have HB := Lib.hid hb
  clear hb
  go_wp2_with fail
  go_ret
  exact ⟨_, rfl, HB.out, rfl⟩
set_option maxHeartbeats 1000000 in
theorem itoai_any (g : Nat) (hg : g < 100) (w : World) : Calls Tryd.prog 57 #[.int .i64 (g : Int)] w (StrP (FM.dec g) w) := by
  have HS := Lib.hid (formatint_any g hg w)
  go_enter Tryd.func57, Tryd.ntmps57
  go_wp2_with fail
  refine HS.out.mono ?_
  rintro e w' ⟨b, rfl, hb, rfl⟩
  have HB := Lib.hid hb
  clear hb
  go_wp2_with fail
  go_ret
  exact ⟨_, rfl, HB.out, rfl⟩
set_option maxHeartbeats 1000000 in
theorem itoa_any (g : Nat) (hg : g < 100) (w : World) : Calls Tryd.prog 48 #[.int .i64 (g : Int)] w (StrP (FM.dec g) w) := by
  have HS := Lib.hid (itoai_any g hg w)
  go_enter Tryd.func48, Tryd.ntmps48
  go_wp2_with fail
  refine HS.out.mono ?_
  rintro e w' ⟨b, rfl, hb, rfl⟩
  have HB := Lib.hid hb
  clear hb
  go_wp2_with fail
  go_ret
  exact ⟨_, rfl, HB.out, rfl⟩

/-- Behind what appends to a row of the caller's own: the row; no cell of a part is written. -/
def GrP (w0 : World) (out : List Int) (wr : World) (e : Ending) (w' : World) : Prop := ∃ A c, e = .returned (.slice A out.length c) ∧ Acs w0 (.slice A out.length c) out w' ∧ KeepT [34] wr w'
theorem Acs.keepF {w wr w' : World} {v : Value} {out : List Int} (h : Acs w v out wr) (h2 : wr.grownBy w' v.ownBlock) : KeepT [34] wr w' :=
  KeepT.of_grown h2 (fun g hg => by obtain ⟨cur, hh⟩ := h.own.type g hg; exact ⟨cur, _, hh, by decide⟩)
theorem guard_take {m s : List Int} {k : Nat} (h : k < s.length) : FM.guard m (s.take (k + 1)) = FM.guard m (s.take k) ++ (if s[k] ∈ m then [92, s[k]] else [s[k]]) := by
  unfold FM.guard
  rw [List.take_succ_eq_append_getElem h, List.map_append, List.flatten_append]
  congr 1
  simp
theorem guard_bound (m : List Int) : ∀ s : List Int, (FM.guard m s).length ≤ 2 * s.length
  | [] => by simp [FM.guard]
  | c :: s => by
    have := guard_bound m s
    rw [FM.guard_len]
    simp only [List.length_cons]
    split <;> omega
set_option maxRecDepth 100000 in
set_option maxHeartbeats 2000000 in
theorem guarded_any (m : List Int) (bs : ByteArray) (ham : ∀ (c : Int) (w : World), Calls Tryd.prog 43 #[.int .i32 c, .string bs] w (Ret (.bool (decide (c ∈ m))) w)) (w0 wr : World) (v vs : Value) (out s : List Int) (h : Acs w0 v out wr) (hs : SlC w0 vs s) (hb : out.length + 2 * s.length ≤ 35184372088000) :
    Calls Tryd.prog 47 #[v, vs, .string bs] wr (GrP w0 (out ++ FM.guard m s) wr) := by
  have H := Lib.hid hs
  have HC := Lib.hid h
  have HAM := Lib.hid ham
  obtain ⟨A, ca, rfl, hlx, hcx, -⟩ := hs
  obtain ⟨Ao, co, rfl, -⟩ := h.own.form
  clear h ham
  go_enter Tryd.func47, Tryd.ntmps47
  go_wp2_with fail
  go_loopw [0, 11] (fun v i wk => ∃ k : Nat, k ≤ s.length ∧ i = .int .i64 (k : Int) ∧ Acs w0 v (out ++ FM.guard m (s.take k)) wk ∧ KeepT [34] wr wk) (fun _ i _ => s.length - (intOf i).toNat)
  case atStart => exact ⟨0, Nat.zero_le _, rfl, by simpa [FM.guard] using HC.out, KeepT.refl _ _⟩
  case round =>
    obtain ⟨k, hk, rfl, hac, hkt⟩ := hrel
    have HA := Lib.hid hac
    have HK := Lib.hid hkt
    have hlen : (out ++ FM.guard m (s.take k)).length ≤ 35184372088000 := by
      have := guard_bound m (s.take k)
      rw [List.length_take] at this
      rw [List.length_append]; omega
    obtain ⟨Ao, co, rfl, -⟩ := hac.own.form
    have hws := hac.size
    clear hac hkt
    by_cases hlt : k < s.length
    · obtain ⟨b, o, rfl, hc⟩ := (H.out.ext HA.out.ext).at_ hlt
      have hgt := guard_take (m := m) hlt
      by_cases hm : s[k] ∈ m
      · have HM := Lib.hid (show decide (s[k] ∈ m) = true from decide_eq_true hm)
        rw [if_pos hm] at hgt
        have HG := Lib.hid (show out ++ FM.guard m (s.take (k + 1)) = ((out ++ FM.guard m (s.take k)) ++ [92]) ++ [s[k]] by rw [hgt]; simp)
        clear hm hgt
        generalize s[k] = x at hc HM HG
        generalize out ++ FM.guard m (s.take k) = acc at HA HG hlen ⊢
        have tok1 : True := trivial
        go_wp2_with (first
          | (go_at_call 43; refine (HAM.out x _).mono ?_; rw [HM.out]; rintro e' w2 ⟨rfl, hx⟩; have HA := Lib.hid (Acs.call HA.out hx); have HK := Lib.hid (HK.out.trans (KeepT.of_ext hx)); have hws := HA.out.size; clear hx)
          | (at_builtin; have _t := tok1; go_loud (refine app_i32 rfl _ _ rfl w0.heap.size _ acc [92] HA.out.own.allocs rfl ⟨w2.heap.size, 0, none⟩ 1 1 rfl rfl (one_cells rfl) ?hn ?hB ?_; (case hn => (simp only [List.length_cons, List.length_nil]; omega)); (case hB => (simp; omega)); intro v' w' h1 h2; generalize hl : acc ++ [92] = acc2 at h1; have HL := Lib.hid hl; have hl2 : acc2.length ≤ acc.length + 1 := (by rw [← hl, List.length_append]; exact Nat.le_refl _); obtain ⟨A2, c2, rfl, -⟩ := h1.form; have HK := Lib.hid ((HK.out.trans (KeepT.of_ext ((Ext.refl w2).alloc _))).trans (Acs.keepF (Acs.alloc HA.out) h2)); have HA2 := Lib.hid (Acs.app (Acs.alloc HA.out) h1 h2); have hws := HA2.out.size; clear h1 h2 hl tok1 _t))
          | (at_builtin; go_loud (refine app_i32 rfl _ _ rfl w0.heap.size _ acc2 [x] HA2.out.own.allocs rfl ⟨w'.heap.size, 0, none⟩ 1 1 rfl rfl (one_cells rfl) ?hn ?hB ?_; (case hn => (simp only [List.length_cons, List.length_nil]; omega)); (case hB => (simp; omega)); intro v3 w3 h1 h2; generalize hl : acc2 ++ [x] = acc3 at h1; have HL3 := Lib.hid hl; obtain ⟨A3, c3, rfl, -⟩ := h1.form; have HK := Lib.hid ((HK.out.trans (KeepT.of_ext ((Ext.refl w').alloc _))).trans (Acs.keepF (Acs.alloc HA2.out) h2)); have HA3 := Lib.hid (Acs.app (Acs.alloc HA2.out) h1 h2); clear h1 h2 hl)))
        go_roundw
        case rel => exact ⟨k + 1, by omega, by go_num, by rw [HG.out, HL.out, HL3.out]; exact HA3.out, HK.out⟩
        case measure => simp [intOf]; omega
      · have HM := Lib.hid (show decide (s[k] ∈ m) = false from decide_eq_false hm)
        rw [if_neg hm] at hgt
        have HG := Lib.hid (show out ++ FM.guard m (s.take (k + 1)) = (out ++ FM.guard m (s.take k)) ++ [s[k]] by rw [hgt]; simp)
        clear hm hgt
        generalize s[k] = x at hc HM HG
        generalize out ++ FM.guard m (s.take k) = acc at HA HG hlen ⊢
        go_wp2_with (first
          | (go_at_call 43; refine (HAM.out x _).mono ?_; rw [HM.out]; rintro e' w2 ⟨rfl, hx⟩; have HA := Lib.hid (Acs.call HA.out hx); have HK := Lib.hid (HK.out.trans (KeepT.of_ext hx)); have hws := HA.out.size; clear hx)
          | (at_builtin; go_loud (refine app_i32 rfl _ _ rfl w0.heap.size _ acc [x] HA.out.own.allocs rfl ⟨w2.heap.size, 0, none⟩ 1 1 rfl rfl (one_cells rfl) ?hn ?hB ?_; (case hn => (simp only [List.length_cons, List.length_nil]; omega)); (case hB => (simp; omega)); intro v3 w3 h1 h2; generalize hl : acc ++ [x] = acc3 at h1; have HL3 := Lib.hid hl; obtain ⟨A3, c3, rfl, -⟩ := h1.form; have HK := Lib.hid ((HK.out.trans (KeepT.of_ext ((Ext.refl w2).alloc _))).trans (Acs.keepF (Acs.alloc HA.out) h2)); have HA3 := Lib.hid (Acs.app (Acs.alloc HA.out) h1 h2); clear h1 h2 hl)))
        go_roundw
        case rel => exact ⟨k + 1, by omega, by go_num, by rw [HG.out, HL3.out]; exact HA3.out, HK.out⟩
        case measure => simp [intOf]; omega
    · have HT := Lib.hid (show out ++ FM.guard m (s.take k) = out ++ FM.guard m s by rw [List.take_of_length_le (by omega)])
      generalize out ++ FM.guard m (s.take k) = acc at HA HT hlen ⊢
      go_wp2_with fail
      go_ret
      rw [← HT.out]
      exact ⟨_, _, rfl, HA.out, HK.out⟩
end Go.Proofs.YtfblkahjefdmaaaDoor
