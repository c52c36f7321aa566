/- Walk: All of the document's own matcher. -/
import Derived.Test.YtfblkahjefdmaaaGreatRmD
import Derived.Test.YtfblkahjefdmaaaGreatMb
namespace Go.Proofs.YtfblkahjefdmaaaGreat
open Go.RowKit

set_option maxRecDepth 100000 in
set_option maxHeartbeats 4000000 in
theorem rall_any {w : World} {mb : Nat} {sv vp : Value} {prog : List PG.Inst} {g e : Nat} {fold : Bool} {s : List Int} (hmade : PG.Made prog g e) (hset : ∀ x ∈ prog, x.set.length ≤ 1000) (hg : g ≤ 200)
    (hm : Rmt w mb vp prog g fold) (hs : SlC w sv s) (hsl : s.length ≤ 1000) :
    Calls Tryz.prog 15 #[.pointer (some ⟨mb, 0, none⟩), sv] w (AllP (MX.act prog fold s) s.length (MX.blank g) w) := by
  obtain ⟨L, hL⟩ := MX.alls_total hmade fold s _ 0 (Nat.le_refl _)
  obtain ⟨As, cs, rfl, hsc, hscm, -⟩ := id hs
  have HFI := Lib.hid (fun (w' : World) (h : Ext w w') (k : Nat) (hk : k ≤ s.length) => rfind_any hmade hset hg (hm.ext h) (hs.ext h) hsl k hk)
  have HMA := Lib.hid (fun (at_ : Nat) (r : List Int) (h : MX.First (MX.act prog fold s) s.length (MX.blank g) at_ (some r)) => MX.first_match hmade h)
  have HL := Lib.hid hL
  generalize hA : MX.act prog fold s = A at HFI HMA HL ⊢
  clear hL hm hs hmade hset hA
  go_enter Tryz.func15, Tryz.ntmps15
  go_upto_region 3 with fail
  go_loopw [5, 6] (fun x5 x6 wr => ∃ (j : Nat) (L0 L1 : List (List Int)), x6 = .int .i64 (j : Int) ∧ j ≤ s.length + 1 ∧ L0.length ≤ j ∧ Ext w wr ∧ OwnB 39 1 (Cn w) w.heap.size wr x5 L0 ∧ MX.Alls A s.length (MX.blank g) j L1 ∧ L0 ++ L1 = L) (fun _ x6 _ => s.length + 2 - (intOf x6).toNat)
  case atStart => exact ⟨0, [], L, rfl, Nat.zero_le _, Nat.le_refl _, Ext.refl _, OwnB.nil_, HL.out, rfl⟩
  case round =>
    obtain ⟨j, L0, L1, rfl, hj, hlj, hx, hown, hal, happ⟩ := hrel
    have HX := Lib.hid hx
    have HO := Lib.hid hown
    have HAL := Lib.hid hal
    have HAP := Lib.hid happ
    obtain ⟨Ao, co, rfl, -, -⟩ := hown.form
    have hB : w.heap.size ≤ wr.heap.size := hx.size
    clear hown hal happ
    by_cases hlt : j ≤ s.length
    rotate_left
    · have hd : decide ((j : Int) ≤ (s.length : Int)) = false := by simp; omega
      have HN := Lib.hid (show L1 = [] by
        have h1 := HAL.out
        cases h1 with
        | out => rfl
        | none_ => rfl
        | more _ _ _ _ _ h2 => omega)
      clear hx
      go_wp2_with fail
      go_ret
      exact ⟨HX.out, L0, _, by have h1 := HAP.out; rw [HN.out, List.append_nil] at h1; rw [h1]; exact HL.out, rfl, HO.out.sl⟩
    have hd : decide ((j : Int) ≤ (s.length : Int)) = true := by simp; omega
    have hcase : (MX.First A s.length (MX.blank g) j none ∧ L1 = []) ∨ ∃ (r : List Int) (a b : Nat) (L2 : List (List Int)), MX.First A s.length (MX.blank g) j (some r) ∧ r[0]? = some (a : Int) ∧ r[1]? = some (b : Int) ∧ MX.Alls A s.length (MX.blank g) (if a = b then b + 1 else b) L2 ∧ L1 = r :: L2 := by
      have h1 := HAL.out
      cases h1 with
      | out _ h => omega
      | none_ _ _ h => exact .inl ⟨h, rfl⟩
      | more _ a b r L2 _ h2 h3 h4 h5 => exact .inr ⟨r, a, b, L2, h2, h3, h4, h5, rfl⟩
    rcases hcase with ⟨hf, rfl⟩ | ⟨r, a, b, L2, hf, ha, hb, hl2, rfl⟩
    · have HC := Lib.hid (show Calls Tryz.prog 13 #[.pointer (some ⟨mb, 0, none⟩), .slice As s.length cs, .int .i64 (j : Int)] wr (Ret (.tuple #[.slice none 0 0, .bool false]) wr) from (HFI.out wr hx j hlt).mono (by
        rintro e2 w2 ⟨hx2, r, hfr, hre⟩
        obtain rfl := MX.first_one hfr hf
        exact ⟨hre, hx2⟩))
      clear hx hf
      go_wp2_with (go_at_call 13; go_loud (refine HC.out.mono ?_; rintro e2 w2 ⟨rfl, hx2⟩; have HX2 := Lib.hid hx2; clear hx2))
      go_ret
      refine ⟨HX.out.trans HX2.out, L0, _, by have h1 := HAP.out; rw [List.append_nil] at h1; rw [h1]; exact HL.out, rfl, SlB.keep HO.out.sl (keeps_n w) (KeepT.of_ext HX2.out) (KeepT.of_ext HX2.out)⟩
    · have HC := Lib.hid (show Calls Tryz.prog 13 #[.pointer (some ⟨mb, 0, none⟩), .slice As s.length cs, .int .i64 (j : Int)] wr (fun e w' => Ext wr w' ∧ ∃ v, e = .returned (.tuple #[v, .bool true]) ∧ NtS wr w' v r) from (HFI.out wr hx j hlt).mono (by
        rintro e2 w2 ⟨hx2, r2, hfr, hre⟩
        obtain rfl := MX.first_one hfr hf
        exact ⟨hx2, hre⟩))
      have hm := HMA.out j r hf
      have hab : j ≤ a ∧ a ≤ b ∧ b ≤ s.length := by
        obtain ⟨p, h1, h2, h3, -⟩ := hm
        have e1 := h3.first
        rw [ha] at e1
        obtain ⟨b', h4, h5, h6, -⟩ := h3.last
        rw [hb] at h4
        have e1 := Option.some.inj e1
        have e2 := Option.some.inj h4
        omega
      have hrl : 2 ≤ r.length := by
        obtain ⟨h1, -⟩ := List.getElem?_eq_some_iff.1 hb
        omega
      have HRA := Lib.hid ha
      have HRB := Lib.hid hb
      have HL2 := Lib.hid hl2
      have HAP2 := Lib.hid (show (L0 ++ [r]) ++ L2 = L by rw [← HAP.out]; simp)
      clear hx hf hm ha hb hl2
      have hl0 : L0.length ≤ 1000000 := by omega
      have hNX : ∃ c : Nat, (if a = b then b + 1 else b) = c ∧ j + 1 ≤ c ∧ c ≤ s.length + 1 := ⟨_, rfl, by split <;> omega, by split <;> omega⟩
      have s1 : IntKind.i64.wrap ((b : Int) + 1) = ((b + 1 : Nat) : Int) := by rw [IntWalk.i64_in _ (by omega)]; omega
      rcases hz : ((a : Int) == (b : Int)) with _ | _
      all_goals go_wp2_with (first
        | (go_at_call 13; go_loud (refine HC.out.mono ?_; rintro e2 w2 ⟨hx2, v2, rfl, nb, rfl, hnb, hh2⟩; have HX2 := Lib.hid hx2; have HNB := Lib.hid hnb; have HH2 := Lib.hid hh2; have HO2 := Lib.hid (HO.out.keepT (keeps_n w) (KeepT.of_ext hx2) (KeepT.of_ext hx2)); have hB2 : w.heap.size ≤ w2.heap.size := Nat.le_trans hB hx2.size; clear hx2 hnb hh2))
        | (at_builtin; go_loud (refine app_one Tryz.underlying42 info_ri rfl (by decide) (by decide) (keeps_n w) (by decide) rfl _ _ rfl w.heap.size _ L0 r [.slice (some ⟨nb, 0, none⟩) r.length r.length] 39 HO2.out ⟨_, rfl, nb, rfl, Nat.le_trans hB HNB.out, HH2.out⟩ rfl (by simp [Value.oneCell']) rfl w2.heap.size rfl rfl hl0 hB2 ?_; intro v3 w3 h3 h4; have HO3 := Lib.hid h3; have hE3 := ((Ext.refl w2).alloc (.cells #[.slice (some ⟨nb, 0, none⟩) r.length r.length] 39)); have hh3 := cells_far h4 HO2.out (hE3.heap HH2.out) (by decide) hE3; have HX3 := Lib.hid ((HX.out.trans HX2.out).grown2 hE3 h4 (fun k hk => (HO2.out.lt k hk).1)); have e0 := cell_note hh3 HRA.out; have e1 := cell_note hh3 HRB.out; have hr2 : (1 : Int) < (r.length : Int) := (by omega); have hr1 : (0 : Int) < (r.length : Int) := (by omega); clear h3 h4 hE3 hh3)))
      all_goals
        go_quiet (fail)
        go_wp2_with fail
        go_roundw
      case rel => exact ⟨b, _, L2, rfl, by omega, by have := beq_eq_false_iff_ne.1 hz; simp; omega, HX3.out.drewN _, OwnB.keepP HO3.out (fun _ _ hc => hc) (fun _ _ _ hg => hg), by have h1 := HL2.out; rw [if_neg (by intro e; rw [e] at hz; simp at hz)] at h1; exact h1, HAP2.out⟩
      case measure => have := beq_eq_false_iff_ne.1 hz; simp [intOf]; omega
      case rel => exact ⟨b + 1, _, L2, by go_num, by omega, by simp; omega, HX3.out.drewN _, OwnB.keepP HO3.out (fun _ _ hc => hc) (fun _ _ _ hg => hg), by have h1 := HL2.out; rw [if_pos (by have := beq_iff_eq.1 hz; omega)] at h1; exact h1, HAP2.out⟩
      case measure => simp [intOf]; omega
end Go.Proofs.YtfblkahjefdmaaaGreat
