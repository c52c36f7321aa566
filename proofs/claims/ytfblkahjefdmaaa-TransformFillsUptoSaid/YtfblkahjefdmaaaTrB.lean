/- Walks: Case of package signs: each, runs, slices.Clone. -/
import Derived.Test.YtfblkahjefdmaaaRcs
import Derived.Test.YtfblkahjefdmaaaMa
import Derived.Lib.SliceRun
namespace Go.Proofs.Ytfblkahjefdmaaa
open Go.RowKit

namespace TR
/-- The runs of a text put together. -/
def runsL (first : Int → Int) : List Int → List Int → Bool → List Int
  | [], out, _ => out
  | x :: s, out, b => if RX.classOf x = 3 ∧ x ≠ 95 then runsL first s (out ++ [if b = true then x else if out.isEmpty = true then first x else RX.upper x]) true else runsL first s out false
def runs (first : Int → Int) (s : List Int) : List Int := runsL first s [] false
def capT : List Int → List Int
  | [] => []
  | x :: s => RX.upper x :: s
/-- A text in a case. -/
def caseP (how : Int) (s : List Int) : List Int :=
  if how = 1 then s.map RX.upper else if how = 2 then s.map RX.lower else if how = 3 then capT s else if how = 4 then runs RX.upper s else if how = 5 then runs RX.lower s else s
theorem runsL_len (first : Int → Int) : ∀ (s out : List Int) (b : Bool), (runsL first s out b).length ≤ out.length + s.length
  | [], out, _ => by simp [runsL]
  | x :: s, out, b => by
    rw [runsL]
    split
    · have := runsL_len first s (out ++ [if b = true then x else if out.isEmpty = true then first x else RX.upper x]) true
      simp at this ⊢; omega
    · have := runsL_len first s out false
      simp; omega
theorem caseP_len (how : Int) (s : List Int) : (caseP how s).length ≤ s.length := by
  unfold caseP
  split
  · simp
  split
  · simp
  split
  · cases s <;> simp [capT]
  split
  · have := runsL_len RX.upper s [] false; simpa [runs] using this
  split
  · have := runsL_len RX.lower s [] false; simpa [runs] using this
  · exact Nat.le_refl _
end TR
theorem app_i32L {w : World} {ops : Array Oper} {rest : List Oper} {o : Oper} {a : Act} {Q : Exit → Act → World → Prop} (hgd : o.guard = none) (s x : Operand) (ho : o.op = .call { callee := .builtin .append, args := #[s, x], argTypes := #[23, 23] })
    (B : Nat) (v : Value) (xs ys : List Int) (hown : OwnB 21 1 Cc B w v xs) (hs : a.eval s = v) (ad : Addr) (m c : Nat) (hx : a.eval x = .slice (some ad) m c) (hm : m = ys.length)
    (hc : ∀ j y, ys[j]? = some y → w.cell? (ad.add j) = some (.int .i32 y)) (hn : xs.length + ys.length ≤ 35184372088832) (hB : B ≤ w.heap.size)
    (h : ∀ v' w', OwnB 21 1 Cc B w' v' (xs ++ ys) → w.grownBy w' v.ownBlock → wpList Try.prog ops Q rest (a.put o.dst v') w') :
    wpList Try.prog ops Q (o :: rest) a w := by
  subst hm
  obtain ⟨i0, hi, hz0, hz1, hz2⟩ := info_parts info_c
  refine wpList_append_own (P := Try.prog) (w := w) hgd s x _ ho B 21 i0 (.int .i32 0) 1 4 Try.underlying23 hi hz0 hz1 hz2 rfl (by decide) v xs.length _ hs hown.flat_i32 ad ys.length c (ys.map (Value.int .i32)) hx (by simp) ?_ ?_ (by unfold maxLen; omega) (by omega) hB ?_
  · exact cells_map hc
  · intro u hu
    simp at hu
    obtain ⟨y, _, rfl⟩ := hu
    rfl
  · intro v' w' h1 h2 _
    refine h v' w' (OwnB.of_flat_i32 ?_) h2
    rw [List.map_append, List.length_append]
    exact h1
set_option maxRecDepth 100000 in
theorem sclone_any (s : List Int) (v : Value) (w : World) (hs : SlC w v s) (hsl : s.length ≤ 35184372088000) :
    Calls Try.prog 133 #[v] w (RetP (fun w' v => OwnB 21 1 Cc w.heap.size w' v s) w) := by
  have H := Lib.hid hs
  obtain ⟨A, ca, rfl, hlx, hcx, hce, hnn⟩ := id hs
  clear hs
  have q : ∀ (w : World) (a : Option Addr) (n c n' c' : Nat), (binOp .eql 23 (.slice a n c) (.slice none n' c')).run Try.prog w = .ok (.bool a.isNone) w := fun w a n c n' c' => Lib.run_eql_slice_nil w _ _ a n c n' c' Try.underlying23
  cases A with
  | none =>
    have hc0 := hnn rfl
    obtain rfl : s = [] := List.eq_nil_of_length_eq_zero (by omega)
    clear hce hnn
    go_enter Try.func133, Try.ntmps133
    go_wp2_with fail
    go_ret
    exact ⟨_, rfl, OwnB.nil_, Ext.refl _⟩
  | some ad =>
    have HOWN := Lib.hid (lit_c w [] (Nat.le_refl _) (by decide))
    clear hce hnn
    go_enter Try.func133, Try.ntmps133
    go_wp2_with (at_builtin; go_loud (refine app_srcC rfl _ _ rfl w.heap.size (.slice (some ⟨w.heap.size, 0, none⟩) 0 0) _ [] s HOWN.out rfl rfl (H.out.ext ((Ext.refl w).alloc _)) ?hn ?hB ?_; (case hn => (simp only [List.length_nil]; omega)); (case hB => (simp; done)); intro v6 w6 h1 h2; have hE6 : Ext w w6 := ((Ext.refl w).alloc _).grown h2 (fun k hk => (HOWN.out.lt k hk).1); rw [List.nil_append] at h1; obtain ⟨A6, c6, rfl, -⟩ := h1.form; have HO6 := Lib.hid h1; have HE6 := Lib.hid hE6; clear h1 h2 hE6))
    go_ret
    exact ⟨_, rfl, HO6.out, HE6.out⟩
set_option maxRecDepth 100000 in
set_option maxHeartbeats 2000000 in
theorem each_up (s : List Int) (v : Value) (w : World) (hs : SlC w v s) (hsl : s.length ≤ 35184372088000) :
    Calls Try.prog 130 #[v, .func (.func 131) #[] #[]] w (RetP (fun w' v => OwnB 21 1 Cc w.heap.size w' v (s.map RX.upper)) w) := by
  have H := Lib.hid hs
  obtain ⟨A, ca, rfl, hlx, hcx, -⟩ := id hs
  clear hs
  go_enter Try.func130, Try.ntmps130
  go_wp2_with fail
  go_loopw [5, 10] (fun x5 i wr => ∃ k : Nat, k ≤ s.length ∧ i = .int .i64 (k : Int) ∧ Ext w wr ∧ OwnB 21 1 Cc w.heap.size wr x5 ((s.take k).map RX.upper)) (fun _ i _ => s.length - (intOf i).toNat)
  case atStart => exact ⟨0, Nat.zero_le _, rfl, Ext.refl _, OwnB.nil_⟩
  case round =>
    obtain ⟨k, hk, rfl, hx, hown⟩ := hrel
    have HX := Lib.hid hx
    by_cases hlt : k < s.length
    rotate_left
    · have hd : decide ((k : Int) < (s.length : Int)) = false := by simp; omega
      rw [List.take_of_length_le (by omega)] at hown
      have HO := Lib.hid hown
      obtain ⟨Ao, co, rfl, -⟩ := hown.form
      clear hx hown
      go_wp2_with fail
      go_ret
      exact ⟨_, rfl, HO.out, HX.out⟩
    have hd : decide ((k : Int) < (s.length : Int)) = true := by simp; omega
    have hki : (k : Int) < (s.length : Int) := by omega
    obtain ⟨b, o, rfl, hc⟩ := H.out.at_ hlt
    have hc := hx.cell hc
    have HSN := Lib.hid (show (s.take (k + 1)).map RX.upper = (s.take k).map RX.upper ++ [RX.upper s[k]] by rw [List.take_succ_eq_append_getElem hlt, List.map_append]; rfl)
    have hll : ((s.take k).map RX.upper).length ≤ 35184372088000 := by rw [List.length_map, List.length_take]; omega
    generalize s[k] = x at hc HSN
    have HO := Lib.hid hown
    obtain ⟨Ao, co, rfl, -⟩ := hown.form
    have HF := Lib.hid (fun w' => upper_any x w')
    clear hx hown
    generalize (s.take k).map RX.upper = out at HO HSN hll ⊢
    go_wp2_with (first
      | (go_at_call 131; go_loud (refine (HF.out _).mono ?_; rintro e w8 ⟨rfl, n8, rfl⟩; have HO := Lib.hid (OwnB.drewN (n := n8) HO.out); have HX := Lib.hid (HX.out.drewN n8)))
      | (at_builtin; go_loud (refine app_i32L rfl _ _ rfl w.heap.size _ _ [RX.upper x] (OwnB.allocs HO.out) rfl ⟨_, 0, none⟩ 1 1 rfl rfl (one_cells rfl) ?hn ?hB ?_; (case hn => (simp only [List.length_cons, List.length_nil]; omega)); (case hB => exact Nat.le_trans HX.out.size (by simp)); intro v' w' h1 h2; have HX1 := Lib.hid ((HX.out.alloc _).grown h2 (fun j hj => (HO.out.lt j hj).1)); have HO1 := Lib.hid h1; clear h1 h2)))
    go_roundw
    case rel => exact ⟨k + 1, by omega, by go_num, HX1.out, by rw [HSN.out]; exact HO1.out⟩
    case measure => simp [intOf]; omega
set_option maxRecDepth 100000 in
set_option maxHeartbeats 2000000 in
theorem each_low (s : List Int) (v : Value) (w : World) (hs : SlC w v s) (hsl : s.length ≤ 35184372088000) :
    Calls Try.prog 130 #[v, .func (.func 132) #[] #[]] w (RetP (fun w' v => OwnB 21 1 Cc w.heap.size w' v (s.map RX.lower)) w) := by
  have H := Lib.hid hs
  obtain ⟨A, ca, rfl, hlx, hcx, -⟩ := id hs
  clear hs
  go_enter Try.func130, Try.ntmps130
  go_wp2_with fail
  go_loopw [5, 10] (fun x5 i wr => ∃ k : Nat, k ≤ s.length ∧ i = .int .i64 (k : Int) ∧ Ext w wr ∧ OwnB 21 1 Cc w.heap.size wr x5 ((s.take k).map RX.lower)) (fun _ i _ => s.length - (intOf i).toNat)
  case atStart => exact ⟨0, Nat.zero_le _, rfl, Ext.refl _, OwnB.nil_⟩
  case round =>
    obtain ⟨k, hk, rfl, hx, hown⟩ := hrel
    have HX := Lib.hid hx
    by_cases hlt : k < s.length
    rotate_left
    · have hd : decide ((k : Int) < (s.length : Int)) = false := by simp; omega
      rw [List.take_of_length_le (by omega)] at hown
      have HO := Lib.hid hown
      obtain ⟨Ao, co, rfl, -⟩ := hown.form
      clear hx hown
      go_wp2_with fail
      go_ret
      exact ⟨_, rfl, HO.out, HX.out⟩
    have hd : decide ((k : Int) < (s.length : Int)) = true := by simp; omega
    have hki : (k : Int) < (s.length : Int) := by omega
    obtain ⟨b, o, rfl, hc⟩ := H.out.at_ hlt
    have hc := hx.cell hc
    have HSN := Lib.hid (show (s.take (k + 1)).map RX.lower = (s.take k).map RX.lower ++ [RX.lower s[k]] by rw [List.take_succ_eq_append_getElem hlt, List.map_append]; rfl)
    have hll : ((s.take k).map RX.lower).length ≤ 35184372088000 := by rw [List.length_map, List.length_take]; omega
    generalize s[k] = x at hc HSN
    have HO := Lib.hid hown
    obtain ⟨Ao, co, rfl, -⟩ := hown.form
    have HF := Lib.hid (fun w' => lower_any x w')
    clear hx hown
    generalize (s.take k).map RX.lower = out at HO HSN hll ⊢
    go_wp2_with (first
      | (go_at_call 132; go_loud (refine (HF.out _).mono ?_; rintro e w8 ⟨rfl, n8, rfl⟩; have HO := Lib.hid (OwnB.drewN (n := n8) HO.out); have HX := Lib.hid (HX.out.drewN n8)))
      | (at_builtin; go_loud (refine app_i32L rfl _ _ rfl w.heap.size _ _ [RX.lower x] (OwnB.allocs HO.out) rfl ⟨_, 0, none⟩ 1 1 rfl rfl (one_cells rfl) ?hn ?hB ?_; (case hn => (simp only [List.length_cons, List.length_nil]; omega)); (case hB => exact Nat.le_trans HX.out.size (by simp)); intro v' w' h1 h2; have HX1 := Lib.hid ((HX.out.alloc _).grown h2 (fun j hj => (HO.out.lt j hj).1)); have HO1 := Lib.hid h1; clear h1 h2)))
    go_roundw
    case rel => exact ⟨k + 1, by omega, by go_num, HX1.out, by rw [HSN.out]; exact HO1.out⟩
    case measure => simp [intOf]; omega
set_option maxRecDepth 100000 in
set_option maxHeartbeats 4000000 in
theorem runs_up (s : List Int) (v : Value) (w : World) (hs : SlC w v s) (hsl : s.length ≤ 35184372088000) :
    Calls Try.prog 134 #[v, .func (.func 131) #[] #[]] w (RetP (fun w' v => OwnB 21 1 Cc w.heap.size w' v (TR.runs RX.upper s)) w) := by
  have H := Lib.hid hs
  obtain ⟨A, ca, rfl, hlx, hcx, -⟩ := id hs
  clear hs
  have HCL := Lib.hid (fun x w' => class_any x w')
  have HU := Lib.hid (fun x w' => upper_any x w')
  have HL := Lib.hid (fun x w' => lower_any x w')
  go_enter Try.func134, Try.ntmps134
  go_wp2_with fail
  go_loopw [5, 6, 12] (fun x5 x6 i wr => ∃ (k : Nat) (out : List Int) (b : Bool), k ≤ s.length ∧ i = .int .i64 (k : Int) ∧ x6 = .bool b ∧ Ext w wr ∧ OwnB 21 1 Cc w.heap.size wr x5 out ∧ out.length ≤ k ∧ TR.runsL RX.upper (s.drop k) out b = TR.runs RX.upper s) (fun _ _ i _ => s.length - (intOf i).toNat)
  case atStart => exact ⟨0, [], false, Nat.zero_le _, rfl, rfl, Ext.refl _, OwnB.nil_, Nat.le_refl _, rfl⟩
  case round =>
    obtain ⟨k, out, b, hk, rfl, rfl, hx, hown, hol, hrun⟩ := hrel
    have HX := Lib.hid hx
    by_cases hlt : k < s.length
    rotate_left
    · have hd : decide ((k : Int) < (s.length : Int)) = false := by simp; omega
      rw [List.drop_eq_nil_of_le (by omega)] at hrun
      have hrun : out = TR.runs RX.upper s := hrun
      subst hrun
      have HO := Lib.hid hown
      obtain ⟨Ao, co, rfl, -⟩ := hown.form
      clear hx hown
      go_wp2_with fail
      go_ret
      exact ⟨_, rfl, HO.out, HX.out⟩
    have hd : decide ((k : Int) < (s.length : Int)) = true := by simp; omega
    have hki : (k : Int) < (s.length : Int) := by omega
    obtain ⟨bb, o, rfl, hc⟩ := H.out.at_ hlt
    have hc := hx.cell hc
    rw [List.drop_eq_getElem_cons hlt] at hrun
    generalize s[k] = x at hc hrun
    have HO := Lib.hid hown
    obtain ⟨Ao, co, rfl, -⟩ := hown.form
    have hll : out.length ≤ 35184372088000 := by omega
    have HO0 := Lib.hid HO.out
    have HX0 := Lib.hid HX.out
    clear hx hown
    by_cases hp : RX.classOf x = 3 ∧ x ≠ 95
    rotate_left
    · have HN := Lib.hid (show TR.runsL RX.upper (s.drop (k + 1)) out false = TR.runs RX.upper s by rw [← hrun, TR.runsL, if_neg hp])
      by_cases h3 : RX.classOf x = 3
      · have b3 : (RX.classOf x == 3) = true := by simpa using h3
        have b9 : (x != 95) = false := by simpa using fun h => hp ⟨h3, h⟩
        clear hrun hp h3
        go_wp2_with (first
        | (go_at_call 61; go_loud (refine (HCL.out _ _).mono ?_; rintro e w7 ⟨rfl, n7, rfl⟩; have HO := Lib.hid (OwnB.drewN (n := n7) HO0.out); have HX := Lib.hid (HX0.out.drewN n7)))
        | (go_at_call 131; go_loud (refine (HU.out _ _).mono ?_; rintro e w8 ⟨rfl, n8, rfl⟩; have HO := Lib.hid (OwnB.drewN (n := n7 + n8) HO0.out); have HX := Lib.hid (HX0.out.drewN (n7 + n8))))
        | (go_at_call 132; go_loud (refine (HL.out _ _).mono ?_; rintro e w8 ⟨rfl, n8, rfl⟩; have HO := Lib.hid (OwnB.drewN (n := n7 + n8) HO0.out); have HX := Lib.hid (HX0.out.drewN (n7 + n8))))
        | (at_builtin; go_loud (refine app_i32L rfl _ _ rfl w.heap.size _ _ [x] (OwnB.allocs HO.out) rfl ⟨_, 0, none⟩ 1 1 rfl rfl (one_cells rfl) ?hn ?hB ?_; (case hn => (simp only [List.length_cons, List.length_nil]; omega)); (case hB => exact Nat.le_trans HX.out.size (by simp)); intro v' w' h1 h2; have HX1 := Lib.hid ((HX.out.alloc _).grown h2 (fun j hj => (HO.out.lt j hj).1)); have HO1 := Lib.hid h1; clear h1 h2)))
        go_roundw
        case rel => exact ⟨k + 1, out, false, by omega, by go_num, rfl, HX0.out.drewN _, OwnB.drewN HO0.out, by omega, HN.out⟩
        case measure => simp [intOf]; omega
      · have b3 : (RX.classOf x == 3) = false := by simpa using h3
        clear hrun hp h3
        go_wp2_with (first
        | (go_at_call 61; go_loud (refine (HCL.out _ _).mono ?_; rintro e w7 ⟨rfl, n7, rfl⟩; have HO := Lib.hid (OwnB.drewN (n := n7) HO0.out); have HX := Lib.hid (HX0.out.drewN n7)))
        | (go_at_call 131; go_loud (refine (HU.out _ _).mono ?_; rintro e w8 ⟨rfl, n8, rfl⟩; have HO := Lib.hid (OwnB.drewN (n := n7 + n8) HO0.out); have HX := Lib.hid (HX0.out.drewN (n7 + n8))))
        | (go_at_call 132; go_loud (refine (HL.out _ _).mono ?_; rintro e w8 ⟨rfl, n8, rfl⟩; have HO := Lib.hid (OwnB.drewN (n := n7 + n8) HO0.out); have HX := Lib.hid (HX0.out.drewN (n7 + n8))))
        | (at_builtin; go_loud (refine app_i32L rfl _ _ rfl w.heap.size _ _ [x] (OwnB.allocs HO.out) rfl ⟨_, 0, none⟩ 1 1 rfl rfl (one_cells rfl) ?hn ?hB ?_; (case hn => (simp only [List.length_cons, List.length_nil]; omega)); (case hB => exact Nat.le_trans HX.out.size (by simp)); intro v' w' h1 h2; have HX1 := Lib.hid ((HX.out.alloc _).grown h2 (fun j hj => (HO.out.lt j hj).1)); have HO1 := Lib.hid h1; clear h1 h2)))
        go_roundw
        case rel => exact ⟨k + 1, out, false, by omega, by go_num, rfl, HX0.out.drewN _, OwnB.drewN HO0.out, by omega, HN.out⟩
        case measure => simp [intOf]; omega
    have b3 : (RX.classOf x == 3) = true := by simpa using hp.1
    have b9 : (x != 95) = true := by simpa using hp.2
    cases b with
    | true =>
      have HN := Lib.hid (show TR.runsL RX.upper (s.drop (k + 1)) (out ++ [x]) true = TR.runs RX.upper s by rw [← hrun, TR.runsL, if_pos hp]; rfl)
      clear hrun hp
      go_wp2_with (first
        | (go_at_call 61; go_loud (refine (HCL.out _ _).mono ?_; rintro e w7 ⟨rfl, n7, rfl⟩; have HO := Lib.hid (OwnB.drewN (n := n7) HO0.out); have HX := Lib.hid (HX0.out.drewN n7)))
        | (go_at_call 131; go_loud (refine (HU.out _ _).mono ?_; rintro e w8 ⟨rfl, n8, rfl⟩; have HO := Lib.hid (OwnB.drewN (n := n7 + n8) HO0.out); have HX := Lib.hid (HX0.out.drewN (n7 + n8))))
        | (go_at_call 132; go_loud (refine (HL.out _ _).mono ?_; rintro e w8 ⟨rfl, n8, rfl⟩; have HO := Lib.hid (OwnB.drewN (n := n7 + n8) HO0.out); have HX := Lib.hid (HX0.out.drewN (n7 + n8))))
        | (at_builtin; go_loud (refine app_i32L rfl _ _ rfl w.heap.size _ _ [x] (OwnB.allocs HO.out) rfl ⟨_, 0, none⟩ 1 1 rfl rfl (one_cells rfl) ?hn ?hB ?_; (case hn => (simp only [List.length_cons, List.length_nil]; omega)); (case hB => exact Nat.le_trans HX.out.size (by simp)); intro v' w' h1 h2; have HX1 := Lib.hid ((HX.out.alloc _).grown h2 (fun j hj => (HO.out.lt j hj).1)); have HO1 := Lib.hid h1; clear h1 h2)))
      go_roundw
      case rel => exact ⟨k + 1, _, true, by omega, by go_num, rfl, HX1.out, HO1.out, by simp; omega, HN.out⟩
      case measure => simp [intOf]; omega
    | false =>
      cases out with
      | nil =>
        have HN := Lib.hid (show TR.runsL RX.upper (s.drop (k + 1)) [RX.upper x] true = TR.runs RX.upper s by rw [← hrun, TR.runsL, if_pos hp]; rfl)
        clear hrun hp
        go_wp2_with (first
        | (go_at_call 61; go_loud (refine (HCL.out _ _).mono ?_; rintro e w7 ⟨rfl, n7, rfl⟩; have HO := Lib.hid (OwnB.drewN (n := n7) HO0.out); have HX := Lib.hid (HX0.out.drewN n7)))
        | (go_at_call 131; go_loud (refine (HU.out _ _).mono ?_; rintro e w8 ⟨rfl, n8, rfl⟩; have HO := Lib.hid (OwnB.drewN (n := n7 + n8) HO0.out); have HX := Lib.hid (HX0.out.drewN (n7 + n8))))
        | (go_at_call 132; go_loud (refine (HL.out _ _).mono ?_; rintro e w8 ⟨rfl, n8, rfl⟩; have HO := Lib.hid (OwnB.drewN (n := n7 + n8) HO0.out); have HX := Lib.hid (HX0.out.drewN (n7 + n8))))
        | (at_builtin; go_loud (refine app_i32L rfl _ _ rfl w.heap.size _ _ [RX.upper x] (OwnB.allocs HO.out) rfl ⟨_, 0, none⟩ 1 1 rfl rfl (one_cells rfl) ?hn ?hB ?_; (case hn => (simp only [List.length_cons, List.length_nil]; omega)); (case hB => exact Nat.le_trans HX.out.size (by simp)); intro v' w' h1 h2; have HX1 := Lib.hid ((HX.out.alloc _).grown h2 (fun j hj => (HO.out.lt j hj).1)); have HO1 := Lib.hid h1; clear h1 h2)))
        go_roundw
        case rel => exact ⟨k + 1, _, true, by omega, by go_num, rfl, HX1.out, HO1.out, by simp, HN.out⟩
        case measure => simp [intOf]; omega
      | cons y ys =>
        have HN := Lib.hid (show TR.runsL RX.upper (s.drop (k + 1)) ((y :: ys) ++ [RX.upper x]) true = TR.runs RX.upper s by rw [← hrun, TR.runsL, if_pos hp]; rfl)
        obtain ⟨L, hL⟩ : ∃ L, L = y :: ys := ⟨_, rfl⟩
        rw [← hL] at HN HO HO0 hol hll ⊢
        have hL0 : ((L.length : Int) == 0) = false := by rw [hL]; simp; omega
        clear hrun hp hL
        go_wp2_with (first
        | (go_at_call 61; go_loud (refine (HCL.out _ _).mono ?_; rintro e w7 ⟨rfl, n7, rfl⟩; have HO := Lib.hid (OwnB.drewN (n := n7) HO0.out); have HX := Lib.hid (HX0.out.drewN n7)))
        | (go_at_call 131; go_loud (refine (HU.out _ _).mono ?_; rintro e w8 ⟨rfl, n8, rfl⟩; have HO := Lib.hid (OwnB.drewN (n := n7 + n8) HO0.out); have HX := Lib.hid (HX0.out.drewN (n7 + n8))))
        | (go_at_call 132; go_loud (refine (HL.out _ _).mono ?_; rintro e w8 ⟨rfl, n8, rfl⟩; have HO := Lib.hid (OwnB.drewN (n := n7 + n8) HO0.out); have HX := Lib.hid (HX0.out.drewN (n7 + n8))))
        | (at_builtin; go_loud (refine app_i32L rfl _ _ rfl w.heap.size _ _ [RX.upper x] (OwnB.allocs HO.out) rfl ⟨_, 0, none⟩ 1 1 rfl rfl (one_cells rfl) ?hn ?hB ?_; (case hn => (simp only [List.length_cons, List.length_nil]; omega)); (case hB => exact Nat.le_trans HX.out.size (by simp)); intro v' w' h1 h2; have HX1 := Lib.hid ((HX.out.alloc _).grown h2 (fun j hj => (HO.out.lt j hj).1)); have HO1 := Lib.hid h1; clear h1 h2)))
        go_roundw
        case rel => exact ⟨k + 1, _, true, by omega, by go_num, rfl, HX1.out, HO1.out, by simp; omega, HN.out⟩
        case measure => simp [intOf]; omega
set_option maxRecDepth 100000 in
set_option maxHeartbeats 4000000 in
theorem runs_low (s : List Int) (v : Value) (w : World) (hs : SlC w v s) (hsl : s.length ≤ 35184372088000) :
    Calls Try.prog 134 #[v, .func (.func 132) #[] #[]] w (RetP (fun w' v => OwnB 21 1 Cc w.heap.size w' v (TR.runs RX.lower s)) w) := by
  have H := Lib.hid hs
  obtain ⟨A, ca, rfl, hlx, hcx, -⟩ := id hs
  clear hs
  have HCL := Lib.hid (fun x w' => class_any x w')
  have HU := Lib.hid (fun x w' => upper_any x w')
  have HL := Lib.hid (fun x w' => lower_any x w')
  go_enter Try.func134, Try.ntmps134
  go_wp2_with fail
  go_loopw [5, 6, 12] (fun x5 x6 i wr => ∃ (k : Nat) (out : List Int) (b : Bool), k ≤ s.length ∧ i = .int .i64 (k : Int) ∧ x6 = .bool b ∧ Ext w wr ∧ OwnB 21 1 Cc w.heap.size wr x5 out ∧ out.length ≤ k ∧ TR.runsL RX.lower (s.drop k) out b = TR.runs RX.lower s) (fun _ _ i _ => s.length - (intOf i).toNat)
  case atStart => exact ⟨0, [], false, Nat.zero_le _, rfl, rfl, Ext.refl _, OwnB.nil_, Nat.le_refl _, rfl⟩
  case round =>
    obtain ⟨k, out, b, hk, rfl, rfl, hx, hown, hol, hrun⟩ := hrel
    have HX := Lib.hid hx
    by_cases hlt : k < s.length
    rotate_left
    · have hd : decide ((k : Int) < (s.length : Int)) = false := by simp; omega
      rw [List.drop_eq_nil_of_le (by omega)] at hrun
      have hrun : out = TR.runs RX.lower s := hrun
      subst hrun
      have HO := Lib.hid hown
      obtain ⟨Ao, co, rfl, -⟩ := hown.form
      clear hx hown
      go_wp2_with fail
      go_ret
      exact ⟨_, rfl, HO.out, HX.out⟩
    have hd : decide ((k : Int) < (s.length : Int)) = true := by simp; omega
    have hki : (k : Int) < (s.length : Int) := by omega
    obtain ⟨bb, o, rfl, hc⟩ := H.out.at_ hlt
    have hc := hx.cell hc
    rw [List.drop_eq_getElem_cons hlt] at hrun
    generalize s[k] = x at hc hrun
    have HO := Lib.hid hown
    obtain ⟨Ao, co, rfl, -⟩ := hown.form
    have hll : out.length ≤ 35184372088000 := by omega
    have HO0 := Lib.hid HO.out
    have HX0 := Lib.hid HX.out
    clear hx hown
    by_cases hp : RX.classOf x = 3 ∧ x ≠ 95
    rotate_left
    · have HN := Lib.hid (show TR.runsL RX.lower (s.drop (k + 1)) out false = TR.runs RX.lower s by rw [← hrun, TR.runsL, if_neg hp])
      by_cases h3 : RX.classOf x = 3
      · have b3 : (RX.classOf x == 3) = true := by simpa using h3
        have b9 : (x != 95) = false := by simpa using fun h => hp ⟨h3, h⟩
        clear hrun hp h3
        go_wp2_with (first
        | (go_at_call 61; go_loud (refine (HCL.out _ _).mono ?_; rintro e w7 ⟨rfl, n7, rfl⟩; have HO := Lib.hid (OwnB.drewN (n := n7) HO0.out); have HX := Lib.hid (HX0.out.drewN n7)))
        | (go_at_call 131; go_loud (refine (HU.out _ _).mono ?_; rintro e w8 ⟨rfl, n8, rfl⟩; have HO := Lib.hid (OwnB.drewN (n := n7 + n8) HO0.out); have HX := Lib.hid (HX0.out.drewN (n7 + n8))))
        | (go_at_call 132; go_loud (refine (HL.out _ _).mono ?_; rintro e w8 ⟨rfl, n8, rfl⟩; have HO := Lib.hid (OwnB.drewN (n := n7 + n8) HO0.out); have HX := Lib.hid (HX0.out.drewN (n7 + n8))))
        | (at_builtin; go_loud (refine app_i32L rfl _ _ rfl w.heap.size _ _ [x] (OwnB.allocs HO.out) rfl ⟨_, 0, none⟩ 1 1 rfl rfl (one_cells rfl) ?hn ?hB ?_; (case hn => (simp only [List.length_cons, List.length_nil]; omega)); (case hB => exact Nat.le_trans HX.out.size (by simp)); intro v' w' h1 h2; have HX1 := Lib.hid ((HX.out.alloc _).grown h2 (fun j hj => (HO.out.lt j hj).1)); have HO1 := Lib.hid h1; clear h1 h2)))
        go_roundw
        case rel => exact ⟨k + 1, out, false, by omega, by go_num, rfl, HX0.out.drewN _, OwnB.drewN HO0.out, by omega, HN.out⟩
        case measure => simp [intOf]; omega
      · have b3 : (RX.classOf x == 3) = false := by simpa using h3
        clear hrun hp h3
        go_wp2_with (first
        | (go_at_call 61; go_loud (refine (HCL.out _ _).mono ?_; rintro e w7 ⟨rfl, n7, rfl⟩; have HO := Lib.hid (OwnB.drewN (n := n7) HO0.out); have HX := Lib.hid (HX0.out.drewN n7)))
        | (go_at_call 131; go_loud (refine (HU.out _ _).mono ?_; rintro e w8 ⟨rfl, n8, rfl⟩; have HO := Lib.hid (OwnB.drewN (n := n7 + n8) HO0.out); have HX := Lib.hid (HX0.out.drewN (n7 + n8))))
        | (go_at_call 132; go_loud (refine (HL.out _ _).mono ?_; rintro e w8 ⟨rfl, n8, rfl⟩; have HO := Lib.hid (OwnB.drewN (n := n7 + n8) HO0.out); have HX := Lib.hid (HX0.out.drewN (n7 + n8))))
        | (at_builtin; go_loud (refine app_i32L rfl _ _ rfl w.heap.size _ _ [x] (OwnB.allocs HO.out) rfl ⟨_, 0, none⟩ 1 1 rfl rfl (one_cells rfl) ?hn ?hB ?_; (case hn => (simp only [List.length_cons, List.length_nil]; omega)); (case hB => exact Nat.le_trans HX.out.size (by simp)); intro v' w' h1 h2; have HX1 := Lib.hid ((HX.out.alloc _).grown h2 (fun j hj => (HO.out.lt j hj).1)); have HO1 := Lib.hid h1; clear h1 h2)))
        go_roundw
        case rel => exact ⟨k + 1, out, false, by omega, by go_num, rfl, HX0.out.drewN _, OwnB.drewN HO0.out, by omega, HN.out⟩
        case measure => simp [intOf]; omega
    have b3 : (RX.classOf x == 3) = true := by simpa using hp.1
    have b9 : (x != 95) = true := by simpa using hp.2
    cases b with
    | true =>
      have HN := Lib.hid (show TR.runsL RX.lower (s.drop (k + 1)) (out ++ [x]) true = TR.runs RX.lower s by rw [← hrun, TR.runsL, if_pos hp]; rfl)
      clear hrun hp
      go_wp2_with (first
        | (go_at_call 61; go_loud (refine (HCL.out _ _).mono ?_; rintro e w7 ⟨rfl, n7, rfl⟩; have HO := Lib.hid (OwnB.drewN (n := n7) HO0.out); have HX := Lib.hid (HX0.out.drewN n7)))
        | (go_at_call 131; go_loud (refine (HU.out _ _).mono ?_; rintro e w8 ⟨rfl, n8, rfl⟩; have HO := Lib.hid (OwnB.drewN (n := n7 + n8) HO0.out); have HX := Lib.hid (HX0.out.drewN (n7 + n8))))
        | (go_at_call 132; go_loud (refine (HL.out _ _).mono ?_; rintro e w8 ⟨rfl, n8, rfl⟩; have HO := Lib.hid (OwnB.drewN (n := n7 + n8) HO0.out); have HX := Lib.hid (HX0.out.drewN (n7 + n8))))
        | (at_builtin; go_loud (refine app_i32L rfl _ _ rfl w.heap.size _ _ [x] (OwnB.allocs HO.out) rfl ⟨_, 0, none⟩ 1 1 rfl rfl (one_cells rfl) ?hn ?hB ?_; (case hn => (simp only [List.length_cons, List.length_nil]; omega)); (case hB => exact Nat.le_trans HX.out.size (by simp)); intro v' w' h1 h2; have HX1 := Lib.hid ((HX.out.alloc _).grown h2 (fun j hj => (HO.out.lt j hj).1)); have HO1 := Lib.hid h1; clear h1 h2)))
      go_roundw
      case rel => exact ⟨k + 1, _, true, by omega, by go_num, rfl, HX1.out, HO1.out, by simp; omega, HN.out⟩
      case measure => simp [intOf]; omega
    | false =>
      cases out with
      | nil =>
        have HN := Lib.hid (show TR.runsL RX.lower (s.drop (k + 1)) [RX.lower x] true = TR.runs RX.lower s by rw [← hrun, TR.runsL, if_pos hp]; rfl)
        clear hrun hp
        go_wp2_with (first
        | (go_at_call 61; go_loud (refine (HCL.out _ _).mono ?_; rintro e w7 ⟨rfl, n7, rfl⟩; have HO := Lib.hid (OwnB.drewN (n := n7) HO0.out); have HX := Lib.hid (HX0.out.drewN n7)))
        | (go_at_call 131; go_loud (refine (HU.out _ _).mono ?_; rintro e w8 ⟨rfl, n8, rfl⟩; have HO := Lib.hid (OwnB.drewN (n := n7 + n8) HO0.out); have HX := Lib.hid (HX0.out.drewN (n7 + n8))))
        | (go_at_call 132; go_loud (refine (HL.out _ _).mono ?_; rintro e w8 ⟨rfl, n8, rfl⟩; have HO := Lib.hid (OwnB.drewN (n := n7 + n8) HO0.out); have HX := Lib.hid (HX0.out.drewN (n7 + n8))))
        | (at_builtin; go_loud (refine app_i32L rfl _ _ rfl w.heap.size _ _ [RX.lower x] (OwnB.allocs HO.out) rfl ⟨_, 0, none⟩ 1 1 rfl rfl (one_cells rfl) ?hn ?hB ?_; (case hn => (simp only [List.length_cons, List.length_nil]; omega)); (case hB => exact Nat.le_trans HX.out.size (by simp)); intro v' w' h1 h2; have HX1 := Lib.hid ((HX.out.alloc _).grown h2 (fun j hj => (HO.out.lt j hj).1)); have HO1 := Lib.hid h1; clear h1 h2)))
        go_roundw
        case rel => exact ⟨k + 1, _, true, by omega, by go_num, rfl, HX1.out, HO1.out, by simp, HN.out⟩
        case measure => simp [intOf]; omega
      | cons y ys =>
        have HN := Lib.hid (show TR.runsL RX.lower (s.drop (k + 1)) ((y :: ys) ++ [RX.upper x]) true = TR.runs RX.lower s by rw [← hrun, TR.runsL, if_pos hp]; rfl)
        obtain ⟨L, hL⟩ : ∃ L, L = y :: ys := ⟨_, rfl⟩
        rw [← hL] at HN HO HO0 hol hll ⊢
        have hL0 : ((L.length : Int) == 0) = false := by rw [hL]; simp; omega
        clear hrun hp hL
        go_wp2_with (first
        | (go_at_call 61; go_loud (refine (HCL.out _ _).mono ?_; rintro e w7 ⟨rfl, n7, rfl⟩; have HO := Lib.hid (OwnB.drewN (n := n7) HO0.out); have HX := Lib.hid (HX0.out.drewN n7)))
        | (go_at_call 131; go_loud (refine (HU.out _ _).mono ?_; rintro e w8 ⟨rfl, n8, rfl⟩; have HO := Lib.hid (OwnB.drewN (n := n7 + n8) HO0.out); have HX := Lib.hid (HX0.out.drewN (n7 + n8))))
        | (go_at_call 132; go_loud (refine (HL.out _ _).mono ?_; rintro e w8 ⟨rfl, n8, rfl⟩; have HO := Lib.hid (OwnB.drewN (n := n7 + n8) HO0.out); have HX := Lib.hid (HX0.out.drewN (n7 + n8))))
        | (at_builtin; go_loud (refine app_i32L rfl _ _ rfl w.heap.size _ _ [RX.upper x] (OwnB.allocs HO.out) rfl ⟨_, 0, none⟩ 1 1 rfl rfl (one_cells rfl) ?hn ?hB ?_; (case hn => (simp only [List.length_cons, List.length_nil]; omega)); (case hB => exact Nat.le_trans HX.out.size (by simp)); intro v' w' h1 h2; have HX1 := Lib.hid ((HX.out.alloc _).grown h2 (fun j hj => (HO.out.lt j hj).1)); have HO1 := Lib.hid h1; clear h1 h2)))
        go_roundw
        case rel => exact ⟨k + 1, _, true, by omega, by go_num, rfl, HX1.out, HO1.out, by simp; omega, HN.out⟩
        case measure => simp [intOf]; omega
set_option maxRecDepth 100000 in
set_option maxHeartbeats 2000000 in
theorem scase_any (how : Int) (s : List Int) (v : Value) (w : World) (hs : SlC w v s) (hsl : s.length ≤ 35184372088000) :
    Calls Try.prog 111 #[v, .int .i64 how] w (RetP (fun w' v => OwnB 21 1 Cc w.heap.size w' v (TR.caseP how s)) w) := by
  have HE1 := Lib.hid (each_up s v w hs hsl)
  have HE2 := Lib.hid (each_low s v w hs hsl)
  have HR1 := Lib.hid (runs_up s v w hs hsl)
  have HR2 := Lib.hid (runs_low s v w hs hsl)
  have HCN := Lib.hid (sclone_any s v w hs hsl)
  obtain ⟨A, ca, rfl, hlx, hcx, -⟩ := id hs
  clear hs
  by_cases h1 : how = 1
  · subst h1
    go_enter Try.func111, Try.ntmps111
    go_wp2_with (go_at_call 130; go_loud (refine HE1.out.mono ?_; rintro e w1 ⟨v1, rfl, ho1, hx1⟩))
    go_ret
    exact ⟨_, rfl, ho1, hx1⟩
  by_cases h2 : how = 2
  · subst h2
    go_enter Try.func111, Try.ntmps111
    go_wp2_with (go_at_call 130; go_loud (refine HE2.out.mono ?_; rintro e w1 ⟨v1, rfl, ho1, hx1⟩))
    go_ret
    exact ⟨_, rfl, ho1, hx1⟩
  by_cases h4 : how = 4
  · subst h4
    go_enter Try.func111, Try.ntmps111
    go_wp2_with (go_at_call 134; go_loud (refine HR1.out.mono ?_; rintro e w1 ⟨v1, rfl, ho1, hx1⟩))
    go_ret
    exact ⟨_, rfl, ho1, hx1⟩
  by_cases h5 : how = 5
  · subst h5
    go_enter Try.func111, Try.ntmps111
    go_wp2_with (go_at_call 134; go_loud (refine HR2.out.mono ?_; rintro e w1 ⟨v1, rfl, ho1, hx1⟩))
    go_ret
    exact ⟨_, rfl, ho1, hx1⟩
  by_cases h3 : how = 3
  · subst h3
    cases s with
    | nil =>
      go_enter Try.func111, Try.ntmps111
      go_wp2_with (go_at_call 133; go_loud (refine HCN.out.mono ?_; rintro e w1 ⟨v1, rfl, ho1, hx1⟩; obtain ⟨A1, c1, rfl, -⟩ := ho1.form; have HO1 := Lib.hid ho1; have HX1 := Lib.hid hx1; clear ho1 hx1))
      go_ret
      exact ⟨_, rfl, HO1.out, HX1.out⟩
    | cons x s =>
      have HU := Lib.hid (fun w' => upper_any x w')
      go_enter Try.func111, Try.ntmps111
      go_wp2_with fail
      refine HCN.out.mono ?_
      rintro e w1 ⟨v1, rfl, ho1, hx1⟩
      obtain ⟨A1, c1, rfl, -⟩ := ho1.form
      obtain ⟨g, rfl, hb, hc, hf, hset⟩ := ho1.get (k := 0) (by simp)
      have hc : w1.cell? ⟨g, 0, none⟩ = some (.int .i32 x) := hc
      have HSET := Lib.hid hset
      have HX1 := Lib.hid hx1
      have hL0 : (0 : Int) < ((x :: s).length : Int) := by simp
      have hL1 : 0 < (x :: s).length := by simp
      obtain ⟨L, hL⟩ : ∃ L, L = (x :: s).length := ⟨_, rfl⟩
      have HOL := Lib.hid (show ∀ y, OwnB 21 1 Cc w.heap.size (w1.setCell ⟨g, 0, none⟩ (.int .i32 y)) (.slice (some ⟨g, 0, none⟩) L c1) (y :: s) by intro y; rw [hL]; exact HSET.out y)
      rw [← hL] at hL0 hL1 ⊢
      clear ho1 hx1 hset hL HSET
      go_wp2_with (go_at_call 131; go_loud (refine (HU.out _).mono ?_; rintro e w8 ⟨rfl, n8, rfl⟩))
      go_ret
      exact ⟨_, rfl, HOL.out (RX.upper x), (HX1.out.drewN n8).set (p := ⟨g, 0, none⟩) hb _⟩
  have b1 : (how == 1) = false := by simpa using h1
  have b2 : (how == 2) = false := by simpa using h2
  have b3 : (how == 3) = false := by simpa using h3
  have b4 : (how == 4) = false := by simpa using h4
  have b5 : (how == 5) = false := by simpa using h5
  have HP := Lib.hid (show TR.caseP how s = s by unfold TR.caseP; rw [if_neg h1, if_neg h2, if_neg h3, if_neg h4, if_neg h5])
  clear h1 h2 h3 h4 h5
  go_enter Try.func111, Try.ntmps111
  go_wp2_with (go_at_call 133; go_loud (refine HCN.out.mono ?_; rintro e w1 ⟨v1, rfl, ho1, hx1⟩))
  go_ret
  exact ⟨_, rfl, by rw [HP.out]; exact ho1, hx1⟩
end Go.Proofs.Ytfblkahjefdmaaa
