/- Proved: for every input whatever, the law FaultOnes of layer 2 returns true and leaves its arguments as they were; the variable errors.errorType starts as the program's text lays it (the card ties it). No other condition. -/
import Derived.Test.YtdhhoicngldfmaaDoorFaultFrame
import Derived.Test.YtdhhoicngldfmaaDoorFaultJ
namespace Go.Proofs.YtdhhoicngldfmaaDoor
open Go.ChangeShapes Go.WideShapes Go.ChangeAt Go.RowKit

theorem params_ones : ∀ t ∈ Tryd.f5.params.toList, Tryd.prog.readableRec t = true ∧ t < Tryd.prog.types.size := by
  rw [Tryd.params5]
  intro t ht
  simp at ht

theorem ones_contract (H : Type) (enc : TypeId × Value → H) (W : World) (base : Nat) (args : Array Value) (ds gs : List (DataW H)) (before : List MemPlace)
    (hval : ∀ (j : Nat) t v, Tryd.f5.params[j]? = some t → args[j]? = some v → Value.okWide Tryd.prog W .any base t v)
    (hW : DataW.Whole enc Tryd.prog Tryd.f5.params.toList Rows.faultOnesSpec.vars false W args.toList ds gs before) (hL : laidMetH Tryd.prog Rows.faultOnesRow.laid W) :
    Calls Tryd.prog 5 args W fun e W' => ∃ v, e = .returned v ∧ Rows.faultOnesSpec.post enc Tryd.prog Tryd.f5 false true false false W args v W' := by
  have hW' := hW
  obtain ⟨p, q, hA0, hV, rfl, hfz, hnd⟩ := hW
  have hA : DataW.TrodAll enc Tryd.prog W 0 (fun _ => true) true Tryd.f5.params.toList args.toList ds p := hA0
  rw [Tryd.params5] at hA hval
  obtain ⟨rfl, rfl, rfl⟩ := trodAll_none hA
  refine (faultOnes_any W (laid_of hL)).mono fun e W' ⟨he, hE⟩ => ?_
  subst he
  exact ⟨_, rfl, law_post rfl laidOut params_ones 4 (by kernel_rfl) Tryd.underlying4 (fun ds hd => by
    rw [Tryd.params5] at hd
    match ds, hd with
    | [], _ => rfl) hW' hE⟩

noncomputable abbrev args_ones : Array Value := #[]
theorem ones_reads (os : Os) {H : Type} (enc : TypeId × Value → H) : ∃ x places, DataW.whole enc Tryd.prog ((laidWorld os).forCall (fun _ _ => 0) ⟨#[], args_ones, []⟩).memory Tryd.f5.params.toList Rows.faultOnesSpec.vars false args_ones.toList 8 = some (x, [], places) :=
  ⟨[], [], by kernel_rfl⟩
theorem ones_laid (os : Os) : laidMetH Tryd.prog Rows.faultOnesRow.laid ((laidWorld os).forCall (fun _ _ => 0) ⟨#[], args_ones, []⟩).memory :=
  laidMetH_of_parts (laidMet_of_run' 8 (by kernel_rfl) (by kernel_rfl)) (by kernel_rfl)

set_option maxRecDepth 100000 in
theorem ones_lifted (os : Os) (started : os.Started) (H : Type) (enc : TypeId × Value → H) (F : Stop.Interp) :
    ReturnsInHanded {} Tryd.checked os 5 .any ((OpenSpec.ofChange Rows.faultOnesSpec).preRow enc Tryd.prog Tryd.f5 Rows.faultOnesRow.domain false Rows.faultOnesRow.laid) (((OpenSpec.ofChange Rows.faultOnesSpec).at F).post enc Tryd.prog Tryd.f5 false true false false) := by
  obtain ⟨x, places, hx⟩ := ones_reads os enc
  refine returnsInHanded_of_row (C := Tryd.checked) (s := OpenSpec.ofChange Rows.faultOnesSpec) own started (by kernel_rfl) Tryd.func5
    (witness_row_at (enc := enc) (C := Tryd.checked) false (laidWorld os) args_ones rfl (by kernel_rfl) (by kernel_rfl) (by kernel_rfl)
      (OpenSpec.preRow_of_cond 8 hx (by kernel_rfl) (fun k hk => by cases hk) (by kernel_rfl) (ones_laid os))) ?_
  intro W base args ds gs before hval hW _ _ _ hL _ _
  exact ones_contract H enc W base args ds gs before hval hW hL

theorem ones_said : Rows.FaultOnesSaid :=
  OpenClaim.holds_of_cond 5 Tryd.f5 rfl rfl rfl rfl rfl rfl rfl ⟨rfl, rfl, rfl, rfl, rfl⟩ rfl rfl rfl rfl rfl (by kernel_rfl) Tryd.func5 (by kernel_rfl)
    (of_decide_eq_true (by kernel_rfl)) (by unfold Func.isWrapper; rw [if_neg (by decide +kernel)]; exact ⟨rfl, rfl⟩)
    (fun os started H enc _ F => by rw [OpenClaim.pre_eq_preRow]; exact ones_lifted os started H enc F)

theorem ones_plain (f : FuncId) (fn : Func) (hf : Tryd.pinned.checked.prog.funcNamed "standish/standishlaw2.FaultOnes" = some f) (hfn : Tryd.pinned.checked.prog.funcs[f]? = some fn) :
    true = Tryd.pinned.checked.prog.looks [] ∧ ∀ (j : Nat) t, fn.params[j]? = some t → Tryd.pinned.checked.prog.wantsStandIn t = false := by
  obtain rfl : f = 5 := Option.some.inj ((show Tryd.prog.funcNamed "standish/standishlaw2.FaultOnes" = some 5 by kernel_rfl).symm.trans hf) |>.symm
  obtain rfl : fn = Tryd.f5 := (Option.some.inj (Tryd.func5.symm.trans hfn)).symm
  refine ⟨by kernel_rfl, fun j t ht => ?_⟩
  rw [Tryd.params5] at ht
  simp at ht

theorem ones_card : Rows.FaultOnesCardSaid :=
  Claim7.holds_tied_plain_at .later [] _ _ _ _ ones_said (fun _ h => by cases h) (by kernel_rfl) (fun _ h => by cases h) faultOnes_row_tie rfl ⟨rfl, rfl⟩ (by kernel_rfl) rfl ones_plain (by kernel_rfl)
end Go.Proofs.YtdhhoicngldfmaaDoor
