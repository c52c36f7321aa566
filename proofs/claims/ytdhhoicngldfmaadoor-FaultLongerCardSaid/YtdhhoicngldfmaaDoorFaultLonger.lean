/- Proved: for every input whatever, the law FaultLonger of layer 2 returns true and leaves its arguments as they were; the variable errors.errorType starts as the program's text lays it (the card ties it). No other condition. -/
import Derived.Test.YtdhhoicngldfmaaDoorFaultFrame
import Derived.Test.YtdhhoicngldfmaaDoorFaultK
namespace Go.Proofs.YtdhhoicngldfmaaDoor
open Go.ChangeShapes Go.WideShapes Go.ChangeAt Go.RowKit

theorem params_longer : ∀ t ∈ Tryd.f4.params.toList, Tryd.prog.readableRec t = true ∧ t < Tryd.prog.types.size := by
  rw [Tryd.params4]
  intro t ht
  simp at ht
  rcases ht with rfl | rfl <;> exact ⟨by kernel_rfl, of_decide_eq_true (by kernel_rfl)⟩

theorem longer_contract (H : Type) (enc : TypeId × Value → H) (W : World) (base : Nat) (args : Array Value) (ds gs : List (DataW H)) (before : List MemPlace)
    (hval : ∀ (j : Nat) t v, Tryd.f4.params[j]? = some t → args[j]? = some v → Value.okWide Tryd.prog W .any base t v)
    (hW : DataW.Whole enc Tryd.prog Tryd.f4.params.toList Rows.faultLongerSpec.vars false W args.toList ds gs before) (hL : laidMetH Tryd.prog Rows.faultLongerRow.laid W) :
    Calls Tryd.prog 4 args W fun e W' => ∃ v, e = .returned v ∧ Rows.faultLongerSpec.post enc Tryd.prog Tryd.f4 false true false false W args v W' := by
  have hW' := hW
  obtain ⟨p, q, hA0, hV, rfl, hfz, hnd⟩ := hW
  have hA : DataW.TrodAll enc Tryd.prog W 0 (fun _ => true) true Tryd.f4.params.toList args.toList ds p := hA0
  rw [Tryd.params4] at hA hval
  obtain ⟨v0, v1, v2, d0, d1, d2, p0, p1, p2, rfl, rfl, rfl, h0, h1, h2⟩ := trodAll_three hA
  obtain ⟨a, rfl, rfl, rfl, wa⟩ := open_int Tryd.underlying22 (hval 0 22 v0 rfl rfl) h0
  obtain ⟨xs, hs, _⟩ := open_sl Tryd.underlying23 Tryd.underlying3 cells_int (hval 1 23 v1 rfl rfl) h1
  obtain ⟨ys, hs2, _⟩ := open_sl Tryd.underlying23 Tryd.underlying3 cells_int (hval 2 23 v2 rfl rfl) h2
  refine (faultLonger_any a v1 v2 xs ys W (laid_of hL) hs hs2).mono fun e W' ⟨he, hE⟩ => ?_
  subst he
  exact ⟨_, rfl, law_post rfl laidOut params_longer 4 (by kernel_rfl) Tryd.underlying4 (fun ds hd => by
    rw [Tryd.params4] at hd
    match ds, hd with
    | [_, _, _], _ => rfl) hW' hE⟩

noncomputable abbrev args_longer : Array Value := #[.int .i64 0, .slice none 0 0, .slice none 0 0]
theorem longer_reads (os : Os) {H : Type} (enc : TypeId × Value → H) : ∃ x places, DataW.whole enc Tryd.prog ((laidWorld os).forCall (fun _ _ => 0) ⟨#[], args_longer, []⟩).memory Tryd.f4.params.toList Rows.faultLongerSpec.vars false args_longer.toList 8 = some (x, [], places) :=
  ⟨[.lit (.int .i64 0), .nil, .nil], [], by kernel_rfl⟩
theorem longer_laid (os : Os) : laidMetH Tryd.prog Rows.faultLongerRow.laid ((laidWorld os).forCall (fun _ _ => 0) ⟨#[], args_longer, []⟩).memory :=
  laidMetH_of_parts (laidMet_of_run' 8 (by kernel_rfl) (by kernel_rfl)) (by kernel_rfl)

set_option maxRecDepth 100000 in
theorem longer_lifted (os : Os) (started : os.Started) (H : Type) (enc : TypeId × Value → H) (F : Stop.Interp) :
    ReturnsInHanded {} Tryd.checked os 4 .any ((OpenSpec.ofChange Rows.faultLongerSpec).preRow enc Tryd.prog Tryd.f4 Rows.faultLongerRow.domain false Rows.faultLongerRow.laid) (((OpenSpec.ofChange Rows.faultLongerSpec).at F).post enc Tryd.prog Tryd.f4 false true false false) := by
  obtain ⟨x, places, hx⟩ := longer_reads os enc
  refine returnsInHanded_of_row (C := Tryd.checked) (s := OpenSpec.ofChange Rows.faultLongerSpec) own started (by kernel_rfl) Tryd.func4
    (witness_row_at (enc := enc) (C := Tryd.checked) false (laidWorld os) args_longer rfl (by kernel_rfl) (by kernel_rfl) (by kernel_rfl)
      (OpenSpec.preRow_of_cond 8 hx (by kernel_rfl) (fun k hk => by cases hk) (by kernel_rfl) (longer_laid os))) ?_
  intro W base args ds gs before hval hW _ _ _ hL _ _
  exact longer_contract H enc W base args ds gs before hval hW hL

theorem longer_said : Rows.FaultLongerSaid :=
  OpenClaim.holds_of_cond 4 Tryd.f4 rfl rfl rfl rfl rfl rfl rfl ⟨rfl, rfl, rfl, rfl, rfl⟩ rfl rfl rfl rfl rfl (by kernel_rfl) Tryd.func4 (by kernel_rfl)
    (of_decide_eq_true (by kernel_rfl)) (by unfold Func.isWrapper; rw [if_neg (by decide +kernel)]; exact ⟨rfl, rfl⟩)
    (fun os started H enc _ F => by rw [OpenClaim.pre_eq_preRow]; exact longer_lifted os started H enc F)

theorem longer_plain (f : FuncId) (fn : Func) (hf : Tryd.pinned.checked.prog.funcNamed "standish/standishlaw2.FaultLonger" = some f) (hfn : Tryd.pinned.checked.prog.funcs[f]? = some fn) :
    true = Tryd.pinned.checked.prog.looks [] ∧ ∀ (j : Nat) t, fn.params[j]? = some t → Tryd.pinned.checked.prog.wantsStandIn t = false := by
  obtain rfl : f = 4 := Option.some.inj ((show Tryd.prog.funcNamed "standish/standishlaw2.FaultLonger" = some 4 by kernel_rfl).symm.trans hf) |>.symm
  obtain rfl : fn = Tryd.f4 := (Option.some.inj (Tryd.func4.symm.trans hfn)).symm
  refine ⟨by kernel_rfl, fun j t ht => ?_⟩
  rw [Tryd.params4] at ht
  have hm := Array.mem_of_getElem? ht
  simp at hm
  rcases hm with rfl | rfl
  · exact (show Tryd.prog.wantsStandIn 22 = false by kernel_rfl)
  · exact (show Tryd.prog.wantsStandIn 23 = false by kernel_rfl)

theorem longer_card : Rows.FaultLongerCardSaid :=
  Claim7.holds_tied_plain_at .later [] _ _ _ _ longer_said (fun _ h => by cases h) (by kernel_rfl) (fun _ h => by cases h) faultLonger_row_tie rfl ⟨rfl, rfl⟩ (by kernel_rfl) rfl longer_plain (by kernel_rfl)
end Go.Proofs.YtdhhoicngldfmaaDoor
