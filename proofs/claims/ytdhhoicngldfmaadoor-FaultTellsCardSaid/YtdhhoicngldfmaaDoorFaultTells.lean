/- Proved: for every input whatever, the law FaultTells of layer 2 returns true and leaves its arguments as they were; the variable errors.errorType starts as the program's text lays it (the card ties it). No other condition. -/
import Derived.Test.YtdhhoicngldfmaaDoorCards
import Derived.Test.YtdhhoicngldfmaaDoorTie
import Derived.Test.YtdhhoicngldfmaaDoorLaw
import Derived.Test.YtdhhoicngldfmaaDoorFaultI
import Derived.LaidHandle
import Derived.Lib.LaidTab
namespace Go.Proofs.YtdhhoicngldfmaaDoor
open Go.ChangeShapes Go.WideShapes Go.ChangeAt Go.RowKit

theorem own : ownKnob Tryd.prog.godebug = none := by kernel_rfl
theorem laidOut : laidOutB Tryd.prog = true := by kernel_rfl
theorem cells_int : Tryd.prog.cellsOf 3 = 1 := by kernel_rfl
theorem g_err : Tryd.prog.globalNamed "errors.errorType" = some 0 := by kernel_rfl
theorem cut_rtype : (Tryd.prog.cutTypes.find? (·.1 == "internal/reflectlite.rtype")).map (·.2) = some 67 := by kernel_rfl
theorem named_error : (List.range Tryd.prog.types.size).filter (fun t => Tryd.prog.rowNamed t [101, 114, 114, 111, 114]) = [34] := by kernel_rfl

theorem laid_of {W : World} (h : laidMetH Tryd.prog [("errors.errorType", Rows.laid_errors_errorType)] W) : Laid W := by
  obtain ⟨_, hm⟩ : laidMet Tryd.prog _ W ∧ handlesMet Tryd.prog [("errors.errorType", Rows.laid_errors_errorType)] W := h
  obtain ⟨name, u, ty, h1, h2, h3, h4, h5⟩ := hm _ (List.mem_singleton.2 rfl)
  obtain rfl : [101, 114, 114, 111, 114] = name := Option.some.inj h1
  rw [cut_rtype] at h2
  obtain rfl := Option.some.inj h2
  have hty : ty ∈ (List.range Tryd.prog.types.size).filter (fun t => Tryd.prog.rowNamed t [101, 114, 114, 111, 114]) := List.mem_filter.2 ⟨List.mem_range.2 h3, h4⟩
  rw [named_error] at hty
  obtain rfl := List.mem_singleton.1 hty
  unfold World.var? at h5
  simp only [g_err, Option.bind_some] at h5
  unfold Laid World.cell?
  simp only
  split at h5
  · rename_i cs _ _ hh
    rw [hh]
    obtain rfl := Option.some.inj h5
    simp [typeHandle]
  · cases h5

theorem params_tells : ∀ t ∈ Tryd.f3.params.toList, Tryd.prog.readableRec t = true ∧ t < Tryd.prog.types.size := by
  rw [Tryd.params3]
  intro t ht
  simp at ht
  rcases ht with rfl | rfl | rfl <;> exact ⟨by kernel_rfl, of_decide_eq_true (by kernel_rfl)⟩

theorem tells_contract (H : Type) (enc : TypeId × Value → H) (W : World) (base : Nat) (args : Array Value) (ds gs : List (DataW H)) (before : List MemPlace)
    (hval : ∀ (j : Nat) t v, Tryd.f3.params[j]? = some t → args[j]? = some v → Value.okWide Tryd.prog W .any base t v)
    (hW : DataW.Whole enc Tryd.prog Tryd.f3.params.toList Rows.faultTellsSpec.vars false W args.toList ds gs before) (hL : laidMetH Tryd.prog Rows.faultTellsRow.laid W) :
    Calls Tryd.prog 3 args W fun e W' => ∃ v, e = .returned v ∧ Rows.faultTellsSpec.post enc Tryd.prog Tryd.f3 false true false false W args v W' := by
  have hW' := hW
  obtain ⟨p, q, hA0, hV, rfl, hfz, hnd⟩ := hW
  have hA : DataW.TrodAll enc Tryd.prog W 0 (fun _ => true) true Tryd.f3.params.toList args.toList ds p := hA0
  rw [Tryd.params3] at hA hval
  obtain ⟨v0, v1, v2, d0, d1, d2, p0, p1, p2, rfl, rfl, rfl, h0, h1, h2⟩ := trodAll_three hA
  obtain ⟨a, rfl, rfl, rfl, wa⟩ := open_int Tryd.underlying22 (hval 0 22 v0 rfl rfl) h0
  obtain ⟨b, rfl, rfl, rfl, wb⟩ := open_int Tryd.underlying22 (hval 1 22 v1 rfl rfl) h1
  obtain ⟨xs, hs, _⟩ := open_sl Tryd.underlying23 Tryd.underlying3 cells_int (hval 2 23 v2 rfl rfl) h2
  refine (faultTells_any a b v2 xs W (laid_of hL) hs).mono fun e W' ⟨he, hE⟩ => ?_
  subst he
  exact ⟨_, rfl, law_post rfl laidOut params_tells 4 (by kernel_rfl) Tryd.underlying4 (fun ds hd => by
    rw [Tryd.params3] at hd
    match ds, hd with
    | [_, _, _], _ => rfl) hW' hE⟩

/-- A world for the witness: the settled one, the variable holding what its initialiser lays. -/
noncomputable def laidWorld (os : Os) : World :=
  { World.holding Tryd.prog os ⟨#[], #[], []⟩ with heap := (World.holding Tryd.prog os ⟨#[], #[], []⟩).heap.modify 0 fun
      | .cells _ t frozen => .cells #[Rt 34] t frozen
      | o => o }
noncomputable abbrev args0 : Array Value := #[.int .i64 0, .int .i64 0, .slice none 0 0]
theorem tells_reads (os : Os) {H : Type} (enc : TypeId × Value → H) : ∃ x places, DataW.whole enc Tryd.prog ((laidWorld os).forCall (fun _ _ => 0) ⟨#[], args0, []⟩).memory Tryd.f3.params.toList Rows.faultTellsSpec.vars false args0.toList 8 = some (x, [], places) :=
  ⟨[.lit (.int .i64 0), .lit (.int .i64 0), .nil], [], by kernel_rfl⟩
theorem tells_laid (os : Os) : laidMetH Tryd.prog Rows.faultTellsRow.laid ((laidWorld os).forCall (fun _ _ => 0) ⟨#[], args0, []⟩).memory :=
  laidMetH_of_parts (laidMet_of_run' 8 (by kernel_rfl) (by kernel_rfl)) (by kernel_rfl)

set_option maxRecDepth 100000 in
theorem tells_lifted (os : Os) (started : os.Started) (H : Type) (enc : TypeId × Value → H) (F : Stop.Interp) :
    ReturnsInHanded {} Tryd.checked os 3 .any ((OpenSpec.ofChange Rows.faultTellsSpec).preRow enc Tryd.prog Tryd.f3 Rows.faultTellsRow.domain false Rows.faultTellsRow.laid) (((OpenSpec.ofChange Rows.faultTellsSpec).at F).post enc Tryd.prog Tryd.f3 false true false false) := by
  obtain ⟨x, places, hx⟩ := tells_reads os enc
  refine returnsInHanded_of_row (C := Tryd.checked) (s := OpenSpec.ofChange Rows.faultTellsSpec) own started (by kernel_rfl) Tryd.func3
    (witness_row_at (enc := enc) (C := Tryd.checked) false (laidWorld os) args0 rfl (by kernel_rfl) (by kernel_rfl) (by kernel_rfl)
      (OpenSpec.preRow_of_cond 8 hx (by kernel_rfl) (fun k hk => by cases hk) (by kernel_rfl) (tells_laid os))) ?_
  intro W base args ds gs before hval hW _ _ _ hL _ _
  exact tells_contract H enc W base args ds gs before hval hW hL

theorem tells_said : Rows.FaultTellsSaid :=
  OpenClaim.holds_of_cond 3 Tryd.f3 rfl rfl rfl rfl rfl rfl rfl ⟨rfl, rfl, rfl, rfl, rfl⟩ rfl rfl rfl rfl rfl (by kernel_rfl) Tryd.func3 (by kernel_rfl)
    (of_decide_eq_true (by kernel_rfl)) (by unfold Func.isWrapper; rw [if_neg (by decide +kernel)]; exact ⟨rfl, rfl⟩)
    (fun os started H enc _ F => by rw [OpenClaim.pre_eq_preRow]; exact tells_lifted os started H enc F)

theorem tells_plain (f : FuncId) (fn : Func) (hf : Tryd.pinned.checked.prog.funcNamed "standish/standishlaw2.FaultTells" = some f) (hfn : Tryd.pinned.checked.prog.funcs[f]? = some fn) :
    true = Tryd.pinned.checked.prog.looks [] ∧ ∀ (j : Nat) t, fn.params[j]? = some t → Tryd.pinned.checked.prog.wantsStandIn t = false := by
  obtain rfl : f = 3 := Option.some.inj ((show Tryd.prog.funcNamed "standish/standishlaw2.FaultTells" = some 3 by kernel_rfl).symm.trans hf) |>.symm
  obtain rfl : fn = Tryd.f3 := (Option.some.inj (Tryd.func3.symm.trans hfn)).symm
  refine ⟨by kernel_rfl, fun j t ht => ?_⟩
  rw [Tryd.params3] at ht
  have hm := Array.mem_of_getElem? ht
  simp at hm
  rcases hm with rfl | rfl
  · exact (show Tryd.prog.wantsStandIn 22 = false by kernel_rfl)
  · exact (show Tryd.prog.wantsStandIn 23 = false by kernel_rfl)

theorem tells_card : Rows.FaultTellsCardSaid :=
  Claim7.holds_tied_plain_at .later [] _ _ _ _ tells_said (fun _ h => by cases h) (by kernel_rfl) (fun _ h => by cases h) faultTells_row_tie rfl ⟨rfl, rfl⟩ (by kernel_rfl) rfl tells_plain (by kernel_rfl)
end Go.Proofs.YtdhhoicngldfmaaDoor
