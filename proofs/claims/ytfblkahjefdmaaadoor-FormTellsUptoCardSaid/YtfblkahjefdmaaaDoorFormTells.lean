/- Proved: where what it reads is of bulk at most 1048576, the law FormTells of layer 11 returns true and leaves its arguments as they were; the listed variables start as the program's text lays them (the card ties them). No other condition. -/
import Derived.Test.YtfblkahjefdmaaaDoorFormFrame
import Derived.Test.YtfblkahjefdmaaaDoorRaH
namespace Go.Proofs.YtfblkahjefdmaaaDoor
open Go.ChangeShapes Go.WideShapes Go.ChangeAt Go.RowKit

theorem bulk_pos {H : Type} (d : DataW H) : 1 ≤ Rows.uptoBulk d := by
  cases d with
  | lit l => cases l <;> simp [Rows.uptoBulk]
  | _ => simp [Rows.uptoBulk]
theorem bulk_len {H : Type} : ∀ l : List (DataW H), l.length ≤ Rows.uptoBulkAll l
  | [] => Nat.zero_le _
  | d :: r => by
    have := bulk_len r
    have := bulk_pos d
    simp [Rows.uptoBulkAll]; omega

theorem params_tells : ∀ t ∈ Tryd.f3.params.toList, Tryd.prog.readableRec t = true ∧ t < Tryd.prog.types.size := by
  rw [Tryd.params3]
  intro t ht
  simp at ht
  rcases ht with rfl | rfl | rfl | rfl <;> exact ⟨by kernel_rfl, of_decide_eq_true (by kernel_rfl)⟩

set_option maxRecDepth 100000 in
theorem tells_contract (H : Type) (enc : TypeId × Value → H) (W : World) (base : Nat) (args : Array Value) (ds gs : List (DataW H)) (before : List MemPlace)
    (hval : ∀ (j : Nat) t v, Tryd.f3.params[j]? = some t → args[j]? = some v → Value.okWide Tryd.prog W .any base t v)
    (hW : DataW.Whole enc Tryd.prog Tryd.f3.params.toList Rows.formTellsSpec.vars false W args.toList ds gs before)
    (hk : ∀ k, (Rows.OpenSpec.upto Rows.formTellsSpec).cond = some k → k H (ds ++ gs) = true) :
    Calls Tryd.prog 3 args W fun e W' => ∃ v, e = .returned v ∧ Rows.formTellsSpec.post enc Tryd.prog Tryd.f3 false true false false W args v W' := by
  have hW' := hW
  obtain ⟨p, q, hA0, hV, rfl, hfz, hnd⟩ := hW
  have hA : DataW.TrodAll enc Tryd.prog W 0 (fun _ => true) true Tryd.f3.params.toList args.toList ds p := hA0
  rw [Tryd.params3] at hA hval
  obtain ⟨v0, v1, v2, v3, d0, d1, d2, d3, p0, p1, p2, p3, rfl, rfl, rfl, h0, h1, h2, h3⟩ := trodAll_four hA
  obtain ⟨xs, hs, _⟩ := open_sl Tryd.underlying22 Tryd.underlying21 cells_int32 (hval 0 22 v0 rfl rfl) h0
  obtain ⟨ys, hs2, _⟩ := open_sl Tryd.underlying23 Tryd.underlying3 cells_int (hval 1 23 v1 rfl rfl) h1
  obtain ⟨n2, rfl, rfl, rfl, _⟩ := open_int Tryd.underlying3 (hval 2 3 v2 rfl rfl) h2
  obtain ⟨n3, rfl, rfl, rfl, _⟩ := open_int Tryd.underlying21 (hval 3 21 v3 rfl rfl) h3
  have hb : Rows.uptoBulkAll ([d0, d1, .lit (.int .i64 n2), .lit (.int .i32 n3)] ++ gs) ≤ 1048576 := of_decide_eq_true (hk _ rfl)
  simp only [List.cons_append, Rows.uptoBulkAll] at hb
  have hl1 : xs.length ≤ 2000000 := by
    obtain ⟨a0, c0, hv, _⟩ := id hs
    rcases open_sl_len Tryd.underlying22 Tryd.underlying21 cells_int32 h0 hv with h | ⟨elems, spare, hd, h⟩
    · omega
    · have := bulk_len elems
      rw [hd] at hb; simp only [Rows.uptoBulk] at hb; omega
  refine (formTells_any xs ys v0 v1 n2 n3 W hs hs2 hl1).mono fun e W' ⟨he, hE⟩ => ?_
  subst he
  exact ⟨_, rfl, law_post rfl laidOut params_tells 4 (by kernel_rfl) Tryd.underlying4 (fun ds hd => by
    rw [Tryd.params3] at hd
    match ds, hd with
    | [_, _, _, _], _ => rfl) hW' hE⟩

noncomputable abbrev args_tells : Array Value := #[.slice none 0 0, .slice none 0 0, .int .i64 0, .int .i32 0]
theorem tells_reads (os : Os) {H : Type} (enc : TypeId × Value → H) : ∃ places, DataW.whole enc Tryd.prog ((laidWorld os).forCall (fun _ _ => 0) ⟨#[], args_tells, []⟩).memory Tryd.f3.params.toList Rows.formTellsSpec.vars false args_tells.toList 8 = some ([.nil, .nil, .lit (.int .i64 0), .lit (.int .i32 0)], [], places) :=
  ⟨[], by kernel_rfl⟩

set_option maxRecDepth 100000 in
theorem tells_lifted (os : Os) (started : os.Started) (H : Type) (enc : TypeId × Value → H) (F : Stop.Interp) :
    ReturnsInHanded {} Tryd.checked os 3 .any ((Rows.OpenSpec.upto Rows.formTellsSpec).preRow enc Tryd.prog Tryd.f3 Rows.formTellsUptoRow.domain false Rows.formTellsUptoRow.laid) (((Rows.OpenSpec.upto Rows.formTellsSpec).at F).post enc Tryd.prog Tryd.f3 false true false false) := by
  obtain ⟨places, hx⟩ := tells_reads os enc
  refine returnsInHanded_of_row (C := Tryd.checked) (s := Rows.OpenSpec.upto Rows.formTellsSpec) own started (by kernel_rfl) Tryd.func3
    (witness_row_atRef (enc := enc) (C := Tryd.checked) false (laidWorld os) args_tells rfl (by kernel_rfl) (by kernel_rfl) (by kernel_rfl)
      (OpenSpec.preRow_of_cond 8 hx (by kernel_rfl) (fun k hk => by cases hk; rfl) (by kernel_rfl) (door_met os _))) ?_
  intro W base args ds gs before hval hW _ hk _ _ _ _
  exact tells_contract H enc W base args ds gs before hval hW hk

theorem tells_said : Rows.FormTellsUptoSaid :=
  OpenClaim.holds_of_cond 3 Tryd.f3 rfl rfl rfl rfl rfl rfl rfl ⟨rfl, rfl, rfl, rfl, rfl⟩ rfl rfl rfl rfl rfl (by kernel_rfl) Tryd.func3 (by kernel_rfl)
    (of_decide_eq_true (by kernel_rfl)) (by unfold Func.isWrapper; rw [if_neg (by decide +kernel)]; exact ⟨rfl, rfl⟩)
    (fun os started H enc _ F => by rw [OpenClaim.pre_eq_preRow]; exact tells_lifted os started H enc F)

theorem tells_plain (f : FuncId) (fn : Func) (hf : Tryd.pinned.checked.prog.funcNamed "standish/standishlaw11.FormTells" = some f) (hfn : Tryd.pinned.checked.prog.funcs[f]? = some fn) :
    true = Tryd.pinned.checked.prog.looks [] ∧ ∀ (j : Nat) t, fn.params[j]? = some t → Tryd.pinned.checked.prog.wantsStandIn t = false := by
  obtain rfl : f = 3 := Option.some.inj ((show Tryd.prog.funcNamed "standish/standishlaw11.FormTells" = some 3 by kernel_rfl).symm.trans hf) |>.symm
  obtain rfl : fn = Tryd.f3 := (Option.some.inj (Tryd.func3.symm.trans hfn)).symm
  refine ⟨by kernel_rfl, fun j t ht => ?_⟩
  rw [Tryd.params3] at ht
  have hm := Array.mem_of_getElem? ht
  simp at hm
  rcases hm with rfl | rfl | rfl | rfl
  · exact (show Tryd.prog.wantsStandIn 22 = false by kernel_rfl)
  · exact (show Tryd.prog.wantsStandIn 23 = false by kernel_rfl)
  · exact (show Tryd.prog.wantsStandIn 3 = false by kernel_rfl)
  · exact (show Tryd.prog.wantsStandIn 21 = false by kernel_rfl)

theorem tells_card : Rows.FormTellsUptoCardSaid :=
  Claim7.holds_tied_plain_at .later [] _ _ _ _ tells_said (fun _ h => by cases h) (by kernel_rfl) (fun _ h => by cases h) formTellsUpto_row_tie rfl ⟨rfl, rfl⟩ (by kernel_rfl) rfl tells_plain (by kernel_rfl)
end Go.Proofs.YtfblkahjefdmaaaDoor
