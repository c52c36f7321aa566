/- Walk: the law FormNumbers. -/
import Derived.Test.YtfblkahjefdmaaaDoorRaG
namespace Go.Proofs.YtfblkahjefdmaaaDoor
open Go.RowKit

/-- The formats at their edges. -/
def fnums : List ByteArray := [⟨#[]⟩, ⟨#[36]⟩, ⟨#[36, 49]⟩, ⟨#[36, 49, 50]⟩, ⟨#[36, 49, 50, 51]⟩, ⟨#[36, 123]⟩, ⟨#[36, 123, 49]⟩, ⟨#[36, 123, 49, 125]⟩, ⟨#[36, 123, 49, 50, 125]⟩, ⟨#[36, 123, 49, 50, 51, 125]⟩, ⟨#[36, 123, 49, 58]⟩, ⟨#[36, 123, 49, 58, 125]⟩, ⟨#[36, 123, 49, 58, 47, 117, 112, 99, 97, 115, 101, 125]⟩, ⟨#[36, 123, 49, 58, 47, 117, 112, 99, 97, 115, 101]⟩, ⟨#[36, 123, 49, 58, 47, 85, 112, 99, 97, 115, 101, 125]⟩, ⟨#[36, 123, 49, 58, 47, 125]⟩, ⟨#[36, 123, 49, 58, 43, 125]⟩, ⟨#[36, 123, 49, 58, 43, 97, 125]⟩, ⟨#[36, 123, 49, 58, 43, 97, 92, 125, 125]⟩, ⟨#[36, 123, 49, 58, 45, 125]⟩, ⟨#[36, 123, 49, 58, 45, 97, 58, 98, 125]⟩, ⟨#[36, 123, 49, 58, 63, 125]⟩, ⟨#[36, 123, 49, 58, 63, 97, 125]⟩, ⟨#[36, 123, 49, 58, 63, 97, 58, 98, 125]⟩, ⟨#[36, 123, 49, 58, 63, 97, 92, 58, 98, 58, 99, 125]⟩, ⟨#[36, 123, 49, 58, 63, 125, 58, 125]⟩, ⟨#[36, 123, 49, 58, 63, 58, 125]⟩, ⟨#[36, 123, 49, 58, 97, 47, 98, 125]⟩, ⟨#[36, 123, 49, 58, 63, 97, 58, 98, 58, 99, 125]⟩, ⟨#[92]⟩, ⟨#[92, 47]⟩, ⟨#[92, 92]⟩, ⟨#[92, 36, 49]⟩, ⟨#[92, 97]⟩, ⟨#[92, 125]⟩, ⟨#[92, 123]⟩, ⟨#[125]⟩, ⟨#[97, 125, 98]⟩, ⟨#[36, 123, 48, 49, 125]⟩, ⟨#[36, 48, 49]⟩, ⟨#[36, 123, 49, 58, 92, 47, 97, 125]⟩, ⟨#[36, 123, 97, 125]⟩, ⟨#[36, 36, 49]⟩]
theorem fnums_size : ∀ k (hk : k < fnums.length), fnums[k].size ≤ 100 := by decide
theorem fnums_len : fnums.length = 43 := rfl
/-- An operation whose guard is met is one without. -/
theorem wpList_ung {P : Program} {ops : Array Oper} {Q : Exit → Act → World → Prop} {a : Act} {w : World} {rest : List Oper} {o : Oper} (hw : Region.wanted o (yielded ops a.tmps) = true) (h : wpList P ops Q ({ o with guard := none } :: rest) a w) : wpList P ops Q (o :: rest) a w := by
  unfold wpList at h ⊢
  rw [if_pos hw]
  rw [if_pos (by simp [Region.wanted])] at h
  exact h
set_option maxRecDepth 100000 in
set_option maxHeartbeats 2000000 in
theorem formNumbers_any (w : World) : Calls Tryd.prog 7 #[] w (Ret (.bool true) w) := by
  have HKN := Lib.hid known11_any
  have HCL := Lib.hid (fun k (hk : k < fnums.length) => strs_cell (w := w) (t := 9) hk)
  have HSZ := Lib.hid fnums_size
  have HPL := Lib.hid plain_any
  go_enter Tryd.func7, Tryd.ntmps7
  go_upto_block 0 with fail
  have HCL := Lib.hid (show ∀ k (hk : k < fnums.length), World.cell? _ ⟨w.heap.size, k, none⟩ = some (.string fnums[k]) from HCL.out)
  obtain ⟨W1, hW1⟩ : ∃ W1, w.alloc (.cells (fnums.map Value.string).toArray 9) = W1 := ⟨_, rfl⟩
  rw [hW1] at HCL
  have HE1 := Lib.hid (show Ext w W1 by rw [← hW1]; exact (Ext.refl w).alloc _)
  change Code.wp _ _ _ _ (w.alloc (.cells (fnums.map Value.string).toArray 9))
  rw [hW1]
  clear hW1
  go_wp2_with fail
  go_loopw [6] (fun x wr => ∃ k : Nat, k ≤ 43 ∧ x = .int .i64 (k : Int) ∧ Ext W1 wr) (fun x _ => 43 - (intOf x).toNat)
  case atStart => exact ⟨0, by omega, rfl, Ext.refl _⟩
  case round =>
    obtain ⟨k, hk, rfl, hE⟩ := hrel
    have HE := Lib.hid hE
    by_cases hlt : k < 43
    · have hkl : k < fnums.length := hlt
      have hc := hE.cell (HCL.out k hkl)
      have hsz := HSZ.out k hkl
      generalize fnums[k] = b at hc hsz
      have hgl := World.block_lt_of_cell? _ _ hc
      have HB := Lib.hid hsz
      clear hE hsz
      have tok1 : True := trivial
      go_wp2_with (first
        | (go_at_call 23; go_loud (have hb := HB.out; refine (HPL.out b wr (by omega)).mono ?_; rintro e w2 ⟨v2, rfl, hv2, hE2⟩; have hpl : (signs b).length ≤ 100 := (by rw [signs_len]; exact hb); generalize signs b = p at hv2 hpl; obtain ⟨A2, c2, rfl, -⟩ := hv2.form; have HO2 := Lib.hid hv2; have HE2 := Lib.hid hE2; clear hv2 hE2 hb))
        | (go_at_call 10; have _t := tok1; go_loud (refine (lsame_any p _ 0 w2 (SlB.slc HO2.out.sl) (by omega)).mono ?_; rintro e w3 ⟨rfl, hE3⟩; have HO3 := Lib.hid (HO2.out.keepB (keepsB_c _) (fun _ _ _ ho => hE3.heap ho)); have HE3 := Lib.hid (HE2.out.trans hE3); clear hE3 tok1 _t))
        | (at_builtin; go_loud (refine wpList_ung (by rfl) ?_; refine app_i32 rfl _ _ rfl wr.heap.size _ p [47] HO3.out.allocs rfl ⟨w3.heap.size, 0, none⟩ 1 1 rfl rfl (one_cells rfl) ?hn ?hB ?_; (case hn => (simp only [List.length_cons, List.length_nil]; omega)); (case hB => exact Nat.le_trans HE3.out.size (by simp)); intro v4 w4 h1 h2; have hE4 : Ext wr w4 := (HE3.out.alloc _).grown h2 (fun k hk => (HO3.out.lt k hk).1); generalize hl : p ++ [47] = p2 at h1; have hpl2 : p2.length ≤ 101 := (by rw [← hl, List.length_append]; simp only [List.length_cons, List.length_nil]; omega); obtain ⟨A4, c4, rfl, -⟩ := h1.form; have HO4 := Lib.hid h1.sl; have HE4 := Lib.hid hE4; clear h1 h2 hE4 hl))
        | (go_at_call 10; go_loud (refine (lsame_any p2 _ 0 w4 (SlB.slc HO4.out) (by omega)).mono ?_; rintro e w5 ⟨rfl, hE5⟩; have HE5 := Lib.hid (HE4.out.trans hE5); clear hE5)))
      go_roundw
      case rel => exact ⟨k + 1, by omega, by go_num, HE.out.trans HE5.out⟩
      case measure => simp [intOf]; omega
    · clear hE
      go_wp2_with (go_at_call 11; go_loud (refine (HKN.out _).mono ?_; rintro e w6 ⟨rfl, hE6⟩))
      go_ret
      exact ⟨rfl, (HE1.out.trans HE.out).trans hE6⟩
end Go.Proofs.YtfblkahjefdmaaaDoor
