/- Walks: names of cases; cased of package format. -/
import Derived.Test.YtfblkahjefdmaaaDoorFdC
namespace Go.Proofs.YtfblkahjefdmaaaDoor
open Go.RowKit

def nbs : List ByteArray := [⟨#[117, 112, 99, 97, 115, 101]⟩, ⟨#[100, 111, 119, 110, 99, 97, 115, 101]⟩, ⟨#[99, 97, 112, 105, 116, 97, 108, 105, 122, 101]⟩, ⟨#[112, 97, 115, 99, 97, 108, 99, 97, 115, 101]⟩, ⟨#[99, 97, 109, 101, 108, 99, 97, 115, 101]⟩]
def NamesP (w : World) (e : Ending) (w' : World) : Prop := e = .returned (.slice (some ⟨w.heap.size, 0, none⟩) 5 5) ∧ w' = w.alloc (.cells (nbs.map Value.string).toArray 9)
theorem names_any (w : World) : Calls Tryd.prog 49 #[] w (NamesP w) := by
  go_enter Tryd.func49, Tryd.ntmps49
  go_wp2_with fail
  go_ret
  exact ⟨rfl, rfl⟩
theorem name_runes0 : Conv.runesFrom (nbs.getD 0 ⟨#[]⟩ ++ ⟨#[125]⟩) (nbs.getD 0 ⟨#[]⟩ ++ ⟨#[125]⟩).size 0 #[] = (((FM.names.getD 0 []) ++ [125]).map (Value.int .i32)).toArray := by kernel_rfl
theorem name_runes1 : Conv.runesFrom (nbs.getD 1 ⟨#[]⟩ ++ ⟨#[125]⟩) (nbs.getD 1 ⟨#[]⟩ ++ ⟨#[125]⟩).size 0 #[] = (((FM.names.getD 1 []) ++ [125]).map (Value.int .i32)).toArray := by kernel_rfl
theorem name_runes2 : Conv.runesFrom (nbs.getD 2 ⟨#[]⟩ ++ ⟨#[125]⟩) (nbs.getD 2 ⟨#[]⟩ ++ ⟨#[125]⟩).size 0 #[] = (((FM.names.getD 2 []) ++ [125]).map (Value.int .i32)).toArray := by kernel_rfl
theorem name_runes3 : Conv.runesFrom (nbs.getD 3 ⟨#[]⟩ ++ ⟨#[125]⟩) (nbs.getD 3 ⟨#[]⟩ ++ ⟨#[125]⟩).size 0 #[] = (((FM.names.getD 3 []) ++ [125]).map (Value.int .i32)).toArray := by kernel_rfl
theorem name_runes4 : Conv.runesFrom (nbs.getD 4 ⟨#[]⟩ ++ ⟨#[125]⟩) (nbs.getD 4 ⟨#[]⟩ ++ ⟨#[125]⟩).size 0 #[] = (((FM.names.getD 4 []) ++ [125]).map (Value.int .i32)).toArray := by kernel_rfl
theorem name_runes : ∀ k, k < 5 → Conv.runesFrom (nbs.getD k ⟨#[]⟩ ++ ⟨#[125]⟩) (nbs.getD k ⟨#[]⟩ ++ ⟨#[125]⟩).size 0 #[] = (((FM.names.getD k []) ++ [125]).map (Value.int .i32)).toArray := by
  intro k h
  have : k = 0 ∨ k = 1 ∨ k = 2 ∨ k = 3 ∨ k = 4 := by omega
  clear h
  rcases this with rfl | rfl | rfl | rfl | rfl
  · exact name_runes0
  · exact name_runes1
  · exact name_runes2
  · exact name_runes3
  · exact name_runes4
theorem nb_len : ∀ k, k < 5 → (nbs.getD k ⟨#[]⟩).size ≤ 10 := by decide
theorem name_len : ∀ k, k < 5 → 1 ≤ (FM.names.getD k []).length ∧ (FM.names.getD k []).length ≤ 10 := by decide
theorem casedL_step {l : List Int} : ∀ k, k < 5 → FM.casedL (FM.names.drop k) (1 + k) l = if l.take ((FM.names.getD k []).length + 1) = FM.names.getD k [] ++ [125] then some (1 + (k : Int), (FM.names.getD k []).length + 1) else FM.casedL (FM.names.drop (k + 1)) (1 + ((k + 1 : Nat) : Int)) l := by
  intro k hk
  match k, hk with
  | 0, _ => rfl
  | 1, _ => rfl
  | 2, _ => rfl
  | 3, _ => rfl
  | 4, _ => rfl
/-- A case and the place behind it, or none. -/
def CasP (R : Option (Int × Nat)) (i : Nat) (w : World) (e : Ending) (w' : World) : Prop :=
  Ext w w' ∧ ((∃ n k, R = some (n, k) ∧ e = .returned (.tuple #[.int .i64 n, .int .i64 ((i + k : Nat) : Int), .bool true])) ∨ (R = none ∧ e = .returned (.tuple #[.int .i64 0, .int .i64 0, .bool false])))
theorem SlR.cut2 {k : IntKind} {w : World} {A : Option Addr} {n c : Nat} {xs : List Int} (h : SlR 1 (fun w b o x => w.cell? ⟨b, o, none⟩ = some (.int k x)) w (.slice A n c) xs) {i m : Nat} (hi : i < m) (hm : m ≤ xs.length) :
    SlR 1 (fun w b o x => w.cell? ⟨b, o, none⟩ = some (.int k x)) w (.slice (cutA A c i 1) (m - i) (c - i)) ((xs.drop i).take (m - i)) := by
  have h2 := h.cut (k := i) (by omega)
  obtain ⟨A', c', hv, hl, hc, hx, hn⟩ := h2
  injection hv with e1 e2 e3
  subst e1 e3
  have hlen : ((xs.drop i).take (m - i)).length = m - i := by rw [List.length_take, List.length_drop]; omega
  refine ⟨cutA A c i 1, c - i, by rw [hlen], by rw [hlen]; rw [List.length_drop] at hl; omega, hc, fun j x hj => ?_, hn⟩
  rw [List.getElem?_take] at hj
  split at hj
  · exact hx j x hj
  · cases hj

set_option maxRecDepth 100000 in
set_option maxHeartbeats 2000000 in
theorem cased_any (s : List Int) (vs : Value) (i : Nat) (w : World) (hs : SlC w vs s) (hi : i ≤ s.length) :
    Calls Tryd.prog 60 #[vs, .int .i64 (i : Int)] w (CasP (FM.cased (s.drop i)) i w) := by
  have H := Lib.hid hs
  obtain ⟨A, ca, rfl, hlx, hcx, -⟩ := hs
  obtain ⟨R, hR⟩ : ∃ R, FM.cased (s.drop i) = R := ⟨_, rfl⟩
  rw [hR]
  have HR := Lib.hid (show FM.casedL (FM.names.drop 0) (1 + ((0 : Nat) : Int)) (s.drop i) = R from hR)
  clear hR
  have HNM := Lib.hid names_any
  go_enter Tryd.func60, Tryd.ntmps60
  go_wp2_with (go_at_call 49; refine (HNM.out _).mono ?_; rintro e w' ⟨rfl, hw⟩; have HNB := Lib.hid (show w'.heap[w.heap.size]? = some (.cells (nbs.map Value.string).toArray 9 (0, 0)) from (by rw [hw]; exact heap_alloc_new w _)); have hE0 : Ext w w' := (by rw [hw]; exact (Ext.refl w).alloc _); have HE0 := Lib.hid hE0; clear hw hE0)
  go_loopw [12] (fun x wr => ∃ k : Nat, k ≤ 5 ∧ x = .int .i64 (k : Int) ∧ Ext w' wr ∧ FM.casedL (FM.names.drop k) (1 + (k : Int)) (s.drop i) = R) (fun x _ => 5 - (intOf x).toNat)
  case atStart => exact ⟨0, by omega, rfl, Ext.refl _, HR.out⟩
  case round =>
    obtain ⟨k, hk, rfl, hE, hT⟩ := hrel
    have HE := Lib.hid hE
    have HT := Lib.hid hT
    clear hT
    by_cases hlt : k < 5
    · have hkn : k < nbs.length := hlt
      have hcell := cell_of_row wr w.heap.size k _ _ _ (hE.heap HNB.out)
      have hcs : (nbs.map Value.string).toArray[k]? = some (.string (nbs.getD k ⟨#[]⟩)) := by simp [List.getD_eq_getElem?_getD, hkn]
      rw [hcs] at hcell
      have hnl := name_len k hlt
      have hrun := name_runes k hlt
      have hnbl := nb_len k hlt
      have hst := casedL_step (l := s.drop i) k hlt
      generalize nbs.getD k ⟨#[]⟩ = nb at hcell hrun hnbl
      generalize FM.names.getD k [] = nm at hnl hrun hst
      have hlen : (Conv.runesFrom (nb ++ ⟨#[125]⟩) (nb ++ ⟨#[125]⟩).size 0 #[]).size = nm.length + 1 := by rw [hrun]; simp
      have kc := run_runes_of_string (P := Tryd.prog) wr 9 22 21 (nb ++ ⟨#[125]⟩) Tryd.underlying9 Tryd.underlying22 Tryd.underlying21 (by rw [hlen]; omega)
      rw [hlen, hrun] at kc
      have hcap := grownCap_ge wr (nm.length + 1) 0 21
      have hcm := grownCap_le_maxLen wr (nm.length + 1) 0 21 (by unfold maxLen; omega)
      unfold maxLen at hcm
      generalize grownCap wr (nm.length + 1) 0 21 = cap at kc hcap hcm
      obtain ⟨W1, hW1⟩ : ∃ W1, wr.drew.alloc (.cells (((nm ++ [125]).map (Value.int .i32)).toArray ++ Array.replicate (cap - (nm.length + 1)) (.int .i32 0)) 21) = W1 := ⟨_, rfl⟩
      rw [hW1] at kc
      have hs1 : SlC W1 (.slice (some ⟨wr.heap.size, 0, none⟩) (nm.length + 1) cap) (nm ++ [125]) := by
        refine ⟨_, cap, by simp, by simp; omega, by omega, fun j x hx => ⟨wr.heap.size, 0, rfl, ?_⟩, by intro h; cases h⟩
        rw [← hW1]
        have hj : j < (nm ++ [125]).length := (List.getElem?_eq_some_iff.1 hx).1
        have h2 := World.cell?_alloc_new wr.drew (((nm ++ [125]).map (Value.int .i32)).toArray ++ Array.replicate (cap - (nm.length + 1)) (.int .i32 0)) 21 (0 + j * 1)
        refine h2.trans ?_
        rw [Nat.mul_one, Nat.zero_add, Array.getElem?_append_left (by simpa using hj)]
        simp only [List.getElem?_toArray, List.getElem?_map, hx, Option.map_some]
      have hEW : Ext wr W1 := by rw [← hW1]; exact ((Ext.refl wr).drew).alloc _
      have HEW := Lib.hid hEW
      have hnl1 : ((nm.length + 1 : Nat) : Int) = (nm.length : Int) + 1 := by omega
      obtain ⟨hn1, hn2⟩ := hnl
      have HST := Lib.hid hst
      by_cases hfit : nm.length + 1 ≤ s.length - i
      · have hge : decide ((nm.length : Int) + 1 ≤ (s.length : Int) - (i : Int)) = true := by simp; omega
        obtain ⟨i0, hi0, hz0, hz1, hz2⟩ := info_parts info_c
        have hsl := fun W => run_sl_both (P := Tryd.prog) Tryd.underlying22 hi0 A (n := s.length) (c := ca) (k := i) (m := i + (nm.length + 1)) (Nat.le_add_right _ _) (by omega) W
        rw [hz1] at hsl
        simp only [Int.natCast_add, Nat.add_sub_cancel_left, Int.cast_ofNat_Int] at hsl
        have hcut := (H.out.ext (HE0.out.trans (hE.trans hEW))).cut2 (i := i) (m := i + (nm.length + 1)) (by omega) (by omega)
        rw [Nat.add_sub_cancel_left] at hcut
        have HQ := Lib.hid (equal_any _ _ _ _ W1 hcut hs1)
        by_cases heq : (s.drop i).take (nm.length + 1) = nm ++ [125]
        · have HD := Lib.hid (show decide ((s.drop i).take (nm.length + 1) = nm ++ [125]) = true from decide_eq_true heq)
          have HRR := Lib.hid (show R = some (1 + (k : Int), nm.length + 1) by rw [← HT.out, HST.out, if_pos heq])
          clear hrun hlen hW1 hs1 hE hEW heq hcut hcs hst
          go_wp2_with (go_at_call 66; refine HQ.out.mono ?_; rw [HD.out]; rintro e w2 ⟨rfl, n2, rfl⟩)
          go_ret3
          exact ⟨((HE0.out.trans HE.out).trans HEW.out).drewN _, .inl ⟨_, _, HRR.out, by go_num⟩⟩
        · have HD := Lib.hid (show decide ((s.drop i).take (nm.length + 1) = nm ++ [125]) = false from decide_eq_false heq)
          have HRR := Lib.hid (show FM.casedL (FM.names.drop (k + 1)) (1 + ((k + 1 : Nat) : Int)) (s.drop i) = R by rw [← HT.out, HST.out, if_neg heq])
          clear hrun hlen hW1 hs1 hE hEW heq hcut hcs hst
          go_wp2_with (go_at_call 66; refine HQ.out.mono ?_; rw [HD.out]; rintro e w2 ⟨rfl, n2, rfl⟩)
          go_roundw
          case rel => exact ⟨k + 1, by omega, by go_num, (HE.out.trans HEW.out).drewN _, HRR.out⟩
          case measure => simp [intOf]; omega
      · have hge : decide ((nm.length : Int) + 1 ≤ (s.length : Int) - (i : Int)) = false := by simp; omega
        have heq : ¬ (s.drop i).take (nm.length + 1) = nm ++ [125] := by
          intro h
          have := congrArg List.length h
          rw [List.length_take, List.length_drop, List.length_append] at this
          simp at this; omega
        have HRR := Lib.hid (show FM.casedL (FM.names.drop (k + 1)) (1 + ((k + 1 : Nat) : Int)) (s.drop i) = R by rw [← HT.out, HST.out, if_neg heq])
        clear hrun hlen hW1 hs1 hE hEW heq hcs hst
        go_wp2_with fail
        go_roundw
        case rel => exact ⟨k + 1, by omega, by go_num, HE.out.trans HEW.out, HRR.out⟩
        case measure => simp [intOf]; omega
    · have HRR := Lib.hid (show R = none by rw [← HT.out, show k = 5 by omega]; rfl)
      clear hE
      go_wp2_with fail
      go_ret3
      exact ⟨HE0.out.trans HE.out, .inr ⟨HRR.out, rfl⟩⟩
end Go.Proofs.YtfblkahjefdmaaaDoor
