/- Walks: the row of numbers that texts are made of. -/
import Derived.Test.YtfblkahjefdmaaaGreatWc
import Derived.Test.YtfblkahjefdmaaaGreatPureA
namespace Go.Proofs.YtfblkahjefdmaaaGreat
open Go.RowKit

section
variable {w0 : World} {tb : Nat} {sv : Value} {ts : List Int} {w wr w' : World} {i j : Nat}
theorem and_low (n : Int) : bits .and .i64 n 16777215 = n % 16777216 := by
  have h127 : (BitVec.ofInt 64 16777215).toNat = 2 ^ 24 - 1 := by decide
  have key : (BitVec.ofInt 64 n &&& BitVec.ofInt 64 16777215).toNat = (n % ((2 ^ 64 : Nat) : Int)).toNat % 2 ^ 24 := by
    rw [BitVec.toNat_and, BitVec.toNat_ofInt, h127, Nat.and_two_pow_sub_one_eq_mod]
  show IntKind.i64.wrap ((BitVec.ofInt 64 n &&& BitVec.ofInt 64 16777215).toNat : Nat) = n % 16777216
  rw [key, IntKind.wrap_i64]
  omega
theorem tmod_low {x n : Int} (hn : 1 ≤ n) : (x % 16777216).tmod n = (((x % 16777216).toNat % n.toNat : Nat) : Int) := by
  have h0 : 0 ≤ x % 16777216 := by omega
  rw [Int.tmod_eq_emod_of_nonneg h0, Int.natCast_emod, Int.toNat_of_nonneg h0, Int.toNat_of_nonneg (by omega)]
end

theorem SlB.none_ {α : Type} {t sz : Nat} {C : World → List Value → α → Prop} {b : Nat} {w : World} {n c : Nat} {xs : List α} (h : SlB t sz C b w (.slice none n c) xs) : xs = [] ∧ n = 0 ∧ c = 0 := by
  obtain ⟨A, c', hv, hl, _, hn, _⟩ := h
  injection hv with h1 h2 h3
  have h4 := hn h1.symm
  have h5 : xs.length = 0 := by omega
  exact ⟨List.eq_nil_of_length_eq_zero h5, by omega, by omega⟩
/-- append(v, src...) of signs, whatever the source. -/
theorem app_src {w : World} {ops : Array Oper} {rest : List Oper} {o : Oper} {a : Act} {Q : Exit → Act → World → Prop} (hgd : o.guard = none) (s x : Operand) (ho : o.op = .call { callee := .builtin .append, args := #[s, x], argTypes := #[24, 24] })
    (B b : Nat) (v src : Value) (xs ys : List Int) (hown : OwnB 21 1 Cc B w v xs) (hs : a.eval s = v) (hx : a.eval x = src) (hsrc : SlB 21 1 Cc b w src ys)
    (hn : xs.length ≤ 1000000) (hn2 : ys.length ≤ 1000000) (hB : B ≤ w.heap.size)
    (h : ∀ v' w', OwnB 21 1 Cc B w' v' (xs ++ ys) → w.grownBy w' v.ownBlock → wpList Tryz.prog ops Q rest (a.put o.dst v') w') :
    wpList Tryz.prog ops Q (o :: rest) a w := by
  obtain ⟨i0, hi, hz0, hz1, hz2⟩ := info_parts info_c
  obtain ⟨A, c, rfl, hl, hc⟩ := hsrc.form
  cases A with
  | none =>
    obtain ⟨hy, hl0, hc0⟩ := SlB.none_ hsrc
    subst hy hc0
    refine wpList_append_own_none hgd s x 24 ho B 21 i0 1 Tryz.underlying24 hi v xs.length (xs.map (Value.int .i32)) hs hown.flat_i32 hx ?_
    exact h v w (by rw [List.append_nil]; exact hown) (World.grownBy.refl _ _)
  | some ad =>
    refine wpList_append_own (P := Tryz.prog) (w := w) hgd s x _ ho B 21 i0 (.int .i32 0) 1 4 Tryz.underlying24 hi hz0 hz1 hz2 rfl (by decide) v xs.length _ hs hown.flat_i32 ad ys.length c (ys.map (Value.int .i32)) hx (by simp) ?_ ?_ (by unfold maxLen; omega) (by omega) hB ?_
    · exact cells_map (SlB.add hsrc)
    · intro u hu
      simp at hu
      obtain ⟨y, _, rfl⟩ := hu
      rfl
    · intro v' w' h1 h2 _
      refine h v' w' (OwnB.of_flat_i32 ?_) h2
      rw [List.map_append, List.length_append]
      exact h1

theorem one_cells {w : World} {nb : Nat} {a : Int} {t : TypeId} (hnb : nb = w.heap.size) : ∀ j y, [a][j]? = some y → (w.alloc (.cells #[.int .i32 a] t)).cell? ((⟨nb, 0, none⟩ : Addr).add j) = some (.int .i32 y) := by
  subst hnb
  intro j y hy
  refine news_all w [.int .i32 a] t j _ ?_
  match j, hy with
  | 0, hy => simp at hy; subst hy; rfl
theorem wrap_byte (x : UInt8) : wrap32 (x.toNat : Int) = x.toNat := by
  have := UInt8.toNat_lt x
  unfold wrap32
  omega
/-- A string's bytes as signs. -/
def signs (b : ByteArray) : List Int := b.data.toList.map fun x => (x.toNat : Int)
theorem signs_len (b : ByteArray) : (signs b).length = b.size := by simp [signs]
theorem signs_take {b : ByteArray} {k : Nat} (h : k < b.size) : (signs b).take (k + 1) = (signs b).take k ++ [(b[k].toNat : Int)] := by
  have h2 : k < (signs b).length := by rw [signs_len]; exact h
  rw [List.take_succ_eq_append_getElem h2]
  congr 1
  simp [signs]; rfl

set_option maxHeartbeats 1000000 in
theorem plain_any (s : ByteArray) (w : World) (hs : s.size ≤ 1000000) : Calls Tryz.prog 5 #[.string s] w (RetP (fun w' v => OwnB 21 1 Cc w.heap.size w' v (signs s)) w) := by
  go_enter Tryz.func5, Tryz.ntmps5
  go_wp2_with fail
  go_loopw [3, 4] (fun v i wr => ∃ k : Nat, k ≤ s.size ∧ i = .int .i64 k ∧ OwnB 21 1 Cc w.heap.size wr v ((signs s).take k) ∧ Ext w wr) (fun _ i _ => s.size - (intOf i).toNat)
  case atStart => exact ⟨0, Nat.zero_le _, rfl, OwnB.nil_, Ext.refl w⟩
  case round =>
    obtain ⟨k, hk, rfl, hown, hE⟩ := hrel
    have HOW := Lib.hid hown
    have HE := Lib.hid hE
    have HLT := Lib.hid hown.lt
    obtain ⟨A, c, rfl, hlc, hcm⟩ := hown.form
    have hlen : ((signs s).take k).length ≤ 1000000 := by rw [List.length_take, signs_len]; omega
    have hsz := hE.size
    by_cases hlt : k < s.size
    · have HT := Lib.hid (signs_take hlt)
      have HW := Lib.hid (wrap_byte s[k])
      generalize (signs s).take k = xs at HOW HLT HT hlen hlc ⊢
      obtain ⟨xs', hxs'⟩ : ∃ l, l = (signs s).take (k + 1) := ⟨_, rfl⟩
      rw [← hxs'] at HT
      have HX := Lib.hid hxs'
      clear hown hE hxs'
      have hi0 : w.heap.size ≤ (wr.alloc (.cells #[.int .i32 (wrap32 (s[k].toNat : Int))] 21)).heap.size := by simp; omega
      go_wp2_with (at_builtin; go_loud (refine app_i32 rfl _ _ rfl w.heap.size _ xs [wrap32 (s[k].toNat : Int)] ?hown rfl ⟨wr.heap.size, 0, none⟩ 1 1 rfl rfl ?hc ?hn ?hll ?hB ?_; (case hown => exact HOW.out.allocs); (case hc => exact one_cells rfl); (case hn => omega); (case hll => (show 1 ≤ 1000; decide)); (case hB => exact hi0); intro v' w' h1 h2; have HX2 := Lib.hid (And.intro h1 ((HE.out.alloc _).grown h2 (fun k hk => (HLT.out k hk).1))); clear h1 h2))
      go_roundw
      case rel => exact ⟨k + 1, by omega, by go_num, by rw [← HX.out, HT.out, ← HW.out]; exact HX2.out.1, HX2.out.2⟩
      case measure => simp [intOf]; omega
    · have hk2 : k = s.size := by omega
      have HT := Lib.hid (show (signs s).take k = signs s by rw [hk2, ← signs_len, List.take_length])
      clear hown hE hk2
      go_wp2_with fail
      go_ret
      exact ⟨_, rfl, by have := HOW.out; rw [HT.out] at this ⊢; exact this, HE.out⟩
end Go.Proofs.YtfblkahjefdmaaaGreat
