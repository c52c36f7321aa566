/- Walk: the document's own answer: Digits. -/
import Derived.Test.YtfblkahjefdmaaaDoorRbB
namespace Go.Proofs.YtfblkahjefdmaaaDoor
open Go.RowKit

theorem dec_one {n : Nat} (h : n < 10) : FM.dec (n : Int) = [48 + (n : Int)] := by unfold FM.dec; rw [if_pos (by omega)]
theorem dec_two {n : Nat} (h : 10 ≤ n) : FM.dec (n : Int) = [48 + ((n / 10 : Nat) : Int), 48 + ((n % 10 : Nat) : Int)] := by
  unfold FM.dec
  rw [if_neg (by omega)]
  simp
theorem tmod10 (n : Nat) : (n : Int).tmod 10 = ((n % 10 : Nat) : Int) := by rw [Int.tmod_eq_emod_of_nonneg (by omega)]; omega
theorem tdiv10 (n : Nat) : (n : Int).tdiv 10 = ((n / 10 : Nat) : Int) := by rw [Int.tdiv_eq_ediv_of_nonneg (by omega)]; omega
set_option maxRecDepth 100000 in
set_option maxHeartbeats 2000000 in
theorem digits_any (n : Nat) (hn : n ≤ 99) (w : World) : Calls Tryd.prog 35 #[.int .i64 (n : Int), .int .i64 1] w (RetP (fun w' v => OwnB 21 1 Cc w.heap.size w' v (FM.dec n)) w) := by
  have HNN := Lib.hid hn
  go_enter Tryd.func35, Tryd.ntmps35
  go_wp2_with fail
  go_loopw [0, 5] (fun x v wr => ∃ (m : Nat) (out : List Int), m ≤ 99 ∧ x = .int .i64 (m : Int) ∧ OwnB 21 1 Cc w.heap.size wr v out ∧ Ext w wr ∧ ((out = [] ∧ m = n) ∨ (out = [48 + ((n % 10 : Nat) : Int)] ∧ m = n / 10) ∨ (out = FM.dec n ∧ m = 0 ∧ out.length = 2))) (fun _ v _ => match v with | .slice _ l _ => 3 - l | _ => 0)
  case atStart => exact ⟨n, [], hn, rfl, OwnB.nil_, Ext.refl w, .inl ⟨rfl, rfl⟩⟩
  case round =>
    obtain ⟨m, out, hm, rfl, hown, hE, hcase⟩ := hrel
    have HO := Lib.hid hown
    have HE := Lib.hid hE
    have HL := Lib.hid hown.lt
    have HCASE := Lib.hid hcase
    obtain ⟨A, c, rfl, -⟩ := hown.form
    have hq := tmod10 m
    have hd := tdiv10 m
    have hws := hE.size
    have hr : m % 10 < 10 := Nat.mod_lt _ (by omega)
    have hol : out.length ≤ 2 := by rcases hcase with ⟨rfl, -⟩ | ⟨rfl, -⟩ | ⟨-, -, hl⟩ <;> simp_all
    generalize hqq : m % 10 = q at hq hr
    generalize hdd : m / 10 = m2 at hd
    have HQ := Lib.hid hqq
    have HD := Lib.hid hdd
    have hm2 : m2 ≤ 99 := by omega
    by_cases hgo : 0 < m ∨ out.length < 1
    · have HGO := Lib.hid hgo
      have hsp : 0 < m ∨ (m = 0 ∧ out.length = 0) := by omega
      clear hown hE hcase hqq hdd hgo
      rcases hsp with hp | ⟨hp, hlt2⟩
      · have hpi : (0 : Int) < (m : Int) := by omega
        go_wp2_with (at_builtin; go_loud (refine app_src rfl _ _ rfl wr.heap.size _ _ (.slice A out.length c) [48 + (q : Int)] out (lit_c wr [48 + (q : Int)] (Nat.le_refl _) (by simp)) rfl rfl ((HO.out.keepB (keepsB_c _) (fun _ _ _ ho => ((Ext.refl wr).alloc _).heap ho)).sl) ?hn ?hB ?_; (case hn => (simp only [List.length_cons, List.length_nil]; omega)); (case hB => simp); intro v' w' h1 h2; have hE2 : Ext w w' := (HE.out.alloc _).grown h2 (fun k hk => (by simp [Value.ownBlock] at hk; omega)); generalize hl : [48 + (q : Int)] ++ out = out2 at h1; have hl2 : out2.length = out.length + 1 := (by rw [← hl, List.length_append]; simp only [List.length_cons, List.length_nil]; omega); have HLL := Lib.hid hl2; clear hl2; have HO2 := Lib.hid (h1.weak hws); have HE2 := Lib.hid hE2; have HL2 := Lib.hid hl; obtain ⟨A2, c2, rfl, -⟩ := h1.form; clear h1 h2 hE2 hl))
        go_roundw
        case rel =>
          refine ⟨m2, out2, hm2, by go_num, HO2.out, HE2.out, ?_⟩
          rw [← HL2.out, ← HQ.out, ← HD.out]
          rcases HCASE.out with ⟨h1, h2⟩ | ⟨h1, h2⟩ | ⟨h1, h2, h3⟩
          · right; left; rw [h1, h2]; exact ⟨rfl, rfl⟩
          · have h9 := HGO.out
            rw [h1] at h9
            simp at h9
            right; right
            rw [h1, h2, dec_two (by omega)]
            exact ⟨by have := HNN.out; simp; omega, by have := HNN.out; omega, rfl⟩
          · have h9 := HGO.out
            omega
        case measure => have := HLL.out; simp; omega
      · have hlt : (out.length : Int) < 1 := by omega
        obtain rfl : m = 0 := hp
        obtain rfl : q = 0 := by rw [← HQ.out]
        obtain rfl : m2 = 0 := by rw [← HD.out]
        go_wp2_with (at_builtin; go_loud (refine app_src rfl _ _ rfl wr.heap.size _ _ (.slice A out.length c) [48] out (lit_c wr [48] (Nat.le_refl _) (by simp)) rfl rfl ((HO.out.keepB (keepsB_c _) (fun _ _ _ ho => ((Ext.refl wr).alloc _).heap ho)).sl) ?hn ?hB ?_; (case hn => (simp only [List.length_cons, List.length_nil]; omega)); (case hB => simp); intro v' w' h1 h2; have hE2 : Ext w w' := (HE.out.alloc _).grown h2 (fun k hk => (by simp [Value.ownBlock] at hk; omega)); generalize hl : [48] ++ out = out2 at h1; have hl2 : out2.length = out.length + 1 := (by rw [← hl, List.length_append]; simp only [List.length_cons, List.length_nil]; omega); have HLL := Lib.hid hl2; clear hl2; have HO2 := Lib.hid (h1.weak hws); have HE2 := Lib.hid hE2; have HL2 := Lib.hid hl; obtain ⟨A2, c2, rfl, -⟩ := h1.form; clear h1 h2 hE2 hl))
        go_roundw
        case rel =>
          refine ⟨0, out2, hm2, by go_num, HO2.out, HE2.out, ?_⟩
          rw [← HL2.out]
          rcases HCASE.out with ⟨h1, h2⟩ | ⟨h1, h2⟩ | ⟨h1, h2, h3⟩
          · right; left; rw [h1, ← h2]; exact ⟨rfl, rfl⟩
          · have h9 := HGO.out
            rw [h1] at h9
            simp at h9
          · have h9 := HGO.out
            omega
        case measure => have := HLL.out; simp; omega
    · have hpi : ¬ (0 : Int) < (m : Int) := by omega
      have hlt : ¬ (out.length : Int) < 1 := by omega
      have HM := Lib.hid (show FM.dec n = out by
        rcases HCASE.out with ⟨h1, -⟩ | ⟨h1, h2⟩ | ⟨h1, -, -⟩
        · rw [h1] at hgo; simp at hgo
        · rw [h1, dec_one (by omega)]; congr 2; omega
        · exact h1.symm)
      clear hown hE hcase hgo
      go_wp2_with fail
      go_ret
      exact ⟨_, rfl, by rw [HM.out]; exact HO.out, HE.out⟩
end Go.Proofs.YtfblkahjefdmaaaDoor
