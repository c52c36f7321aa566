/- Walk: repeated of law 9. -/
import Derived.Test.YtfblkahjefdmaaaCdG
import Derived.Test.YtfblkahjefdmaaaCdK
namespace Go.Proofs.Ytfblkahjefdmaaa
open Go.RowKit

theorem PG.rpt_len (r : List Int) : ∀ (n : Nat) (p : List Int), (PG.rpt r n p).length = p.length + n * (r.length + 4)
  | 0, p => by simp [PG.rpt]
  | n + 1, p => by
    rw [PG.rpt, PG.rpt_len r n, Nat.add_mul]
    simp; omega
set_option maxRecDepth 100000 in
set_option maxHeartbeats 2000000 in
theorem repeated9_any (p : List Int) (n : Nat) (s : ByteArray) (v : Value) (w : World) (hv : SlC w v p) (hn : n ≤ 8) (hp : p.length ≤ 100) (hs : s.size ≤ 100) :
    Calls Try.prog 26 #[v, .int .i64 n, .string s] w (RetP (fun w' v' => SlC w' v' (PG.rpt (signs s) n p)) w) := by
  obtain ⟨A, c, rfl, hlc, hcm, -⟩ := id hv
  have HV := Lib.hid hv
  obtain ⟨r, hr⟩ : ∃ r, signs s = r := ⟨_, rfl⟩
  have hrl : r.length ≤ 100 := by rw [← hr, signs_len]; exact hs
  have HPL := Lib.hid (fun w' => plain_any s w' (by omega))
  rw [hr] at HPL ⊢
  obtain ⟨R, hR⟩ : ∃ R, PG.rpt r n p = R := ⟨_, rfl⟩
  have HR := Lib.hid hR
  rw [hR]
  clear hv hr hR
  go_enter Try.func26, Try.ntmps26
  go_upto_region 2 with fail
  go_loopw [0, 7] (fun v0 x wr => ∃ (i : Nat) (q : List Int), i ≤ n ∧ x = .int .i64 (i : Nat) ∧ SlC wr v0 q ∧ PG.rpt r (n - i) q = R ∧ q.length ≤ 100 + i * 200 ∧ Ext w wr) (fun _ x _ => n - (intOf x).toNat)
  case atStart => exact ⟨0, p, Nat.zero_le _, rfl, HV.out, HR.out, by omega, Ext.refl _⟩
  case round =>
    obtain ⟨i, q, hi, rfl, hq, hrp, hql, hx⟩ := hrel
    have HQ := Lib.hid hq
    have HRP := Lib.hid hrp
    have HX := Lib.hid hx
    have hql2 : q.length ≤ 2000 := by omega
    obtain ⟨A0, c0, rfl, -⟩ := id hq
    clear hq hrp hx
    by_cases hlt : i < n
    · have HRP2 := Lib.hid (show PG.rpt r (n - (i + 1)) ([40, 63, 58] ++ q ++ [41] ++ r) = R by rw [← HRP.out, show n - i = (n - (i + 1)) + 1 by omega, PG.rpt])
      go_upto_region 5 with (first
        | (at_builtin; go_loud (refine app_srcC rfl _ _ rfl wr.heap.size _ _ o1 [41] (OwnB.keepT HO1.out (keeps_c []) (fun _ _ _ h => by cases h) (KeepT.of_ext ((Ext.refl _).alloc _))) rfl rfl (SlB.slc (c_lit (B := 0) _ [41] _ _ (by simp) rfl (Nat.zero_le _) (by decide))) ?hn ?hB ?_; (case hn => (simp; omega)); (case hB => exact (HE1.out.alloc _).size); intro v6 w6 h1 h2; obtain ⟨o2, ho2⟩ : ∃ z, o1 ++ [41] = z := ⟨_, rfl⟩; rw [ho2] at h1; have HE2 := Lib.hid ((HE1.out.alloc _).grown h2 (fun k hk => (HO1.out.lt k hk).1)); have hl2 : o2.length ≤ o1.length + 1 := (by rw [← ho2]; simp); have HO2 := Lib.hid h1; have HQ2 := Lib.hid ho2; obtain ⟨A6, c6, rfl, -⟩ := h1.form; clear h1 h2 ho2))
        | (at_builtin; go_loud (refine app_srcC rfl _ _ rfl wr.heap.size _ _ [40, 63, 58] q (lit_c wr [40, 63, 58] (Nat.le_refl _) (by decide)) rfl rfl (HQ.out.ext ((Ext.refl _).alloc _)) ?hn ?hB ?_; (case hn => (simp; omega)); (case hB => simp); intro v5 w5 h1 h2; obtain ⟨o1, ho1⟩ : ∃ z, [40, 63, 58] ++ q = z := ⟨_, rfl⟩; rw [ho1] at h1; have HE1 := Lib.hid (((Ext.refl wr).alloc _).grown h2 (fun k hk => (OwnB.lt (lit_c wr [40, 63, 58] (Nat.le_refl _) (by decide)) k hk).1)); have hl1 : o1.length ≤ q.length + 3 := (by rw [← ho1]; simp); have HO1 := Lib.hid h1; have HQ1 := Lib.hid ho1; obtain ⟨A5, c5, rfl, -⟩ := h1.form; clear h1 h2 ho1)))
      go_wp2_with (first
        | (go_at_call 27; go_loud (refine (HPL.out _).mono ?_; rintro e w7 ⟨v7, rfl, hv7, hE7⟩; have HE7 := Lib.hid hE7; have HV7 := Lib.hid (SlB.slc hv7.sl); obtain ⟨A7, c7, rfl, -⟩ := hv7.form; clear hv7 hE7))
        | (at_builtin; go_loud (refine app_srcC rfl _ _ rfl wr.heap.size _ _ o2 r (OwnB.keepT HO2.out (keeps_c []) (fun _ _ _ h => by cases h) (KeepT.of_ext HE7.out)) rfl rfl HV7.out ?hn ?hB ?_; (case hn => omega); (case hB => exact (HE2.out.trans HE7.out).size); intro v8 w8 h1 h2; have HE8 := Lib.hid ((HE2.out.trans HE7.out).grown h2 (fun k hk => (HO2.out.lt k hk).1)); have HO8 := Lib.hid h1; clear h1 h2)))
      go_roundw
      case rel =>
        have ho : o2 ++ r = [40, 63, 58] ++ q ++ [41] ++ r := by rw [← HQ2.out, ← HQ1.out]
        exact ⟨i + 1, o2 ++ r, by omega, by go_num, SlB.slc HO8.out.sl, by rw [ho]; exact HRP2.out, by rw [List.length_append]; omega, HX.out.trans HE8.out⟩
      case measure => simp [intOf]; omega
    · obtain rfl : i = n := by omega
      have HN := Lib.hid (show q = R by rw [← HRP.out, Nat.sub_self]; rfl)
      go_wp2_with fail
      go_ret
      exact ⟨_, rfl, by rw [← HN.out]; exact HQ.out, HX.out⟩
end Go.Proofs.Ytfblkahjefdmaaa
