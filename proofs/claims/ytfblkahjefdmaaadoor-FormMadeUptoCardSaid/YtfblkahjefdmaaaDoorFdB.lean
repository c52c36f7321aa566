/- Walks: numerals of one or two digits; number of package format. -/
import Derived.Test.YtfblkahjefdmaaaDoorFdA
import Derived.Laws.IdiomStrings
import Derived.Laws.Cover4
import Derived.IntWalk
import Derived.Outline
namespace Go.Proofs.YtfblkahjefdmaaaDoor
open Go.RowKit

/-- The call returned two values, and left what was there as it was. -/
def Ret2 (u v : Value) (w : World) (e : Ending) (w' : World) : Prop := e = .returned (.tuple #[u, v]) ∧ Ext w w'
def valB (bs : ByteArray) : Int := FM.val (signs bs)
theorem val_snoc (l : List Int) (c : Int) : FM.val (l ++ [c]) = 10 * FM.val l + (c - 48) := by simp [FM.val, List.foldl_append]
theorem val_range : ∀ l : List Int, l.length ≤ 2 → (∀ c ∈ l, 48 ≤ c ∧ c ≤ 57) → 0 ≤ FM.val l ∧ FM.val l ≤ 99
  | [], _, _ => by simp [FM.val]
  | [a], _, h => by have := h a (by simp); simp [FM.val]; omega
  | [a, b], _, h => by have := h a (by simp); have := h b (by simp); simp [FM.val]; omega
  | _ :: _ :: _ :: _, h, _ => by simp at h
theorem sub_u8 (x : UInt8) (h : 48 ≤ x.toNat) : IntKind.u8.wrap ((x.toNat : Int) - 48) = (x.toNat : Int) - 48 := by
  have := UInt8.toNat_lt x
  exact IntWalk.u8_in _ (by omega)

set_option maxRecDepth 100000 in
set_option maxHeartbeats 1000000 in
theorem iatoi_any (bs : ByteArray) (h1 : 1 ≤ bs.size) (h2 : bs.size ≤ 2) (hd : ∀ k (hk : k < bs.size), 48 ≤ bs[k].toNat ∧ bs[k].toNat ≤ 57) (w : World) :
    Calls Tryd.prog 64 #[.string bs] w (Ret2 (.int .i64 (valB bs)) .nilIface w) := by
  have HD := Lib.hid hd
  obtain ⟨x0, hx0⟩ : ∃ x, bs[0] = x := ⟨_, rfl⟩
  have hd0 := hd 0 (by omega)
  rw [hx0] at hd0
  have n45 : ((x0.toNat : Int) == 45) = false := by simp; omega
  have n43 : ((x0.toNat : Int) == 43) = false := by simp; omega
  have l1 : decide ((0 : Int) < bs.size) = true := by simp; omega
  have l2 : decide ((bs.size : Int) < 10) = true := by simp; omega
  have l3 : decide ((bs.size : Int) < 19) = true := by simp; omega
  have l4 : decide ((bs.size : Int) < 1) = false := by simp; omega
  clear hd hd0
  have kc := run_bytes_of_string (P := Tryd.prog) w 9 97 5 bs Tryd.underlying9 Tryd.underlying97 Tryd.underlying5
  have hcap := grownCap_ge w bs.size 0 5
  have hcm := grownCap_le_maxLen w bs.size 0 5 (by unfold maxLen; omega)
  unfold maxLen at hcm
  generalize grownCap w bs.size 0 5 = cap at kc hcap hcm
  obtain ⟨W1, hW1⟩ : ∃ W1, w.drew.alloc (.cells (bytesRow bs cap) 5 ((bytesRow bs cap).size, (bytesRow bs cap).size + 1)) = W1 := ⟨_, rfl⟩
  rw [hW1] at kc
  have HE := Lib.hid (show Ext w W1 by rw [← hW1]; exact ((Ext.refl w).drew).alloc _)
  have HCELL := Lib.hid (show ∀ k (hk : k < bs.size), W1.cell? ⟨w.heap.size, k, none⟩ = some (.int .u8 (bs[k].toNat : Int)) by
    intro k hk
    rw [← hW1]
    have h2 := bytesRow_at bs cap k hk
    have e : bs[k] = bs.data[k]'hk := rfl
    rw [e, ← h2]
    exact cell_of_row (w.drew.alloc _) w.heap.size k _ _ _ (heap_alloc_new w.drew _))
  have hbl : bs.size ≤ 9223372036854775807 := by omega
  clear hW1
  go_enter Tryd.func64, Tryd.ntmps64
  go_wp2_with fail
  go_loop [6, 49] (fun n i => ∃ k : Nat, k ≤ bs.size ∧ i = .int .i64 k ∧ n = .int .i64 (FM.val ((signs bs).take k))) (fun _ i => bs.size - (intOf i).toNat)
  case atStart => exact ⟨0, Nat.zero_le _, rfl, rfl⟩
  case round =>
    obtain ⟨k, hk, rfl, rfl⟩ := hrel
    have hvr := val_range ((signs bs).take k) (by rw [List.length_take]; omega) (by
      intro c hc
      obtain ⟨j, hj, rfl⟩ := List.mem_iff_getElem.1 (List.mem_of_mem_take hc)
      rw [signs_len] at hj
      have h := HD.out j hj
      have e : bs[j] = bs.data[j]'hj := rfl
      rw [e] at h
      simp [signs]
      omega)
    by_cases hlt : k < bs.size
    · have hc := HCELL.out k hlt
      have hdk := HD.out k hlt
      have hv2 := val_snoc ((signs bs).take k) (bs[k].toNat : Int)
      rw [← signs_take hlt] at hv2
      have hu := sub_u8 bs[k] hdk.1
      generalize bs[k] = x at hc hdk hv2 hu
      obtain ⟨V2, hV2⟩ : ∃ V, V = FM.val ((signs bs).take (k + 1)) := ⟨_, rfl⟩
      rw [← hV2] at hv2
      have HV2 := Lib.hid hV2
      have HVN := Lib.hid hv2
      obtain ⟨hd1, hd2⟩ := hdk
      obtain ⟨hv0, hv9⟩ := hvr
      generalize FM.val ((signs bs).take k) = V at hv0 hv9 HVN ⊢
      clear hV2 hv2
      go_wp2_with fail
      go_round
      case rel => exact ⟨k + 1, by omega, by go_num, by rw [← HV2.out, HVN.out]; congr 1; omega⟩
      case measure => simp [intOf]; omega
    · have HT := Lib.hid (show FM.val ((signs bs).take k) = valB bs by rw [show k = bs.size by omega, ← signs_len, List.take_length]; rfl)
      go_wp2_with fail
      go_ret2
      exact ⟨by rw [← HT.out]; rfl, HE.out⟩

set_option maxHeartbeats 1000000 in
theorem atoi_any (bs : ByteArray) (h1 : 1 ≤ bs.size) (h2 : bs.size ≤ 2) (hd : ∀ k (hk : k < bs.size), 48 ≤ bs[k].toNat ∧ bs[k].toNat ≤ 57) (w : World) :
    Calls Tryd.prog 59 #[.string bs] w (Ret2 (.int .i64 (valB bs)) .nilIface w) := by
  have HI := Lib.hid (iatoi_any bs h1 h2 hd w)
  clear hd
  go_enter Tryd.func59, Tryd.ntmps59
  go_wp2_with fail
  refine HI.out.mono ?_
  rintro e w' ⟨rfl, hE⟩
  go_wp2_with fail
  go_ret2
  exact ⟨rfl, hE⟩

theorem encode_ascii {c : Int} (h0 : 0 ≤ c) (h1 : c < 128) : Utf8.encode c = ⟨#[UInt8.ofNat c.toNat]⟩ := by
  have hv : Utf8.valid c = true := by simp [Utf8.valid]; omega
  unfold Utf8.encode
  simp only [hv, if_true]
  rw [if_pos (by omega)]
theorem signs_append (a b : ByteArray) : signs (a ++ b) = signs a ++ signs b := by simp [signs, ByteArray.data_append]
theorem runes_fold : ∀ (zs : List Int) (r : ByteArray), (∀ c ∈ zs, 0 ≤ c ∧ c < 128) → signs (zs.foldl (fun r n => r ++ Utf8.encode n) r) = signs r ++ zs
  | [], r, _ => by simp
  | c :: zs, r, h => by
    have hc := h c (by simp)
    rw [List.foldl_cons, runes_fold zs _ (fun x hx => h x (by simp [hx])), signs_append, encode_ascii hc.1 hc.2, List.append_assoc]
    congr 1
    have : (UInt8.ofNat c.toNat).toNat = c.toNat := by simp [UInt8.toNat_ofNat']; omega
    simp [signs]
    omega
theorem runes_signs {zs : List Int} (h : ∀ c ∈ zs, 0 ≤ c ∧ c < 128) : signs (runesBytes zs) = zs := by
  unfold runesBytes
  rw [runes_fold zs _ h]; rfl
theorem digs_get : ∀ (l : List Int) (j : Nat) (h : j < FM.digs l), FM.isD (l[j]'(Nat.lt_of_lt_of_le h (FM.digs_le l))) = true
  | [], j, h => by simp [FM.digs] at h
  | c :: r, j, h => by
    unfold FM.digs at h
    split at h
    · rename_i hc
      cases j with
      | zero => exact hc
      | succ j => exact digs_get r j (by omega)
    · omega

/-- A number, or none. -/
def NumP (R : Option (Int × Nat)) (i : Nat) (w : World) (e : Ending) (w' : World) : Prop :=
  Ext w w' ∧ ((∃ n k, R = some (n, k) ∧ e = .returned (.tuple #[.int .i64 n, .int .i64 ((i + k : Nat) : Int), .bool true])) ∨ (R = none ∧ e = .returned (.tuple #[.int .i64 0, .int .i64 0, .bool false])))
set_option maxRecDepth 100000 in
set_option maxHeartbeats 2000000 in
theorem number_any (s : List Int) (vs : Value) (i : Nat) (w : World) (hs : SlC w vs s) (hi : i ≤ s.length) :
    Calls Tryd.prog 53 #[vs, .int .i64 (i : Int)] w (NumP (FM.number (s.drop i)) i w) := by
  have H := Lib.hid hs
  obtain ⟨A, ca, rfl, hlx, hcx, -⟩ := hs
  obtain ⟨R, hR⟩ : ∃ R, FM.number (s.drop i) = R := ⟨_, rfl⟩
  rw [hR]
  have HR := Lib.hid hR
  clear hR
  obtain ⟨D, hD⟩ : ∃ D, FM.digs (s.drop i) = D := ⟨_, rfl⟩
  have hDl : i + D ≤ s.length := by
    have := FM.digs_le (s.drop i)
    rw [hD, List.length_drop] at this; omega
  have HD := Lib.hid hD
  have hgt : ∀ k (h : k < D), 48 ≤ s[i + k]'(by omega) ∧ s[i + k]'(by omega) ≤ 57 := by
    intro k h
    have := digs_get (s.drop i) k (by omega)
    simpa [FM.isD] using this
  have hstop : ∀ (h : i + D < s.length), ¬ (48 ≤ s[i + D] ∧ s[i + D] ≤ 57) := by
    intro h hx
    have : ∀ l : List Int, ∀ hk : FM.digs l < l.length, FM.isD l[FM.digs l] = false := by
      intro l
      induction l with
      | nil => intro hk; simp at hk
      | cons c r ih =>
        intro hk
        by_cases hc : FM.isD c = true
        · have e : FM.digs (c :: r) = FM.digs r + 1 := by simp [FM.digs, hc]
          simp only [e]
          exact ih (by rw [e] at hk; simpa using hk)
        · have e : FM.digs (c :: r) = 0 := by simp [FM.digs, hc]
          simp only [e]
          simpa using hc
    have h2 := this (s.drop i) (by rw [hD, List.length_drop]; omega)
    have h3 : (s.drop i)[FM.digs (s.drop i)]'(by rw [hD, List.length_drop]; omega) = s[i + D] := by simp [hD]
    rw [h3] at h2
    simp [FM.isD] at h2
    have := h2 hx.1
    omega
  have HG := Lib.hid hgt
  have HS := Lib.hid hstop
  clear hD hgt hstop
  go_enter Tryd.func53, Tryd.ntmps53
  go_upto_block 0 with fail
  go_cut [5] (fun s5 wx => s5 = .int .i64 ((i + D : Nat) : Int) ∧ wx = w)
  case first =>
    go_wp2_with fail
    go_loop [5] (fun x => ∃ k : Nat, k ≤ D ∧ x = .int .i64 ((i + k : Nat) : Int)) (fun x => s.length - (intOf x).toNat)
    case atStart => exact ⟨0, Nat.zero_le _, rfl⟩
    case round =>
      obtain ⟨k, hk, rfl⟩ := hrel
      by_cases hlt : i + k < s.length
      · obtain ⟨b, o, rfl, hc⟩ := H.out.at_ hlt
        have hlt2 : (i : Int) + (k : Int) < s.length := by omega
        have hnn : ((i + k : Nat) : Int) = (i : Int) + (k : Int) := by omega
        by_cases hkd : k < D
        · have hg := HG.out k hkd
          generalize s[i + k] = x at hc hg
          obtain ⟨hg1, hg2⟩ := hg
          clear hnn
          go_wp2_with fail
          go_round
          case rel => exact ⟨k + 1, by omega, by go_num⟩
          case measure => simp [intOf]; omega
        · obtain rfl : k = D := by omega
          have hst := HS.out hlt
          generalize s[i + k] = x at hc hst
          by_cases h48 : 48 ≤ x
          · have h57 : ¬ x ≤ 57 := fun h => hst ⟨h48, h⟩
            clear hst hnn
            go_wp2_with fail
            go_meet
            exact ⟨rfl, rfl⟩
          · clear hst hnn
            go_wp2_with fail
            go_meet
            exact ⟨rfl, rfl⟩
      · obtain rfl : k = D := by omega
        have hlt2 : ¬ (i : Int) + (k : Int) < s.length := by omega
        go_wp2_with fail
        go_meet
        exact ⟨rfl, rfl⟩
  case rest =>
    obtain ⟨rfl, hw⟩ := hcut
    subst hw
    by_cases h0 : D = 0
    · have HN := Lib.hid (show R = none by rw [← HR.out]; unfold FM.number; rw [HD.out, if_pos (.inl h0)])
      have e1 : (((i + D : Nat) : Int) == (i : Int)) = true := by simp [h0]
      have e2 : ((i : Int) + (D : Int) == (i : Int)) = true := by simp [h0]
      clear h0
      go_wp2_with fail
      go_ret3
      exact ⟨Ext.refl _, .inr ⟨HN.out, rfl⟩⟩
    · have e1 : (((i + D : Nat) : Int) == (i : Int)) = false := by simp; omega
      have e2 : ((i : Int) + (D : Int) == (i : Int)) = false := by simp; omega
      by_cases h2 : 2 < D
      · have HN := Lib.hid (show R = none by rw [← HR.out]; unfold FM.number; rw [HD.out, if_pos (.inr h2)])
        have e3 : decide ((2 : Int) < (i : Int) + (D : Int) - (i : Int)) = true := by simp; omega
        have e4 : decide ((2 : Int) < (D : Int)) = true := by simp; omega
        clear h0 h2
        go_wp2_with fail
        go_ret3
        exact ⟨Ext.refl _, .inr ⟨HN.out, rfl⟩⟩
      · have e3 : decide ((2 : Int) < (i : Int) + (D : Int) - (i : Int)) = false := by simp; omega
        have e4 : decide ((2 : Int) < (D : Int)) = false := by simp; omega
        have hil : i < s.length := by omega
        obtain ⟨b, o, rfl, -⟩ := H.out.at_ hil
        obtain ⟨zs, hzs⟩ : ∃ zs, (s.drop i).take D = zs := ⟨_, rfl⟩
        have hzl : zs.length = D := by rw [← hzs, List.length_take, List.length_drop]; omega
        have hzd : ∀ c ∈ zs, 48 ≤ c ∧ c ≤ 57 := by
          intro c hc
          rw [← hzs] at hc
          obtain ⟨j, hj, rfl⟩ := List.mem_take_iff_getElem.1 hc
          have := HG.out j (by omega)
          simpa using this
        have HN := Lib.hid (show R = some (FM.val zs, D) by rw [← HR.out]; unfold FM.number; rw [HD.out, if_neg (by omega), hzs])
        have hsg := runes_signs (zs := zs) (fun c hc => by have := hzd c hc; omega)
        have hsz : (runesBytes zs).size = D := by rw [← signs_len, hsg, hzl]
        have hcz := run_convert_runes (P := Tryd.prog) wc 22 9 21 ⟨b, o + i, none⟩ D (ca - i) zs (by omega) Tryd.underlying22 Tryd.underlying21 Tryd.underlying9 (by
          intro j hj
          have hj2 : i + j < s.length := by omega
          obtain ⟨b', o', hb', hc'⟩ := H.out.at_ hj2
          injection hb' with hb'
          injection hb' with hb1 hb2
          subst hb1 hb2
          have ha : (⟨b, o + i, none⟩ : Addr).add j = ⟨b, o + (i + j), none⟩ := by
            unfold Addr.add; split
            · rename_i h; subst h; rfl
            · simp; omega
          rw [ha, hc']
          have : zs.getD j 0 = s[i + j] := by
            rw [← hzs, List.getD_eq_getElem?_getD, List.getElem?_take, if_pos (by omega), List.getElem?_drop, List.getElem?_eq_getElem hj2]; rfl
          rw [this])
        rw [List.take_of_length_le (by omega)] at hcz
        have HAT := Lib.hid (atoi_any (runesBytes zs) (by omega) (by omega) (fun k hk => by
          have hk2 : k < (signs (runesBytes zs)).length := by rw [signs_len]; exact hk
          have h1 : (signs (runesBytes zs))[k] = (((runesBytes zs)[k]).toNat : Int) := by simp [signs]; rfl
          have h2 := (show ∀ c ∈ signs (runesBytes zs), 48 ≤ c ∧ c ≤ 57 by rw [hsg]; exact hzd) _ (List.getElem_mem hk2)
          rw [h1] at h2; omega) wc)
        have hvv : valB (runesBytes zs) = FM.val zs := by unfold valB; rw [hsg]
        rw [hvv] at HAT
        obtain ⟨i0, hi0, hz0, hz1, hz2⟩ := info_parts info_c
        have hsl := run_sl_both (P := Tryd.prog) Tryd.underlying22 hi0 (some ⟨b, o, none⟩) (n := s.length) (c := ca) (k := i) (m := i + D) (Nat.le_add_right i D) (by omega) wc
        have hcut : cutA (some ⟨b, o, none⟩) ca i 1 = some ⟨b, o + i, none⟩ := by
          unfold cutA
          rw [if_neg (by omega)]
          simp [Addr.add]
        rw [hz1, hcut, Nat.add_sub_cancel_left] at hsl
        simp only [Int.natCast_add] at hsl
        generalize hbs : runesBytes zs = bs at hcz HAT
        clear hbs hsz hsg hvv hcut h0 h2 hzd hzs
        go_wp2_with (go_at_call 59; refine HAT.out.mono ?_; rintro e w' ⟨rfl, hE⟩)
        go_ret3
        exact ⟨hE, .inl ⟨_, _, HN.out, rfl⟩⟩
end Go.Proofs.YtfblkahjefdmaaaDoor
