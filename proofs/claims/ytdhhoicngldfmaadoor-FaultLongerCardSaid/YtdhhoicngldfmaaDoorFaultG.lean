/- Walks: Trip, Asks, Depth, known. -/
import Derived.Test.YtdhhoicngldfmaaDoorFaultF
namespace Go.Proofs.YtdhhoicngldfmaaDoor
open Go.RowKit

/-- The first result is this number, the second a list of the call's own. -/
def Tripped (w : World) (c : Int) (l : List Int) (e : Ending) (w' : World) : Prop :=
  ∃ v, e = .returned (.tuple #[.int .i64 c, v]) ∧ OwnI w' (w.heap.size + 1) 3 v l ∧ Ext w w'

theorem OwnI.weaken {w : World} {B B' e : Nat} {v : Value} {xs : List Int} (h : OwnI w B e v xs) (hB : B' ≤ B) : OwnI w B' e v xs := by
  refine ⟨h.1, ?_⟩
  rcases h.2 with hn | ⟨g, cap, cur, hv, hb, rest⟩
  · exact .inl hn
  · exact .inr ⟨g, cap, cur, hv, by omega, rest⟩

set_option maxHeartbeats 400000 in
theorem trip_some (c : Int) (va : Value) (xs : List Int) (w : World) (hL : Laid w) (hx : SlI w va xs) (hc0 : (c == 0) = false) (hn : xs.length ≤ 1000) :
    Calls Tryd.prog 7 #[.int .i64 c, va] w (Tripped w c xs.reverse) := by
  have HL := Lib.hid hL
  have H1 := Lib.hid (make_some c va xs w hx hc0)
  obtain ⟨A, ca, rfl, hlx, hcx, _⟩ := hx
  clear hL hc0
  go_enter Tryd.func7, Tryd.ntmps7
  go_wp2_with fail
  refine H1.out.mono ?_
  rintro e w1 ⟨v, rfl, hch, hE⟩
  have HCH := Lib.hid hch
  obtain ⟨t0, b0, rfl⟩ := hch.iface
  clear hch H1
  go_wp2_with fail
  refine (code_any c _ _ _ (HL.out.ext hE) HCH.out).mono ?_
  rintro e w2 ⟨rfl, hE2⟩
  go_wp2_with fail
  refine (marks_any c _ _ _ ((HL.out.ext hE).ext hE2) (Chain.ext hE2 _ _ HCH.out) (by simp; omega)).mono ?_
  rintro e w3 ⟨v, rfl, hown, hE3⟩
  go_wp2_with fail
  go_ret2
  exact ⟨_, rfl, hown.weaken (by have := (hE.trans hE2).size; omega), (hE.trans hE2).trans hE3⟩

set_option maxHeartbeats 400000 in
theorem trip_ok (va : Value) (w : World) :
    Calls Tryd.prog 7 #[.int .i64 0, va] w (Tripped w 0 []) := by
  go_enter Tryd.func7, Tryd.ntmps7
  go_wp2_with fail
  refine (make_ok _ _).mono ?_
  rintro e w1 ⟨rfl, hE⟩
  go_wp2_with fail
  refine (code_nil _).mono ?_
  rintro e w2 ⟨rfl, hE2⟩
  go_wp2_with fail
  go_enter Tryd.func15, Tryd.ntmps15
  go_wp2_with fail
  go_loopg [0, 3] 0 (fun k e v wr => e = .nilIface ∧ v = .slice none 0 0 ∧ Ext w wr)
  case atStart => exact ⟨rfl, rfl, (hE.trans hE2).alloc _⟩
  case round =>
    obtain ⟨rfl, rfl, hE3⟩ := hrel
    go_wp2_with fail
    refine (as_nil _ _ _).mono ?_
    rintro e w3 ⟨rfl, hE4⟩
    go_wp2_with fail
    go_ret2
    exact ⟨_, rfl, World.ownsRow_nil _ _ _ _, hE3.trans hE4⟩

set_option maxHeartbeats 1000000 in
/-- Asks of an error that is none. -/
theorem asks_ok (d : Int) (va : Value) (w : World) (hd : d = 0 ∨ (d == 0) = false) :
    Calls Tryd.prog 8 #[.int .i64 0, .int .i64 d, va] w (Ret (.bool false) w) := by
  rcases hd with rfl | hd
  · go_enter Tryd.func8, Tryd.ntmps8
    go_wp2_with fail
    refine (make_ok _ _).mono ?_
    rintro e w1 ⟨rfl, hE⟩
    go_wp2_with fail
    refine (make_ok _ _).mono ?_
    rintro e w2 ⟨rfl, hE2⟩
    go_wp2_with fail
    go_ret
    exact ⟨rfl, hE.trans hE2⟩
  · have HD := Lib.hid hd
    clear hd
    go_enter Tryd.func8, Tryd.ntmps8
    go_wp2_with fail
    refine (make_ok _ _).mono ?_
    rintro e w1 ⟨rfl, hE⟩
    go_wp2_with fail
    refine (make_some d _ [] _ SlR.nil_ HD.out).mono ?_
    rintro e w2 ⟨v, rfl, hch, hE2⟩
    obtain ⟨b, rfl, _⟩ := hch
    go_wp2_with fail
    go_ret
    exact ⟨rfl, hE.trans hE2⟩

set_option maxHeartbeats 400000 in
theorem make_new (c : Int) (w : World) (hc0 : (c == 0) = false) :
    Calls Tryd.prog 13 #[.int .i64 c, .slice none 0 0] w (RetP (fun w' v => ∃ b, w.heap.size ≤ b ∧ v = .iface 40 (.pointer (some ⟨b, 0, none⟩)) ∧ w'.heap[b]? = some (.cells #[.int .i64 c] 42 (0, 0))) w) := by
  go_enter Tryd.func13, Tryd.ntmps13
  go_wp2_with fail
  go_loopg [5, 16] 0 (fun _ v i wr => i = .int .i64 0 ∧ v = .iface 40 (.pointer (some ⟨w.heap.size, 0, none⟩)) ∧ wr = w.alloc (.cells #[.int .i64 c] 42))
  case atStart => exact ⟨rfl, rfl, rfl⟩
  case round =>
    obtain ⟨rfl, rfl, rfl⟩ := hrel
    go_wp2_with fail
    go_ret
    exact ⟨_, rfl, ⟨_, Nat.le_refl _, rfl, heap_alloc_new w _⟩, (Ext.refl w).alloc _⟩

set_option maxHeartbeats 1000000 in
theorem asks_some (c d : Int) (va : Value) (xs : List Int) (w : World) (hx : SlI w va xs) (hc0 : (c == 0) = false) :
    Calls Tryd.prog 8 #[.int .i64 c, .int .i64 d, va] w (Ret (.bool (c == d)) w) := by
  have H1 := Lib.hid (make_some c va xs w hx hc0)
  obtain ⟨A, ca, rfl, hlx, hcx, _⟩ := hx
  have HC := Lib.hid hc0
  clear hc0
  go_enter Tryd.func8, Tryd.ntmps8
  go_wp2_with fail
  refine H1.out.mono ?_
  rintro e w1 ⟨v, rfl, hch, hE⟩
  have HCH := Lib.hid hch
  obtain ⟨t0, b0, rfl⟩ := hch.iface
  clear hch H1
  by_cases hd : d = 0
  · subst hd
    go_wp2_with fail
    refine (make_ok _ _).mono ?_
    rintro e w2 ⟨rfl, hE2⟩
    go_wp2_with fail
    go_ret
    exact ⟨by rw [HC.out]; rfl, hE.trans hE2⟩
  · have HD := Lib.hid (show (d == 0) = false by simpa using hd)
    clear hd
    go_wp2_with fail
    refine (make_new d _ HD.out).mono ?_
    rintro e w2 ⟨v, rfl, ⟨b, hbl, rfl, hb⟩, hE2⟩
    have H2 := Lib.hid (isTop_any c d _ _ b w1 w2 HCH.out hE2 hbl hb)
    clear hb hbl
    go_wp2_with fail
    refine H2.out.mono ?_
    rintro e w3 ⟨rfl, hE3⟩
    go_wp2_with fail
    go_ret
    exact ⟨by rw [show (c == d) = (d == c) from Bool.beq_comm]; rfl, (hE.trans hE2).trans hE3⟩

theorem lit_sl (w : World) (xs : List Int) (t : TypeId) (hn : xs.length ≤ 1000) : SlI (w.alloc (.cells (xs.map (Value.int .i64)).toArray t)) (.slice (some ⟨w.heap.size, 0, none⟩) xs.length xs.length) xs := by
  refine ⟨_, _, rfl, Nat.le_refl _, by omega, fun k x hx => ⟨_, _, rfl, ?_⟩, by intro h; cases h⟩
  unfold AtI64
  rw [show 0 + k * 1 = k from by omega, World.cell?_alloc_new]
  simp [hx]

/-- Depth of Make: how many wraps. -/
def DepthOf (w : World) (n : Nat) (e : Ending) (w' : World) : Prop := e = .returned (.int .i64 n) ∧ Ext w w'

set_option maxHeartbeats 1000000 in
theorem depth_some (c : Int) (va : Value) (xs : List Int) (w : World) (hx : SlI w va xs) (hc0 : (c == 0) = false) :
    Calls Tryd.prog 9 #[.int .i64 c, va] w (Ret (.int .i64 xs.length) w) := by
  have H1 := Lib.hid (make_some c va xs w hx hc0)
  obtain ⟨A, ca, rfl, hlx, hcx, _⟩ := hx
  clear hc0
  go_enter Tryd.func9, Tryd.ntmps9
  go_wp2_with fail
  refine H1.out.mono ?_
  rintro e w1 ⟨v, rfl, hch, hE⟩
  clear H1
  have hfirst : ∃ e2, Calls Tryd.prog 17 #[v] w1 (Ret e2 w1) ∧ ((xs.reverse = [] ∧ e2 = .nilIface) ∨ ∃ m r, xs.reverse = m :: r ∧ Chain w1 e2 c r) := by
    cases hxs : xs.reverse with
    | nil => rw [hxs] at hch; obtain ⟨b, rfl, hb⟩ := hch; exact ⟨_, unwrap_fail b w1, .inl ⟨rfl, rfl⟩⟩
    | cons m r => rw [hxs] at hch; obtain ⟨b, e', rfl, hb, hch'⟩ := hch; obtain ⟨t', b', he⟩ := hch'.iface; exact ⟨_, unwrap_wrap b m e' w1 hb t' _ he, .inr ⟨m, r, rfl, hch'⟩⟩
  obtain ⟨t0, b0, rfl⟩ := hch.iface
  obtain ⟨e2, hU, h2⟩ := hfirst
  have HU := Lib.hid hU
  have H2 := Lib.hid h2
  clear hU h2 hch
  go_wp2_with fail
  refine HU.out.mono ?_
  rintro e w2 ⟨rfl, hE2⟩
  clear HU
  go_wp2_with fail
  go_loopg [5, 6] xs.length (fun k n e wr => Ext w1 wr ∧ ∃ j : Nat, j + k = xs.length ∧ n = .int .i64 j ∧ ((k = 0 ∧ e = .nilIface) ∨ ∃ r, r.length + 1 = k ∧ Chain w1 e c r))
  case atStart =>
    refine ⟨hE2, 0, by omega, rfl, ?_⟩
    rcases H2.out with ⟨h, rfl⟩ | ⟨m, r, h, hc⟩
    · exact .inl ⟨by have := congrArg List.length h; simpa using this, rfl⟩
    · exact .inr ⟨r, by have := congrArg List.length h; simp at this; omega, hc⟩
  case round =>
    obtain ⟨hE3, j, hj, rfl, hk⟩ := hrel
    rcases hk with ⟨rfl, rfl⟩ | ⟨r, hr, hch⟩
    · have ej : j = xs.length := by omega
      have HJ := Lib.hid ej
      clear ej hj
      go_wp2_with fail
      go_ret
      exact ⟨by rw [← HJ.out]; rfl, hE.trans hE3⟩
    · have hU : ∃ e2, Calls Tryd.prog 17 #[u6] wr (Ret e2 wr) ∧ ((r = [] ∧ e2 = .nilIface) ∨ ∃ m r', r = m :: r' ∧ Chain w1 e2 c r') := by
        cases r with
        | nil => obtain ⟨b, rfl, hb⟩ := hch; exact ⟨_, unwrap_fail b wr, .inl ⟨rfl, rfl⟩⟩
        | cons m r => obtain ⟨b, e', rfl, hb, hch'⟩ := hch; obtain ⟨t', b', he⟩ := hch'.iface; exact ⟨_, unwrap_wrap b m e' wr (hE3.heap hb) t' _ he, .inr ⟨m, r, rfl, hch'⟩⟩
      obtain ⟨t1, b1, rfl⟩ := hch.iface
      obtain ⟨e2, hU, h2⟩ := hU
      have HU := Lib.hid hU
      have H2 := Lib.hid h2
      have HR := Lib.hid hr
      have hjb : j + 1 ≤ xs.length := by omega
      have HJ := Lib.hid hj
      clear hU h2 hch hr hj
      go_wp2_with fail
      refine HU.out.mono ?_
      rintro e w3 ⟨rfl, hE4⟩
      clear HU
      go_wp2_with fail
      go_roundg r.length
      case measure => have := HR.out; omega
      case rel =>
        refine ⟨hE3.trans hE4, j + 1, by have := HJ.out; have := HR.out; omega, by go_num, ?_⟩
        rcases H2.out with ⟨h, rfl⟩ | ⟨m, r', h, hc⟩
        · exact .inl ⟨by rw [h]; rfl, rfl⟩
        · exact .inr ⟨r', by rw [h]; rfl, hc⟩

set_option maxHeartbeats 1000000 in
theorem depth_ok (va : Value) (w : World) :
    Calls Tryd.prog 9 #[.int .i64 0, va] w (Ret (.int .i64 0) w) := by
  go_enter Tryd.func9, Tryd.ntmps9
  go_wp2_with fail
  refine (make_ok _ _).mono ?_
  rintro e w1 ⟨rfl, hE⟩
  have hu : ∀ W, Calls Tryd.prog 17 #[.nilIface] W (Ret .nilIface W) := by
    intro W
    have ta : (Instr.typeAssert .nilIface 34 53 true).run Tryd.prog W = .ok (.tuple #[.nilIface, .bool false]) W := by kernel_rfl
    go_enter Tryd.func17, Tryd.ntmps17
    go_wp2_with fail
    go_ret
    exact ⟨rfl, Ext.refl _⟩
  have HU := Lib.hid hu
  clear hu
  go_wp2_with fail
  refine (HU.out _).mono ?_
  rintro e w2 ⟨rfl, hE2⟩
  go_wp2_with fail
  go_loopg [5, 6] 0 (fun k n e wr => wr = w2 ∧ n = .int .i64 0 ∧ e = .nilIface)
  case atStart => exact ⟨rfl, rfl, rfl⟩
  case round =>
    obtain ⟨rfl, rfl, rfl⟩ := hrel
    go_wp2_with fail
    go_ret
    exact ⟨rfl, hE.trans hE2⟩
end Go.Proofs.YtdhhoicngldfmaaDoor
