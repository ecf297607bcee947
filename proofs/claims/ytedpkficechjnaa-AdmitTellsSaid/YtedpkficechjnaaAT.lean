/- The small functions of both: within, Check, Twins, twin, Newest, full. -/
import Derived.Test.YtedpkficechjnaaAS
namespace Go.Proofs.Ytedpkficechjnaa.AT
open Go.RowKit
open Go.Proofs.Ytedpkficechjnaa
open Go.Proofs.Ytedpkficechjnaa.KA Go.Proofs.Ytedpkficechjnaa.K Go.Proofs.Ytedpkficechjnaa.KB Go.Proofs.Ytedpkficechjnaa.KI Go.Proofs.Ytedpkficechjnaa.KQ Go.Proofs.Ytedpkficechjnaa.S Go.Proofs.Ytedpkficechjnaa.KR Go.Proofs.Ytedpkficechjnaa.KS Go.Proofs.Ytedpkficechjnaa.KT Go.Proofs.Ytedpkficechjnaa.AS
set_option linter.unusedVariables false
set_option linter.unusedSimpArgs false

theorem within_any (n lo hi : Int) (w : World) : Calls Try.prog 39 #[.int .i64 n, .int .i64 lo, .int .i64 hi] w fun e w' => e = .returned (.bool (win n lo hi)) ∧ w = w' := by
  by_cases h1 : lo ≤ n
  · by_cases h2 : n ≤ hi
    · have h3 : win n lo hi = true := win_iff.2 ⟨h1, h2⟩
      go_enter Try.func39, Try.ntmps39
      go_wp2
      go_ret
      exact ⟨by simp [h3], rfl⟩
    · have h3 : win n lo hi = false := by unfold win; simp; omega
      go_enter Try.func39, Try.ntmps39
      go_wp2
      go_ret
      exact ⟨by simp [h3], rfl⟩
  · have h3 : win n lo hi = false := by unfold win; simp; omega
    go_enter Try.func39, Try.ntmps39
    go_wp2
    go_ret
    exact ⟨by simp [h3], rfl⟩
theorem withinR_any (n lo hi : Int) (w : World) : Calls Try.prog 50 #[.int .i64 n, .int .i64 lo, .int .i64 hi] w fun e w' => e = .returned (.bool (win n lo hi)) ∧ w = w' := by
  by_cases h1 : lo ≤ n
  · by_cases h2 : n ≤ hi
    · have h3 : win n lo hi = true := win_iff.2 ⟨h1, h2⟩
      go_enter Try.func50, Try.ntmps50
      go_wp2
      go_ret
      exact ⟨by simp [h3], rfl⟩
    · have h3 : win n lo hi = false := by unfold win; simp; omega
      go_enter Try.func50, Try.ntmps50
      go_wp2
      go_ret
      exact ⟨by simp [h3], rfl⟩
  · have h3 : win n lo hi = false := by unfold win; simp; omega
    go_enter Try.func50, Try.ntmps50
    go_wp2
    go_ret
    exact ⟨by simp [h3], rfl⟩

set_option maxHeartbeats 1600000 in
theorem check_any (s : Setup) (w : World) : Calls Try.prog 20 #[s.val] w fun e w' => e = .returned (.int .i64 (if checkB s then 0 else 2)) ∧ E.Ext w w' := by
  obtain ⟨b, hb⟩ : ∃ b, checkB s = b := ⟨_, rfl⟩
  rw [hb]
  unfold checkB at hb
  unfold Setup.val
  cases h1 : win s.keep 1 200 with
  | false =>
    rw [h1] at hb
    simp at hb
    subst hb
    go_enter Try.func20, Try.ntmps20
    go_wp2_with (go_at_call 39; refine (within_any _ _ _ _).mono ?_; rintro e w' ⟨rfl, rfl⟩)
    go_ret
    exact ⟨rfl, E.Ext.alloc _ _⟩
  | true =>
    cases h2 : win s.horizon 0 1099511627776 with
    | false =>
      rw [h1, h2] at hb
      simp at hb
      subst hb
      go_enter Try.func20, Try.ntmps20
      go_wp2_with (go_at_call 39; refine (within_any _ _ _ _).mono ?_; rintro e w' ⟨rfl, rfl⟩)
      go_ret
      exact ⟨rfl, E.Ext.alloc _ _⟩
    | true =>
      cases h3 : win s.ahead 0 1073741824 with
      | false =>
        rw [h1, h2, h3] at hb
        simp at hb
        subst hb
        go_enter Try.func20, Try.ntmps20
        go_wp2_with (go_at_call 39; refine (within_any _ _ _ _).mono ?_; rintro e w' ⟨rfl, rfl⟩)
        go_ret
        exact ⟨rfl, E.Ext.alloc _ _⟩
      | true =>
        cases h4 : win s.budget 1 200 with
        | false =>
          rw [h1, h2, h3, h4] at hb
          simp at hb
          subst hb
          go_enter Try.func20, Try.ntmps20
          go_wp2_with (go_at_call 39; refine (within_any _ _ _ _).mono ?_; rintro e w' ⟨rfl, rfl⟩)
          go_ret
          exact ⟨rfl, E.Ext.alloc _ _⟩
        | true =>
          cases h5 : win s.window 1 32 with
          | false =>
            rw [h1, h2, h3, h4, h5] at hb
            simp at hb
            subst hb
            go_enter Try.func20, Try.ntmps20
            go_wp2_with (go_at_call 39; refine (within_any _ _ _ _).mono ?_; rintro e w' ⟨rfl, rfl⟩)
            go_ret
            exact ⟨rfl, E.Ext.alloc _ _⟩
          | true =>
            rw [h1, h2, h3, h4, h5] at hb
            simp at hb
            subst hb
            go_enter Try.func20, Try.ntmps20
            go_wp2_with (go_at_call 39; refine (within_any _ _ _ _).mono ?_; rintro e w' ⟨rfl, rfl⟩)
            go_ret
            exact ⟨rfl, E.Ext.alloc _ _⟩
set_option maxHeartbeats 1600000 in
theorem checkR_any (s : Setup) (w : World) : Calls Try.prog 21 #[s.val] w fun e w' => e = .returned (.int .i64 (if checkB s then 0 else 2)) ∧ E.Ext w w' := by
  obtain ⟨b, hb⟩ : ∃ b, checkB s = b := ⟨_, rfl⟩
  rw [hb]
  unfold checkB at hb
  unfold Setup.val
  cases h1 : win s.keep 1 200 with
  | false =>
    rw [h1] at hb
    simp at hb
    subst hb
    go_enter Try.func21, Try.ntmps21
    go_wp2_with (go_at_call 50; refine (withinR_any _ _ _ _).mono ?_; rintro e w' ⟨rfl, rfl⟩)
    go_ret
    exact ⟨rfl, E.Ext.alloc _ _⟩
  | true =>
    cases h2 : win s.horizon 0 1099511627776 with
    | false =>
      rw [h1, h2] at hb
      simp at hb
      subst hb
      go_enter Try.func21, Try.ntmps21
      go_wp2_with (go_at_call 50; refine (withinR_any _ _ _ _).mono ?_; rintro e w' ⟨rfl, rfl⟩)
      go_ret
      exact ⟨rfl, E.Ext.alloc _ _⟩
    | true =>
      cases h3 : win s.ahead 0 1073741824 with
      | false =>
        rw [h1, h2, h3] at hb
        simp at hb
        subst hb
        go_enter Try.func21, Try.ntmps21
        go_wp2_with (go_at_call 50; refine (withinR_any _ _ _ _).mono ?_; rintro e w' ⟨rfl, rfl⟩)
        go_ret
        exact ⟨rfl, E.Ext.alloc _ _⟩
      | true =>
        cases h4 : win s.budget 1 200 with
        | false =>
          rw [h1, h2, h3, h4] at hb
          simp at hb
          subst hb
          go_enter Try.func21, Try.ntmps21
          go_wp2_with (go_at_call 50; refine (withinR_any _ _ _ _).mono ?_; rintro e w' ⟨rfl, rfl⟩)
          go_ret
          exact ⟨rfl, E.Ext.alloc _ _⟩
        | true =>
          cases h5 : win s.window 1 32 with
          | false =>
            rw [h1, h2, h3, h4, h5] at hb
            simp at hb
            subst hb
            go_enter Try.func21, Try.ntmps21
            go_wp2_with (go_at_call 50; refine (withinR_any _ _ _ _).mono ?_; rintro e w' ⟨rfl, rfl⟩)
            go_ret
            exact ⟨rfl, E.Ext.alloc _ _⟩
          | true =>
            rw [h1, h2, h3, h4, h5] at hb
            simp at hb
            subst hb
            go_enter Try.func21, Try.ntmps21
            go_wp2_with (go_at_call 50; refine (withinR_any _ _ _ _).mono ?_; rintro e w' ⟨rfl, rfl⟩)
            go_ret
            exact ⟨rfl, E.Ext.alloc _ _⟩

theorem twins_any (x k : Key) (w : World) : Calls Try.prog 10 #[x.val, k.val] w fun e w' => e = .returned (.bool (twinsB x k)) ∧ E.Ext w w' := by
  unfold Key.val
  by_cases h1 : x.sensor = k.sensor
  · have b1 : (x.sensor == k.sensor) = true := by simpa using h1
    by_cases h2 : x.seq = k.seq
    · have b2 : (x.seq == k.seq) = true := by simpa using h2
      have h3 : twinsB x k = true := by unfold twinsB; simp [h1, h2]
      clear h1 h2
      go_enter Try.func10, Try.ntmps10
      go_wp2
      go_ret
      exact ⟨by simp [h3], (E.Ext.alloc _ _).trans (E.Ext.alloc _ _)⟩
    · have b2 : (x.seq == k.seq) = false := by simpa using h2
      have h3 : twinsB x k = false := by unfold twinsB; simp [h2]
      clear h1 h2
      go_enter Try.func10, Try.ntmps10
      go_wp2
      go_ret
      exact ⟨by simp [h3], (E.Ext.alloc _ _).trans (E.Ext.alloc _ _)⟩
  · have b1 : (x.sensor == k.sensor) = false := by simpa using h1
    have h3 : twinsB x k = false := by unfold twinsB; simp [h1]
    clear h1
    go_enter Try.func10, Try.ntmps10
    go_wp2
    go_ret
    exact ⟨by simp [h3], (E.Ext.alloc _ _).trans (E.Ext.alloc _ _)⟩
theorem twinsR_any (x k : Key) (w : World) : Calls Try.prog 64 #[x.val, k.val] w fun e w' => e = .returned (.bool (twinsB x k)) ∧ E.Ext w w' := by
  unfold Key.val
  by_cases h1 : x.sensor = k.sensor
  · have b1 : (x.sensor == k.sensor) = true := by simpa using h1
    by_cases h2 : x.seq = k.seq
    · have b2 : (x.seq == k.seq) = true := by simpa using h2
      have h3 : twinsB x k = true := by unfold twinsB; simp [h1, h2]
      clear h1 h2
      go_enter Try.func64, Try.ntmps64
      go_wp2
      go_ret
      exact ⟨by simp [h3], (E.Ext.alloc _ _).trans (E.Ext.alloc _ _)⟩
    · have b2 : (x.seq == k.seq) = false := by simpa using h2
      have h3 : twinsB x k = false := by unfold twinsB; simp [h2]
      clear h1 h2
      go_enter Try.func64, Try.ntmps64
      go_wp2
      go_ret
      exact ⟨by simp [h3], (E.Ext.alloc _ _).trans (E.Ext.alloc _ _)⟩
  · have b1 : (x.sensor == k.sensor) = false := by simpa using h1
    have h3 : twinsB x k = false := by unfold twinsB; simp [h1]
    clear h1
    go_enter Try.func64, Try.ntmps64
    go_wp2
    go_ret
    exact ⟨by simp [h3], (E.Ext.alloc _ _).trans (E.Ext.alloc _ _)⟩

set_option maxHeartbeats 400000 in
theorem twin1_any (x k : Key) (kb : Nat) (w : World) (h : E.Blk w kb 28 #[.int .i64 k.stamp, .int .i64 k.sensor, .int .i64 k.seq]) :
    Calls Try.prog 56 #[x.val, .pointer (some ⟨kb, 0, none⟩)] w fun e w' => e = .returned (.bool (twinsB x k)) ∧ E.Ext w w' := by
  have hc := fun o => (h.alloc o).cell
  unfold Key.val
  go_enter Try.func56, Try.ntmps56
  go_wp2_with (go_at_call 10; refine (twins_any x k _).mono ?_; rintro e w' ⟨rfl, hx⟩)
  go_ret
  exact ⟨rfl, (E.Ext.alloc _ _).trans hx⟩

theorem twinB_take {l : List Key} {k : Key} {i : Nat} {x : Key} (hx : l[i]? = some x) (h : twinB (l.take i) k = false) (h2 : twinsB x k = false) : twinB (l.take (i + 1)) k = false := by
  obtain ⟨hi, rfl⟩ := List.getElem?_eq_some_iff.1 hx
  rw [List.take_succ_eq_append_getElem hi]
  unfold twinB at *
  rw [List.any_append, h]
  simpa using h2
theorem twinB_yes {l : List Key} {k : Key} {i : Nat} {x : Key} (hx : l[i]? = some x) (h2 : twinsB x k = true) : twinB l k = true := by
  unfold twinB
  rw [List.any_eq_true]
  exact ⟨x, List.mem_of_getElem? hx, h2⟩

set_option maxHeartbeats 800000 in
theorem indexTwin_any (l : List Key) (A : Option Addr) (c : Nat) (k : Key) (kb : Nat) (w : World) (h : Sl w 3 A l.length c (keyCells l)) (hl : l.length ≤ 1099511627776) (hk : E.Blk w kb 28 #[.int .i64 k.stamp, .int .i64 k.sensor, .int .i64 k.seq]) :
    Calls Try.prog 65 #[.slice A l.length c, .func (.func 56) #[] #[.pointer (some ⟨kb, 0, none⟩)]] w fun e w' => ∃ r : Int, e = .returned (.int .i64 r) ∧ decide (0 ≤ r) = twinB l k ∧ E.Ext w w' := by
  go_enter Try.func65, Try.ntmps65
  go_wp2
  go_loopw [5, 8] (fun _ v wr => ∃ i : Nat, v = .int .i64 i ∧ i ≤ l.length ∧ E.Ext w wr ∧ twinB (l.take i) k = false) (fun _ v _ => l.length - (intOf v).toNat)
  case atStart => exact ⟨0, rfl, Nat.zero_le _, E.Ext.refl _, rfl⟩
  case round =>
    obtain ⟨i, rfl, hi, hx, hno⟩ := hrel
    have HNO := Lib.hid hno
    clear hno
    by_cases hlt : i < l.length
    · obtain ⟨b, o, rfl, k0, k1, k2⟩ := key_at (h.ext hx) (k := i) hlt
      have hli : l[i]? = some l[i] := List.getElem?_eq_getElem hlt
      have HLI := Lib.hid hli
      clear hli
      cases ht : twinsB l[i] k with
      | true =>
        go_wp2_with fail
        refine (twin1_any l[i] k kb _ (hk.ext hx)).mono ?_
        rintro e w1 ⟨rfl, hx1⟩
        go_wp2_with fail
        go_ret
        have hty := twinB_yes HLI.out ht
        exact ⟨(i : Int), rfl, by rw [hty]; simp, hx.trans hx1⟩
      | false =>
        go_wp2_with fail
        refine (twin1_any l[i] k kb _ (hk.ext hx)).mono ?_
        rintro e w1 ⟨rfl, hx1⟩
        go_wp2_with fail
        go_roundw
        case rel => exact ⟨i + 1, by go_num, by omega, hx.trans hx1, twinB_take HLI.out HNO.out ht⟩
        case measure => simp [intOf]; omega
    · go_wp2_with fail
      go_ret
      have hn : twinB l k = false := by
        have := HNO.out
        rwa [List.take_of_length_le (by omega)] at this
      exact ⟨-1, rfl, by rw [hn]; rfl, hx⟩

theorem containsTwin_any (l : List Key) (A : Option Addr) (c : Nat) (k : Key) (kb : Nat) (w : World) (h : Sl w 3 A l.length c (keyCells l)) (hl : l.length ≤ 1099511627776) (hk : E.Blk w kb 28 #[.int .i64 k.stamp, .int .i64 k.sensor, .int .i64 k.seq]) :
    Calls Try.prog 55 #[.slice A l.length c, .func (.func 56) #[] #[.pointer (some ⟨kb, 0, none⟩)]] w fun e w' => e = .returned (.bool (twinB l k)) ∧ E.Ext w w' := by
  go_enter Try.func55, Try.ntmps55
  go_wp2_with fail
  refine (indexTwin_any l A c k kb _ h hl hk).mono ?_
  rintro e w1 ⟨r, rfl, hr, hx1⟩
  have HR := Lib.hid hr
  clear hr
  go_wp2_with fail
  go_ret
  exact ⟨by show Ending.returned (.bool (decide (0 ≤ r))) = _; rw [HR.out], hx1⟩

theorem twin_any (l : List Key) (A : Option Addr) (c : Nat) (k : Key) (w : World) (h : Sl w 3 A l.length c (keyCells l)) (hl : l.length ≤ 1099511627776) :
    Calls Try.prog 41 #[.slice A l.length c, k.val] w fun e w' => e = .returned (.bool (twinB l k)) ∧ E.Ext w w' := by
  have h0 := h.ext (E.Ext.alloc w (.cells #[.int .i64 k.stamp, .int .i64 k.sensor, .int .i64 k.seq] 28))
  have T0 := E.Blk.new w 28 #[.int .i64 k.stamp, .int .i64 k.sensor, .int .i64 k.seq]
  unfold Key.val
  go_enter Try.func41, Try.ntmps41
  go_wp2_with fail
  refine (containsTwin_any l A c k _ _ h0 hl T0).mono ?_
  rintro e w1 ⟨rfl, hx1⟩
  go_wp2_with fail
  go_ret
  exact ⟨rfl, (E.Ext.alloc _ _).trans hx1⟩
end Go.Proofs.Ytedpkficechjnaa.AT
