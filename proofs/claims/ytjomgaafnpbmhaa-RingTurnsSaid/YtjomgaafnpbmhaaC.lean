/- sort.Search over the ring's closure. -/
import Derived.Test.YtjomgaafnpbmhaaB
import Derived.Lib.Hide
namespace Go.Proofs.Ytjomgaafnpbmhaa.C
open Go.RowKit
open Go.Proofs.Ytjomgaafnpbmhaa
open Go.Proofs.Ytjomgaafnpbmhaa.A Go.Proofs.Ytjomgaafnpbmhaa.K Go.Proofs.Ytjomgaafnpbmhaa.B
set_option linter.unusedVariables false
set_option linter.unusedSimpArgs false

def Searched (n : Nat) (p : Nat → Bool) (w : World) (e : Ending) (w' : World) : Prop :=
  ∃ r : Nat, e = .returned (.int .i64 r) ∧ r ≤ n ∧ (r = 0 ∨ p (r - 1) = false) ∧ (r = n ∨ p r = true) ∧ E.Ext w w'

def SI (n : Nat) (p : Nat → Bool) (i j : Nat) : Prop := i ≤ j ∧ j ≤ n ∧ (i = 0 ∨ p (i - 1) = false) ∧ (j = n ∨ p j = true)

set_option maxHeartbeats 400000 in
theorem search_any (n : Nat) (p : Nat → Bool) (x y : Value) (w : World) (hn : n ≤ 1099511627776)
    (hp : ∀ W, E.Ext w W → ∀ i : Nat, i < n → Calls Try.prog 51 #[.int .i64 i, x, y] W fun e W' => e = .returned (.bool (p i)) ∧ E.Ext W W') :
    Calls Try.prog 50 #[.int .i64 n, .func (.func 51) #[] #[x, y]] w (Searched n p w) := by
  have HP := Lib.hid hp
  clear hp
  go_enter Try.func50, Try.ntmps50
  go_wp2
  go_loopw [5, 6, 7] (fun a b _ wr => ∃ i j : Nat, a = .int .i64 i ∧ b = .int .i64 j ∧ SI n p i j ∧ E.Ext w wr) (fun a b _ _ => (intOf b - intOf a).toNat)
  case atStart => exact ⟨0, n, rfl, rfl, ⟨Nat.zero_le _, Nat.le_refl _, .inl rfl, .inl rfl⟩, E.Ext.refl _⟩
  case round =>
    obtain ⟨i, j, rfl, rfl, hs, hx⟩ := hrel
    have HS := Lib.hid hs
    have hij : i ≤ j := hs.1
    have hjn : j ≤ n := hs.2.1
    clear hs
    by_cases hlt : i < j
    · have em : ((i : Int) + (j : Int)) / 2 = (((i + j) / 2 : Nat) : Int) := by omega
      have EM := Lib.hid em
      clear em
      have hm1 : i ≤ (i + j) / 2 := by omega
      have hm2 : (i + j) / 2 < j := by omega
      generalize hm : (i + j) / 2 = m at *
      clear hm
      cases hpm : p m with
      | false =>
        have HM := Lib.hid hpm
        clear hpm
        go_wp2_with (go_at_call 51; rw [EM.out]; refine (HP.out _ hx m (by omega)).mono ?_; rintro e W' ⟨rfl, hx'⟩; rw [HM.out])
        go_roundw
        case rel => exact ⟨m + 1, j, by go_num, rfl, ⟨by omega, hjn, .inr (by simpa using HM.out), HS.out.2.2.2⟩, hx.trans hx'⟩
        case measure => simp [intOf]; omega
      | true =>
        have HM := Lib.hid hpm
        clear hpm
        go_wp2_with (go_at_call 51; rw [EM.out]; refine (HP.out _ hx m (by omega)).mono ?_; rintro e W' ⟨rfl, hx'⟩; rw [HM.out])
        go_roundw
        case rel => exact ⟨i, m, rfl, rfl, ⟨by omega, by omega, HS.out.2.2.1, .inr HM.out⟩, hx.trans hx'⟩
        case measure => simp [intOf]; omega
    · go_wp2
      go_ret
      obtain ⟨h1, h2, h3, h4⟩ := HS.out
      obtain rfl : i = j := by omega
      exact ⟨i, rfl, h2, h3, h4, hx⟩

/-- Where the predicate only turns once from no to yes, it is the number of the noes. -/
theorem searched_count {n r : Nat} {p : Nat → Bool} (hmono : ∀ i j, i ≤ j → j < n → p i = true → p j = true) (hr : r ≤ n) (h1 : r = 0 ∨ p (r - 1) = false) (h2 : r = n ∨ p r = true) :
    ∀ i, i < n → (p i = true ↔ r ≤ i) := by
  intro i hi
  constructor
  · intro hp
    rcases h1 with h1 | h1
    · omega
    · rcases Nat.lt_or_ge i r with h | h
      · have := hmono i (r - 1) (by omega) (by omega) hp
        rw [h1] at this
        cases this
      · exact h
  · intro h
    rcases h2 with h2 | h2
    · omega
    · exact hmono r i h hi h2
end Go.Proofs.Ytjomgaafnpbmhaa.C
