/- RingSorts, walked. -/
import Derived.Test.YtjomgaafnpbmhaaM
import Derived.Test.YtjomgaafnpbmhaaQ
import Derived.Test.YtjomgaafnpbmhaaR
import Derived.Test.YtjomgaafnpbmhaaS
namespace Go.Proofs.Ytjomgaafnpbmhaa.T
open Go.RowKit
open Go.Proofs.Ytjomgaafnpbmhaa
open Go.Proofs.Ytjomgaafnpbmhaa.A Go.Proofs.Ytjomgaafnpbmhaa.K Go.Proofs.Ytjomgaafnpbmhaa.B Go.Proofs.Ytjomgaafnpbmhaa.C Go.Proofs.Ytjomgaafnpbmhaa.D Go.Proofs.Ytjomgaafnpbmhaa.F Go.Proofs.Ytjomgaafnpbmhaa.G Go.Proofs.Ytjomgaafnpbmhaa.H Go.Proofs.Ytjomgaafnpbmhaa.I Go.Proofs.Ytjomgaafnpbmhaa.J Go.Proofs.Ytjomgaafnpbmhaa.M Go.Proofs.Ytjomgaafnpbmhaa.O Go.Proofs.Ytjomgaafnpbmhaa.P Go.Proofs.Ytjomgaafnpbmhaa.Q Go.Proofs.Ytjomgaafnpbmhaa.R Go.Proofs.Ytjomgaafnpbmhaa.S
set_option linter.unusedVariables false
set_option linter.unusedSimpArgs false

def FreshSays (w : World) (l : List Entry) (i : Nat) (e : Ending) (w' : World) : Prop := ∃ r, e = .returned (.bool r) ∧ (r = true ↔ Fresh l i) ∧ E.Ext w w'

set_option maxHeartbeats 800000 in
theorem fresh_any (l : List Entry) (A : Option Addr) (c i : Nat) (x : Entry) (w : World) (hl : Ents w A c l) (hx : l[i]? = some x) (hmost : l.length ≤ 1099511627776) :
    Calls Try.prog 21 #[.slice A l.length c, .int .i64 i] w (FreshSays w l i) := by
  have hil := (List.getElem?_eq_some_iff.1 hx).1
  have hcap := hl.cap
  have hmax := hl.max
  have HX := Lib.hid hx
  clear hx
  have hk1 := fun w' x y xs ys => guardKey w' x y xs ys
  have HK1 := Lib.hid hk1
  clear hk1
  go_enter Try.func21, Try.ntmps21
  go_wp2
  go_loopw [5] (fun v wr => ∃ (k : Nat), v = .int .i64 k ∧ k ≤ i ∧ E.Ext w wr ∧ ∀ (j : Nat) y, j < k → l[j]? = some y → ¬ y.key = x.key) (fun v _ => i - (intOf v).toNat)
  case atStart => exact ⟨0, rfl, Nat.zero_le _, E.Ext.refl _, fun j y h => by omega⟩
  case round =>
    obtain ⟨k, rfl, hk, hxr, hno⟩ := hrel
    have HNO := Lib.hid hno
    clear hno
    by_cases hlt : k < i
    · obtain ⟨y, hy⟩ : ∃ y, l[k]? = some y := ⟨l[k], List.getElem?_eq_getElem (by omega)⟩
      have hkl : k < l.length := by omega
      obtain ⟨b0, o0, rfl, hb0, hen⟩ := (hl.ext hxr).at_ (by omega)
      obtain ⟨c0, c1, c2, c3, Ad, cd, c4, hsd⟩ := hen k y hy
      obtain ⟨d0, d1, d2, d3, Ad', cd', d4, hsd'⟩ := hen i x HX.out
      have HY := Lib.hid hy
      clear hen hy
      go_wp2_with fail
      refine E.wp_plan E.ext_pre 1000000 [(0, true), (1, true), (2, true), (3, true), (5, true), (6, true), (7, true), (8, true), (4, false), (9, false), (10, true)] (by kernel_rfl) (by kernel_rfl) ?_
      repeat (first | (refine E.plan_pure (by simp only [List.getElem?_toArray, List.getElem?_cons_succ, List.getElem?_cons_zero]; rfl) (by rfl) (fun K hK => ?_); (go_simp; try go_bits; try go_simp); refine hK _ ?_; clear hK K) | (refine E.plan_load (by simp only [List.getElem?_toArray, List.getElem?_cons_succ, List.getElem?_cons_zero]; rfl) (by rfl) (by rfl) (fun K hK => ?_); (go_simp; try go_bits; try go_simp); refine hK _ ?_; clear hK K) | (refine E.plan_skip (E.Ext.refl _) (by simp only [List.getElem?_toArray, List.getElem?_cons_succ, List.getElem?_cons_zero]; rfl) (by rfl) (fun K hK => ?_); (go_simp; try go_bits; try go_simp); refine hK _ ?_; clear hK K))
      refine E.plan_eff (by simp only [List.getElem?_toArray, List.getElem?_cons_succ, List.getElem?_cons_zero]; rfl) (by rfl) (fun K hK => ?_); (go_simp; try go_bits)
      refine (of_any y Ad cd _).mono ?_; rintro e w1 ⟨rfl, hx1⟩; refine hK _ _ hx1 ?_; clear hK K
      dsimp only [Key.val, Entry.key]
      repeat (first | (refine E.plan_pure (by simp only [List.getElem?_toArray, List.getElem?_cons_succ, List.getElem?_cons_zero]; rfl) (by rfl) (fun K hK => ?_); (go_simp; try go_bits; try go_simp); refine hK _ ?_; clear hK K) | (refine E.plan_load (by simp only [List.getElem?_toArray, List.getElem?_cons_succ, List.getElem?_cons_zero]; rfl) (by rfl) (by rfl) (fun K hK => ?_); (go_simp; try go_bits; try go_simp); refine hK _ ?_; clear hK K) | (refine E.plan_skip (E.Ext.refl _) (by simp only [List.getElem?_toArray, List.getElem?_cons_succ, List.getElem?_cons_zero]; rfl) (by rfl) (fun K hK => ?_); (go_simp; try go_bits; try go_simp); refine hK _ ?_; clear hK K))
      refine E.plan_eff (by simp only [List.getElem?_toArray, List.getElem?_cons_succ, List.getElem?_cons_zero]; rfl) (by rfl) (fun K hK => ?_); (go_simp; try go_bits)
      refine (of_any x Ad' cd' _).mono ?_; rintro e w2 ⟨rfl, hx2⟩; refine hK _ _ hx2 ?_; clear hK K
      dsimp only [Key.val, Entry.key]
      have hx02 := ((hxr.trans (E.Ext.drew _)).trans hx1).trans hx2
      have hk1 := HK1.out
      by_cases heq : y.key = x.key
      · have hk2 := eqKey_yes heq
        have HE := Lib.hid heq
        clear heq
        dsimp only [Key.val, Entry.key] at hk2
        repeat (first | (refine E.plan_pure (by simp only [List.getElem?_toArray, List.getElem?_cons_succ, List.getElem?_cons_zero]; rfl) (by rfl) (fun K hK => ?_); (go_simp; try go_bits; try go_simp); refine hK _ ?_; clear hK K) | (refine E.plan_load (by simp only [List.getElem?_toArray, List.getElem?_cons_succ, List.getElem?_cons_zero]; rfl) (by rfl) (by rfl) (fun K hK => ?_); (go_simp; try go_bits; try go_simp); refine hK _ ?_; clear hK K) | (refine E.plan_skip (E.Ext.refl _) (by simp only [List.getElem?_toArray, List.getElem?_cons_succ, List.getElem?_cons_zero]; rfl) (by rfl) (fun K hK => ?_); (go_simp; try go_bits; try go_simp); refine hK _ ?_; clear hK K))
        refine E.plan_nil ?_
        go_wp2
        go_ret
        exact ⟨false, rfl, by simp only [Bool.false_eq_true, false_iff]; exact fun h => h k x y hlt HY.out HX.out HE.out, hx02⟩
      · have hk2 := eqKey_no heq
        have HE := Lib.hid heq
        clear heq
        dsimp only [Key.val, Entry.key] at hk2
        repeat (first | (refine E.plan_pure (by simp only [List.getElem?_toArray, List.getElem?_cons_succ, List.getElem?_cons_zero]; rfl) (by rfl) (fun K hK => ?_); (go_simp; try go_bits; try go_simp); refine hK _ ?_; clear hK K) | (refine E.plan_load (by simp only [List.getElem?_toArray, List.getElem?_cons_succ, List.getElem?_cons_zero]; rfl) (by rfl) (by rfl) (fun K hK => ?_); (go_simp; try go_bits; try go_simp); refine hK _ ?_; clear hK K) | (refine E.plan_skip (E.Ext.refl _) (by simp only [List.getElem?_toArray, List.getElem?_cons_succ, List.getElem?_cons_zero]; rfl) (by rfl) (fun K hK => ?_); (go_simp; try go_bits; try go_simp); refine hK _ ?_; clear hK K))
        refine E.plan_nil ?_
        go_wp2
        go_roundw
        case rel => exact ⟨k + 1, by go_num, by omega, hx02, fun j z hj hz => by
          by_cases hjk : j = k
          · subst hjk
            have := HY.out
            rw [this] at hz
            cases hz
            exact HE.out
          · exact HNO.out j z (by omega) hz⟩
        case measure => simp [intOf]; omega
    · go_wp2
      go_ret
      refine ⟨true, rfl, ?_, hxr⟩
      simp only [true_iff]
      intro j x' y hj hy hx'
      rw [HX.out] at hx'
      cases hx'
      exact HNO.out j y (by omega) hy
theorem fresh_yes (l : List Entry) (A : Option Addr) (c i : Nat) (x : Entry) (w : World) (hl : Ents w A c l) (hx : l[i]? = some x) (hmost : l.length ≤ 1099511627776) (hf : Fresh l i) :
    Calls Try.prog 21 #[.slice A l.length c, .int .i64 i] w fun e w' => e = .returned (.bool true) ∧ E.Ext w w' := by
  refine (fresh_any l A c i x w hl hx hmost).mono ?_
  rintro e w' ⟨r, rfl, h1, h2⟩
  rw [h1.2 hf]
  exact ⟨rfl, h2⟩
theorem fresh_no (l : List Entry) (A : Option Addr) (c i : Nat) (x : Entry) (w : World) (hl : Ents w A c l) (hx : l[i]? = some x) (hmost : l.length ≤ 1099511627776) (hf : ¬ Fresh l i) :
    Calls Try.prog 21 #[.slice A l.length c, .int .i64 i] w fun e w' => e = .returned (.bool false) ∧ E.Ext w w' := by
  refine (fresh_any l A c i x w hl hx hmost).mono ?_
  rintro e w' ⟨r, rfl, h1, h2⟩
  have : r = false := by
    cases r with
    | false => rfl
    | true => exact absurd (h1.1 rfl) hf
  rw [this]
  exact ⟨rfl, h2⟩
end Go.Proofs.Ytjomgaafnpbmhaa.T
