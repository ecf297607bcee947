/- Keys and entries: the order of keys, an entry's key. -/
import Derived.Test.YtjomgaafnpbmhaaProg
import Derived.Test.YtjomgaafnpbmhaaE
import Derived.WalkKit
import Derived.WalkLawsBesides
import Derived.Outline
namespace Go.Proofs.Ytjomgaafnpbmhaa.A
open Go.RowKit
set_option linter.unusedVariables false
set_option linter.unusedSimpArgs false

def cmpI (a b : Int) : Int := if a < b then -1 else if b < a then 1 else 0

theorem isnan_any (a : Int) (w : World) : Calls Try.prog 58 #[.int .i64 a] w fun e w' => e = .returned (.bool false) ∧ w = w' := by
  go_enter Try.func58, Try.ntmps58
  go_wp2
  go_ret
  exact ⟨rfl, rfl⟩

theorem compare_any (a b : Int) (w : World) :
   Calls Try.prog 57 #[.int .i64 a, .int .i64 b] w fun e w' => e = .returned (.int .i64 (cmpI a b)) ∧ w = w' := by
  go_enter Try.func57, Try.ntmps57
  go_wp2_with (go_at_call 58; refine (isnan_any _ _).mono ?_; rintro e w' ⟨rfl, rfl⟩)
  all_goals (go_ret; refine ⟨?_, rfl⟩)
  · have h : a < b := by assumption
    simp [cmpI, h]
  · have h : b < a := by assumption
    have h' : ¬ a < b := by omega
    simp [cmpI, h, h']
  · have h : ¬ b < a := by omega
    have h' : ¬ a < b := by omega
    simp [cmpI, h, h']

def or3 (a b c : Int) : Int := if a ≠ 0 then a else if b ≠ 0 then b else c

theorem or3_any (a b c : Int) (g : Nat) (w : World) (h0 : w.cell? ⟨g, 0, none⟩ = some (.int .i64 a)) (h1 : w.cell? ⟨g, 1, none⟩ = some (.int .i64 b)) (h2 : w.cell? ⟨g, 2, none⟩ = some (.int .i64 c)) :
   Calls Try.prog 56 #[.slice (some ⟨g, 0, none⟩) 3 3] w fun e w' => e = .returned (.int .i64 (or3 a b c)) ∧ w = w' := by
  go_enter Try.func56, Try.ntmps56
  go_wp2
  refine wp_loop_rounds 4 ?_
  rw [rounds_succ]
  go_wp2
  · have h : (a != 0) = true := by assumption
    go_ret
    exact ⟨by simp only [bne_iff_ne] at h; simp [or3, h], rfl⟩
  · have h : (a != 0) = false := by assumption
    rw [rounds_succ]
    go_wp2
    · have h' : (b != 0) = true := by assumption
      go_ret
      exact ⟨by simp at h; simp only [bne_iff_ne] at h'; simp [or3, h, h'], rfl⟩
    · have h' : (b != 0) = false := by assumption
      rw [rounds_succ]
      go_wp2
      · have h'' : (c != 0) = true := by assumption
        go_ret
        exact ⟨by simp at h h'; simp [or3, h, h'], rfl⟩
      · have h'' : (c != 0) = false := by assumption
        rw [rounds_succ]
        go_wp2
        go_ret
        exact ⟨by simp at h h' h''; simp [or3, h, h', h''], rfl⟩

/-- A key. -/
structure Key where
  stamp : Int
  sensor : Int
  seq : Int
  deriving DecidableEq
def Key.val (k : Key) : Value := .agg #[.int .i64 k.stamp, .int .i64 k.sensor, .int .i64 k.seq]
def Key.cmp (a b : Key) : Int := or3 (cmpI a.stamp b.stamp) (cmpI a.sensor b.sensor) (cmpI a.seq b.seq)

set_option maxHeartbeats 400000 in
theorem order_any (a b : Key) (w : World) : Calls Try.prog 44 #[a.val, b.val] w fun e w' => e = .returned (.int .i64 (a.cmp b)) ∧ E.Ext w w' := by
  unfold Key.val
  go_enter Try.func44, Try.ntmps44
  go_wp2_with fail
  refine E.wp_plan E.ext_pre 1000000 [(0, true), (1, true), (2, true), (3, true), (5, true), (6, true), (7, true), (8, true), (10, true), (11, true), (12, true), (13, true), (4, false), (9, false), (14, false), (15, false), (16, false), (17, true)] (by kernel_rfl) (by kernel_rfl) ?_
  repeat (first | (refine E.plan_pure (by simp only [List.getElem?_toArray, List.getElem?_cons_succ, List.getElem?_cons_zero]; rfl) (by rfl) (fun K hK => ?_); (go_simp; try go_bits; try go_simp); refine hK _ ?_; clear hK K) | (refine E.plan_load (by simp only [List.getElem?_toArray, List.getElem?_cons_succ, List.getElem?_cons_zero]; rfl) (by rfl) (by rfl) (fun K hK => ?_); (go_simp; try go_bits; try go_simp); refine hK _ ?_; clear hK K) | (refine E.plan_skip (E.Ext.refl _) (by simp only [List.getElem?_toArray, List.getElem?_cons_succ, List.getElem?_cons_zero]; rfl) (by rfl) (fun K hK => ?_); (go_simp; try go_bits; try go_simp); refine hK _ ?_; clear hK K))
  refine E.plan_eff (by simp only [List.getElem?_toArray, List.getElem?_cons_succ, List.getElem?_cons_zero]; rfl) (by rfl) (fun K hK => ?_); (go_simp; try go_bits)
  refine (compare_any _ _ _).mono ?_; rintro e w' ⟨rfl, rfl⟩; refine hK _ _ (E.Ext.refl _) ?_; clear hK K
  refine E.plan_eff (by simp only [List.getElem?_toArray, List.getElem?_cons_succ, List.getElem?_cons_zero]; rfl) (by rfl) (fun K hK => ?_); (go_simp; try go_bits)
  refine (compare_any _ _ _).mono ?_; rintro e w' ⟨rfl, rfl⟩; refine hK _ _ (E.Ext.refl _) ?_; clear hK K
  refine E.plan_eff (by simp only [List.getElem?_toArray, List.getElem?_cons_succ, List.getElem?_cons_zero]; rfl) (by rfl) (fun K hK => ?_); (go_simp; try go_bits)
  refine (compare_any _ _ _).mono ?_; rintro e w' ⟨rfl, rfl⟩; refine hK _ _ (E.Ext.refl _) ?_; clear hK K
  refine E.plan_eff (by simp only [List.getElem?_toArray, List.getElem?_cons_succ, List.getElem?_cons_zero]; rfl) (by rfl) (fun K hK => ?_); (go_simp; try go_bits); refine hK _ _ (E.Ext.alloc _ _) ?_; clear hK K
  refine E.plan_eff (by simp only [List.getElem?_toArray, List.getElem?_cons_succ, List.getElem?_cons_zero]; rfl) (by rfl) (fun K hK => ?_); (go_simp; try go_bits)
  refine (or3_any _ _ _ _ _ (by go_simp; rfl) (by go_simp; rfl) (by go_simp; rfl)).mono ?_; rintro e w' ⟨rfl, rfl⟩; refine hK _ _ (E.Ext.refl _) ?_; clear hK K
  repeat (first | (refine E.plan_pure (by simp only [List.getElem?_toArray, List.getElem?_cons_succ, List.getElem?_cons_zero]; rfl) (by rfl) (fun K hK => ?_); (go_simp; try go_bits; try go_simp); refine hK _ ?_; clear hK K) | (refine E.plan_load (by simp only [List.getElem?_toArray, List.getElem?_cons_succ, List.getElem?_cons_zero]; rfl) (by rfl) (by rfl) (fun K hK => ?_); (go_simp; try go_bits; try go_simp); refine hK _ ?_; clear hK K) | (refine E.plan_skip (E.Ext.refl _) (by simp only [List.getElem?_toArray, List.getElem?_cons_succ, List.getElem?_cons_zero]; rfl) (by rfl) (fun K hK => ?_); (go_simp; try go_bits; try go_simp); refine hK _ ?_; clear hK K))
  refine E.plan_nil ?_
  go_wp2
  go_ret
  exact ⟨rfl, by repeat (first | exact E.Ext.refl _ | refine E.Ext.trans ?_ (E.Ext.drew _) | refine E.Ext.trans ?_ (E.Ext.alloc _ _))⟩

def Key.lt (a b : Key) : Bool := decide (a.cmp b < 0)

theorem less_any (a b : Key) (w : World) : Calls Try.prog 22 #[a.val, b.val] w fun e w' => e = .returned (.bool (a.lt b)) ∧ E.Ext w w' := by
  unfold Key.val
  go_enter Try.func22, Try.ntmps22
  go_wp2_with (go_at_call 44; refine (order_any a b _).mono ?_; rintro e w' ⟨rfl, hb⟩)
  go_ret
  exact ⟨rfl, ((E.Ext.alloc _ _).trans (E.Ext.alloc _ _)).trans hb⟩

end Go.Proofs.Ytjomgaafnpbmhaa.A
