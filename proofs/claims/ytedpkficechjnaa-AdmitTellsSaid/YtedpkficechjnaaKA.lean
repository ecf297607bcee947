/- Keys: their order; how they are compared. -/
import Derived.Test.YtedpkficechjnaaProg
import Derived.Test.YtedpkficechjnaaE
import Derived.WalkKit
import Derived.WalkLawsBesides
import Derived.Outline
namespace Go.Proofs.Ytedpkficechjnaa.KA
open Go.RowKit
open Go.Proofs.Ytedpkficechjnaa
set_option linter.unusedVariables false
set_option linter.unusedSimpArgs false

def cmpI (a b : Int) : Int := if a < b then -1 else if b < a then 1 else 0

theorem isnan_any (a : Int) (w : World) : Calls Try.prog 66 #[.int .i64 a] w fun e w' => e = .returned (.bool false) ∧ w = w' := by
  go_enter Try.func66, Try.ntmps66
  go_wp2
  go_ret
  exact ⟨rfl, rfl⟩

theorem compare_any (a b : Int) (w : World) :
   Calls Try.prog 61 #[.int .i64 a, .int .i64 b] w fun e w' => e = .returned (.int .i64 (cmpI a b)) ∧ w = w' := by
  go_enter Try.func61, Try.ntmps61
  go_wp2_with (go_at_call 66; refine (isnan_any _ _).mono ?_; rintro e w' ⟨rfl, rfl⟩)
  all_goals (go_ret; refine ⟨?_, rfl⟩)
  · have h : a < b := by assumption
    simp [cmpI, h]
  · have h : b < a := by assumption
    have h' : ¬ a < b := by omega
    simp [cmpI, h, h']
  · have h : ¬ b < a := by omega
    have h' : ¬ a < b := by omega
    simp [cmpI, h, h']

def or3 (a b c : Int) : Int := if a ≠ 0 then a else if b ≠ 0 then b else c

theorem or3_any (a b c : Int) (g : Nat) (w : World) (h0 : w.cell? ⟨g, 0, none⟩ = some (.int .i64 a)) (h1 : w.cell? ⟨g, 1, none⟩ = some (.int .i64 b)) (h2 : w.cell? ⟨g, 2, none⟩ = some (.int .i64 c)) :
   Calls Try.prog 60 #[.slice (some ⟨g, 0, none⟩) 3 3] w fun e w' => e = .returned (.int .i64 (or3 a b c)) ∧ w = w' := by
  go_enter Try.func60, Try.ntmps60
  go_wp2
  refine wp_loop_rounds 4 ?_
  rw [rounds_succ]
  go_wp2
  · have h : (a != 0) = true := by assumption
    go_ret
    exact ⟨by simp only [bne_iff_ne] at h; simp [or3, h], rfl⟩
  · have h : (a != 0) = false := by assumption
    rw [rounds_succ]
    go_wp2
    · have h' : (b != 0) = true := by assumption
      go_ret
      exact ⟨by simp at h; simp only [bne_iff_ne] at h'; simp [or3, h, h'], rfl⟩
    · have h' : (b != 0) = false := by assumption
      rw [rounds_succ]
      go_wp2
      · have h'' : (c != 0) = true := by assumption
        go_ret
        exact ⟨by simp at h h'; simp [or3, h, h'], rfl⟩
      · have h'' : (c != 0) = false := by assumption
        rw [rounds_succ]
        go_wp2
        go_ret
        exact ⟨by simp at h h' h''; simp [or3, h, h', h''], rfl⟩

/-- A key. -/
structure Key where
  stamp : Int
  sensor : Int
  seq : Int
  deriving DecidableEq
def Key.val (k : Key) : Value := .agg #[.int .i64 k.stamp, .int .i64 k.sensor, .int .i64 k.seq]
def Key.cmp (a b : Key) : Int := or3 (cmpI a.stamp b.stamp) (cmpI a.sensor b.sensor) (cmpI a.seq b.seq)

set_option maxHeartbeats 400000 in
theorem order_any (a b : Key) (w : World) : Calls Try.prog 46 #[a.val, b.val] w fun e w' => e = .returned (.int .i64 (a.cmp b)) ∧ E.Ext w w' := by
  unfold Key.val
  go_enter Try.func46, Try.ntmps46
  go_wp2_with fail
  refine E.wp_plan E.ext_pre 1000000 [(0, true), (1, true), (2, true), (3, true), (5, true), (6, true), (7, true), (8, true), (10, true), (11, true), (12, true), (13, true), (4, false), (9, false), (14, false), (15, false), (16, false), (17, true)] (by kernel_rfl) (by kernel_rfl) ?_
  repeat (first | (refine E.plan_pure (by simp only [List.getElem?_toArray, List.getElem?_cons_succ, List.getElem?_cons_zero]; rfl) (by rfl) (fun K hK => ?_); (go_simp; try go_bits; try go_simp); refine hK _ ?_; clear hK K) | (refine E.plan_load (by simp only [List.getElem?_toArray, List.getElem?_cons_succ, List.getElem?_cons_zero]; rfl) (by rfl) (by rfl) (fun K hK => ?_); (go_simp; try go_bits; try go_simp); refine hK _ ?_; clear hK K) | (refine E.plan_skip (E.Ext.refl _) (by simp only [List.getElem?_toArray, List.getElem?_cons_succ, List.getElem?_cons_zero]; rfl) (by rfl) (fun K hK => ?_); (go_simp; try go_bits; try go_simp); refine hK _ ?_; clear hK K))
  refine E.plan_eff (by simp only [List.getElem?_toArray, List.getElem?_cons_succ, List.getElem?_cons_zero]; rfl) (by rfl) (fun K hK => ?_); (go_simp; try go_bits)
  refine (compare_any _ _ _).mono ?_; rintro e w' ⟨rfl, rfl⟩; refine hK _ _ (E.Ext.refl _) ?_; clear hK K
  refine E.plan_eff (by simp only [List.getElem?_toArray, List.getElem?_cons_succ, List.getElem?_cons_zero]; rfl) (by rfl) (fun K hK => ?_); (go_simp; try go_bits)
  refine (compare_any _ _ _).mono ?_; rintro e w' ⟨rfl, rfl⟩; refine hK _ _ (E.Ext.refl _) ?_; clear hK K
  refine E.plan_eff (by simp only [List.getElem?_toArray, List.getElem?_cons_succ, List.getElem?_cons_zero]; rfl) (by rfl) (fun K hK => ?_); (go_simp; try go_bits)
  refine (compare_any _ _ _).mono ?_; rintro e w' ⟨rfl, rfl⟩; refine hK _ _ (E.Ext.refl _) ?_; clear hK K
  refine E.plan_eff (by simp only [List.getElem?_toArray, List.getElem?_cons_succ, List.getElem?_cons_zero]; rfl) (by rfl) (fun K hK => ?_); (go_simp; try go_bits); refine hK _ _ (E.Ext.alloc _ _) ?_; clear hK K
  refine E.plan_eff (by simp only [List.getElem?_toArray, List.getElem?_cons_succ, List.getElem?_cons_zero]; rfl) (by rfl) (fun K hK => ?_); (go_simp; try go_bits)
  refine (or3_any _ _ _ _ _ (by go_simp; rfl) (by go_simp; rfl) (by go_simp; rfl)).mono ?_; rintro e w' ⟨rfl, rfl⟩; refine hK _ _ (E.Ext.refl _) ?_; clear hK K
  repeat (first | (refine E.plan_pure (by simp only [List.getElem?_toArray, List.getElem?_cons_succ, List.getElem?_cons_zero]; rfl) (by rfl) (fun K hK => ?_); (go_simp; try go_bits; try go_simp); refine hK _ ?_; clear hK K) | (refine E.plan_load (by simp only [List.getElem?_toArray, List.getElem?_cons_succ, List.getElem?_cons_zero]; rfl) (by rfl) (by rfl) (fun K hK => ?_); (go_simp; try go_bits; try go_simp); refine hK _ ?_; clear hK K) | (refine E.plan_skip (E.Ext.refl _) (by simp only [List.getElem?_toArray, List.getElem?_cons_succ, List.getElem?_cons_zero]; rfl) (by rfl) (fun K hK => ?_); (go_simp; try go_bits; try go_simp); refine hK _ ?_; clear hK K))
  refine E.plan_nil ?_
  go_wp2
  go_ret
  exact ⟨rfl, by repeat (first | exact E.Ext.refl _ | refine E.Ext.trans ?_ (E.Ext.drew _) | refine E.Ext.trans ?_ (E.Ext.alloc _ _))⟩

def Key.lt (a b : Key) : Bool := decide (a.cmp b < 0)

theorem less_any (a b : Key) (w : World) : Calls Try.prog 12 #[a.val, b.val] w fun e w' => e = .returned (.bool (a.lt b)) ∧ E.Ext w w' := by
  unfold Key.val
  go_enter Try.func12, Try.ntmps12
  go_wp2_with (go_at_call 46; refine (order_any a b _).mono ?_; rintro e w' ⟨rfl, hb⟩)
  go_ret
  exact ⟨rfl, ((E.Ext.alloc _ _).trans (E.Ext.alloc _ _)).trans hb⟩

theorem guardKey (w : World) (x y : Operand) (xs ys : Array Value) : (eqGuard .eql 28 x y (.agg xs) (.agg ys)).run Try.prog w = .ok () w :=
  run_eqGuard_agg w .eql 28 x y xs ys (by kernel_rfl)
theorem heldKey : Try.prog.stoodInHeld 28 = false := by kernel_rfl
theorem fields57 : Try.prog.underlying 28 = some (.struct (Try.prog.fieldsOf 28)) := by
  unfold Program.fieldsOf
  rw [Try.underlying28]
theorem eqKey (w : World) (a b : Key) : (binOp .eql 28 a.val b.val).run Try.prog w = .ok (.bool (decide (a = b))) w := by
  unfold Key.val
  rw [run_eql_struct, run_equalIn_agg (P := Try.prog) w 9999 28 _ _ fields57 heldKey]
  unfold Program.fieldsOf
  rw [Try.underlying28]
  go_simp
  obtain ⟨a1, a2, a3⟩ := a
  obtain ⟨b1, b2, b3⟩ := b
  simp only [Key.mk.injEq]
  by_cases h1 : a1 = b1 <;> by_cases h2 : a2 = b2 <;> by_cases h3 : a3 = b3 <;> simp [h1, h2, h3]

theorem eqKey_yes {a b : Key} (h : a = b) (w : World) : (binOp .eql 28 a.val b.val).run Try.prog w = .ok (.bool true) w := by rw [eqKey]; simp [h]
theorem eqKey_no {a b : Key} (h : ¬ a = b) (w : World) : (binOp .eql 28 a.val b.val).run Try.prog w = .ok (.bool false) w := by rw [eqKey]; simp [h]
/-! ### Keys in order -/
theorem or3_neg (a b c : Int) (ha : a = -1 ∨ a = 0 ∨ a = 1) : or3 a b c < 0 ↔ a = -1 ∨ a = 0 ∧ (if b ≠ 0 then b < 0 else c < 0) := by
  unfold or3
  rcases ha with rfl | rfl | rfl <;> simp
  split <;> simp_all
theorem cmpI_cases (a b : Int) : (cmpI a b = -1 ∧ a < b) ∨ (cmpI a b = 0 ∧ a = b) ∨ (cmpI a b = 1 ∧ b < a) := by
  unfold cmpI
  by_cases h : a < b
  · exact .inl ⟨by simp [h], h⟩
  · by_cases h' : b < a
    · exact .inr (.inr ⟨by simp [h, h'], h'⟩)
    · exact .inr (.inl ⟨by simp [h, h'], by omega⟩)
theorem lt_iff (a b : Key) : a.lt b = true ↔ (a.stamp < b.stamp ∨ a.stamp = b.stamp ∧ (a.sensor < b.sensor ∨ a.sensor = b.sensor ∧ a.seq < b.seq)) := by
  unfold Key.lt Key.cmp or3
  rw [decide_eq_true_eq]
  rcases cmpI_cases a.stamp b.stamp with ⟨h, h'⟩ | ⟨h, h'⟩ | ⟨h, h'⟩ <;> rcases cmpI_cases a.sensor b.sensor with ⟨k, k'⟩ | ⟨k, k'⟩ | ⟨k, k'⟩ <;> rcases cmpI_cases a.seq b.seq with ⟨m, m'⟩ | ⟨m, m'⟩ | ⟨m, m'⟩ <;>
    (rw [h, k, m]; simp) <;> omega
theorem lt_trans {a b c : Key} (h : a.lt b = true) (k : b.lt c = true) : a.lt c = true := by
  rw [lt_iff] at *
  omega
theorem lt_irrefl (a : Key) : a.lt a = false := by
  cases h : a.lt a with
  | false => rfl
  | true => rw [lt_iff] at h; omega
theorem lt_total {a b : Key} (h : a.lt b = false) : a = b ∨ b.lt a = true := by
  have h' : ¬ a.lt b = true := by simp [h]
  rw [lt_iff] at h'
  rw [lt_iff]
  obtain ⟨a1, a2, a3⟩ := a
  obtain ⟨b1, b2, b3⟩ := b
  simp only [Key.mk.injEq] at *
  omega

end Go.Proofs.Ytedpkficechjnaa.KA
