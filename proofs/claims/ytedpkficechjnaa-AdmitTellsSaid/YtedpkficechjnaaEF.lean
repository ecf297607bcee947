/- Regions that draw their order and fork once: two operations that make memory, in either order. -/
import Derived.Test.YtedpkficechjnaaE
namespace Go.Proofs.Ytedpkficechjnaa.EF
open Go.RowKit
open Go.Proofs.Ytedpkficechjnaa.E
set_option linter.unusedVariables false
set_option linter.unusedSimpArgs false
section
variable {P : Program} {ops : Array Oper} {md : Region.Mode} {X : World → World → Prop} {R : Act → World → Prop}
def planOkP (md : Region.Mode) (ops : Array Oper) (z : Nat) : List (Nat × Bool) → Array Bool → Option (Array Bool)
  | [], listed => some listed
  | (i, true) :: p, listed => if (waitB md ops z i && (Region.free md ops listed i && (Region.ready md ops listed).contains i)) = true then planOkP md ops z p (listed.setIfInBounds i true) else none
  | (i, false) :: p, listed => if (Region.ready md ops listed == [i]) = true then planOkP md ops z p (listed.setIfInBounds i true) else none

theorem wpOp_swap {R1 R2 : Act → World → Prop} {i : Nat} {K K' : Act → World → Prop} {a : Act} {w : World} (hK : ∀ a w, K a w → K' a w) (h : wpOp P ops (QN R1) i K a w) : wpOp P ops (QN R2) i K' a w := by
  unfold wpOp at *
  split
  · rename_i ho; simp only [ho] at h; exact hK _ _ h
  · rename_i o ho
    simp only [ho] at h
    split
    · rename_i hw
      simp only [hw, if_true] at h
      rcases h with h0 | ⟨_, a0, w0, h0⟩
      · refine .inl ?_
        unfold Oper.wp at *
        generalize (execOp a.eval o).run P w = r at *
        cases r with
        | ok n w' =>
          cases n <;> simp only [Oper.upon] at h0 ⊢
          case value u => exact hK _ _ h0
          case skip => exact hK _ _ h0
          case defer d => exact hK _ _ h0
          case enter f args =>
            refine Calls.mono h0 fun e w'' he => ?_
            cases e with
            | returned u => exact hK _ _ he
            | panicked c => exact he.elim
            | outgrown => obtain ⟨_, _, h0⟩ := he; exact h0.elim
          case row row args => exact Rows.mono h0 fun u w'' he => hK _ _ he
        | halt x w' =>
          cases x <;> simp only [Oper.upon] at h0 ⊢
          exact h0.elim
      · exact h0.elim
    · rename_i hw
      simp only [hw] at h
      exact hK _ _ h

theorem anyE_of_prefix {z : Nat} (hrefl : ∀ w, X w w) (ht : ∀ a b c, X a b → X b c → X a c) (hs : Region.noSelect ops = true) (m : Nat) (L : Array Bool) :
    ∀ (p : List (Nat × Bool)) (listed : Array Bool) (a : Act) (w : World), planOkP md ops z p listed = some L → wpPlan P ops z X (fun a w => anyE P md ops z X R m L a w) p a w → anyE P md ops z X R (p.length + m) listed a w := by
  intro p
  induction p with
  | nil =>
    intro listed a w hp h
    simp only [planOkP, Option.some.injEq] at hp
    subst hp
    simpa [wpPlan] using h
  | cons x p ih =>
    intro listed a w hp h
    obtain ⟨i, q⟩ := x
    rw [List.length_cons, Nat.succ_add]
    simp only [wpPlan] at h
    cases ho : ops[i]? with
    | none => simp only [ho] at h
    | some o =>
      simp only [ho] at h
      cases q with
      | true =>
        simp only [if_true] at h
        simp only [planOkP] at hp
        split at hp
        · rename_i hc
          simp only [Bool.and_eq_true] at hc
          obtain ⟨v, hy, h⟩ := h
          refine anyE_first hrefl ht ho (Region.noSelect_spec hs) (fun oz hoz => ?_) (p.length + m) listed a w (Region.free_spec ho hc.2.1) (by simpa using hc.2.2) hy (ih _ _ _ hp h)
          have h1 := hc.1
          simp only [waitB, hoz] at h1
          obtain ⟨e, he, hb⟩ := Array.any_eq_true'.1 h1
          simp only [Bool.and_eq_true, beq_iff_eq] at hb
          exact ⟨e, he, hb.1, hb.2⟩
        · cases hp
      | false =>
        simp only [Bool.false_eq_true, if_false] at h
        simp only [planOkP] at hp
        split at hp
        · rename_i hc
          simp only [beq_iff_eq] at hc
          refine ⟨fun h0 => (by rw [hc] at h0; cases h0), fun j hj => ?_⟩
          rw [hc] at hj
          obtain rfl : j = i := by simpa using hj
          exact wpOp_swap (fun a' w' h' => ⟨h'.1, ih _ _ _ hp h'.2⟩) h
        · cases hp

theorem wpOp_of_plan {z i : Nat} {p : List (Nat × Bool)} {a : Act} {w : World} (h : wpPlan P ops z X R ((i, false) :: p) a w) : wpOp P ops (QN R) i (fun a' w' => (i ≠ z → X w w') ∧ wpPlan P ops z X R p a' w') a w := by
  simp only [wpPlan] at h
  cases ho : ops[i]? with
  | none => simp only [ho] at h
  | some o =>
    simp only [ho, Bool.false_eq_true, if_false] at h
    exact h

theorem anyE_fork {z i j : Nat} (hrefl : ∀ w, X w w) (ht : ∀ a b c, X a b → X b c → X a c) (hs : Region.noSelect ops = true) {L : Array Bool} {pi pj : List (Nat × Bool)} (hr : Region.ready md ops L = [i, j])
    (hi : planOk md ops z pi (L.setIfInBounds i true) = true) (hj : planOk md ops z pj (L.setIfInBounds j true) = true) (hl : pj.length = pi.length) {a : Act} {w : World}
    (h1 : wpPlan P ops z X R ((i, false) :: pi) a w) (h2 : wpPlan P ops z X R ((j, false) :: pj) a w) : anyE P md ops z X R (pi.length + 1) L a w := by
  refine ⟨fun h0 => (by rw [hr] at h0; cases h0), fun k hk => ?_⟩
  rw [hr] at hk
  simp only [List.mem_cons, List.not_mem_nil, or_false] at hk
  rcases hk with rfl | rfl
  · exact wpOp_mono (fun a' w' h' => ⟨h'.1, anyE_of_plan hrefl ht hs pi _ a' w' hi h'.2⟩) (wpOp_of_plan h1)
  · refine wpOp_mono (fun a' w' h' => ⟨h'.1, ?_⟩) (wpOp_of_plan h2)
    rw [← hl]
    exact anyE_of_plan hrefl ht hs pj _ a' w' hj h'.2

theorem plan_mono {z : Nat} : ∀ (p : List (Nat × Bool)) (a : Act) (w : World) (R1 R2 : Act → World → Prop), (∀ a w, R1 a w → R2 a w) → wpPlan P ops z X R1 p a w → wpPlan P ops z X R2 p a w := by
  intro p
  induction p with
  | nil => intro a w R1 R2 hR h; exact hR a w h
  | cons x p ih =>
    intro a w R1 R2 hR h
    obtain ⟨k, q⟩ := x
    simp only [wpPlan] at h ⊢
    cases ho : (ops)[k]? with
    | none => simp only [ho] at h
    | some o =>
      simp only [ho] at h ⊢
      cases q with
      | true =>
        simp only [if_true] at h ⊢
        obtain ⟨v, hy, h⟩ := h
        exact ⟨v, hy, ih _ _ _ _ hR h⟩
      | false =>
        simp only [Bool.false_eq_true, if_false] at h ⊢
        have h0 := wpOp_of_plan (P := P) (ops := ops) (p := p) (R := R1) (z := z) (X := X) (i := k) (a := a) (w := w) (by simp only [wpPlan, ho, Bool.false_eq_true, if_false]; exact h)
        have h1 := wpOp_swap (R2 := R2) (fun a' w' h' => And.intro h'.1 (ih _ _ R1 R2 hR h'.2)) h0
        unfold wpOp at h1 ⊢
        simp only [ho] at h1 ⊢
        exact h1

/-- The check of a plan that forks once. -/
def forkOk (ops : Array Oper) (z i j : Nat) (p pi pj : List (Nat × Bool)) : Bool :=
  match planOkP .any ops z p (Array.replicate ops.size false) with
  | none => false
  | some L => Region.ready .any ops L == [i, j] && planOk .any ops z pi (L.setIfInBounds i true) && planOk .any ops z pj (L.setIfInBounds j true) && (pj.length == pi.length) && (p.length + (pi.length + 1) == ops.size) && Region.noSelect ops

theorem wp_plan_fork {id : Nat} {Q : Exit → Act → World → Prop} {a : Act} {w : World} {l : List Oper} (hX : (∀ w, X w w) ∧ (∀ a b c, X a b → X b c → X a c)) (z i j : Nat) (p pi pj : List (Nat × Bool)) (hm : P.follows .mixedOrders = true)
    (hp : forkOk l.toArray z i j p pi pj = true)
    (h : wpPlan P l.toArray z X (fun a w => wpPlan P l.toArray z X (fun a w => Q .normal a w) ((i, false) :: pi) a w ∧ wpPlan P l.toArray z X (fun a w => Q .normal a w) ((j, false) :: pj) a w) p a w.drew) :
    (Code.region id l.toArray true).wp P Q a w := by
  unfold forkOk at hp
  split at hp
  · cases hp
  · rename_i L hL
    simp only [Bool.and_eq_true, beq_iff_eq] at hp
    obtain ⟨⟨⟨⟨⟨h1, h2⟩, h3⟩, h4⟩, h5⟩, h6⟩ := hp
    refine wp_region_any hm (any_of_anyE (z := z) (R := fun a w => Q .normal a w) (X := X) ?_ _ _ _ _ ?_)
    · intro e a w h
      cases e <;> first | exact h | exact h.elim
    · have hgo : anyE P .any l.toArray z X (fun a w => Q .normal a w) (p.length + (pi.length + 1)) (Array.replicate l.toArray.size false) a w.drew := by
        refine anyE_of_prefix hX.1 hX.2 h6 _ L p _ a _ hL ?_
        exact plan_mono p a w.drew _ _ (fun a w h => anyE_fork hX.1 hX.2 h6 h1 h2 h3 h4 h.1 h.2) h
      rw [h5] at hgo
      exact hgo
end
end Go.Proofs.Ytedpkficechjnaa.EF
