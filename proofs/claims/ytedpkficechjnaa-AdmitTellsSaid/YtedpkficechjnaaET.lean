/- Regions that draw their order and fork more than once: a tree of plans. -/
import Derived.Test.YtedpkficechjnaaEF
namespace Go.Proofs.Ytedpkficechjnaa.ET
open Go.RowKit
open Go.Proofs.Ytedpkficechjnaa.E Go.Proofs.Ytedpkficechjnaa.EF
set_option linter.unusedVariables false
set_option linter.unusedSimpArgs false
inductive PT
  | leaf (p : List (Nat × Bool))
  | fork (p : List (Nat × Bool)) (i j : Nat) (ti tj : PT)
section
variable {P : Program} {ops : Array Oper} {md : Region.Mode} {X : World → World → Prop} {R : Act → World → Prop}
def tOk (md : Region.Mode) (ops : Array Oper) (z : Nat) : PT → Array Bool → Nat → Bool
  | .leaf p, L, n => planOk md ops z p L && p.length == n
  | .fork p i j ti tj, L, n => match planOkP md ops z p L with
    | none => false
    | some L' => Region.ready md ops L' == [i, j] && (decide (p.length + 1 ≤ n) && (tOk md ops z ti (L'.setIfInBounds i true) (n - (p.length + 1)) && tOk md ops z tj (L'.setIfInBounds j true) (n - (p.length + 1))))
def wpT (P : Program) (ops : Array Oper) (z : Nat) (X : World → World → Prop) (R : Act → World → Prop) : PT → Act → World → Prop
  | .leaf p => wpPlan P ops z X R p
  | .fork p i j ti tj => wpPlan P ops z X (fun a w => wpPlan P ops z X (wpT P ops z X R ti) [(i, false)] a w ∧ wpPlan P ops z X (wpT P ops z X R tj) [(j, false)] a w) p
theorem leaf_of {z : Nat} {p : List (Nat × Bool)} {a : Act} {w : World} (h : wpPlan P ops z X R p a w) : wpT P ops z X R (.leaf p) a w := h
theorem fork_of {z : Nat} {p : List (Nat × Bool)} {i j : Nat} {ti tj : PT} {a : Act} {w : World} (h : wpPlan P ops z X (fun a w => wpPlan P ops z X (wpT P ops z X R ti) [(i, false)] a w ∧ wpPlan P ops z X (wpT P ops z X R tj) [(j, false)] a w) p a w) : wpT P ops z X R (.fork p i j ti tj) a w := h

theorem anyE_two {z i j m : Nat} {L : Array Bool} {Ri Rj : Act → World → Prop} (hr : Region.ready md ops L = [i, j])
    (hi : ∀ a w, Ri a w → anyE P md ops z X R m (L.setIfInBounds i true) a w) (hj : ∀ a w, Rj a w → anyE P md ops z X R m (L.setIfInBounds j true) a w) {a : Act} {w : World}
    (h1 : wpPlan P ops z X Ri [(i, false)] a w) (h2 : wpPlan P ops z X Rj [(j, false)] a w) : anyE P md ops z X R (m + 1) L a w := by
  refine ⟨fun h0 => (by rw [hr] at h0; cases h0), fun k hk => ?_⟩
  rw [hr] at hk
  simp only [List.mem_cons, List.not_mem_nil, or_false] at hk
  rcases hk with rfl | rfl
  · exact wpOp_swap (fun a' w' h' => ⟨h'.1, hi a' w' h'.2⟩) (wpOp_of_plan h1)
  · exact wpOp_swap (fun a' w' h' => ⟨h'.1, hj a' w' h'.2⟩) (wpOp_of_plan h2)

theorem anyE_of_tree {z : Nat} (hrefl : ∀ w, X w w) (ht : ∀ a b c, X a b → X b c → X a c) (hs : Region.noSelect ops = true) :
    ∀ (t : PT) (L : Array Bool) (n : Nat) (a : Act) (w : World), tOk md ops z t L n = true → wpT P ops z X R t a w → anyE P md ops z X R n L a w := by
  intro t
  induction t with
  | leaf p =>
    intro L n a w hp h
    simp only [tOk, Bool.and_eq_true, beq_iff_eq] at hp
    rw [← hp.2]
    exact anyE_of_plan hrefl ht hs p L a w hp.1 h
  | fork p i j ti tj hi hj =>
    intro L n a w hp h
    simp only [tOk] at hp
    split at hp
    · cases hp
    · rename_i L' hL
      simp only [Bool.and_eq_true, beq_iff_eq, decide_eq_true_eq] at hp
      obtain ⟨h1, h2, h3, h4⟩ := hp
      have hn : n = p.length + ((n - (p.length + 1)) + 1) := by omega
      rw [hn]
      refine anyE_of_prefix hrefl ht hs _ L' p L a w hL ?_
      exact plan_mono p a w _ _ (fun a w h => anyE_two h1 (fun a w h => hi _ _ a w h3 h) (fun a w h => hj _ _ a w h4 h) h.1 h.2) h

theorem wp_tree {id : Nat} {Q : Exit → Act → World → Prop} {a : Act} {w : World} {l : List Oper} (hX : (∀ w, X w w) ∧ (∀ a b c, X a b → X b c → X a c)) (z : Nat) (t : PT) (hm : P.follows .mixedOrders = true)
    (hp : (tOk .any l.toArray z t (Array.replicate l.toArray.size false) l.toArray.size && Region.noSelect l.toArray) = true)
    (h : wpT P l.toArray z X (fun a w => Q .normal a w) t a w.drew) : (Code.region id l.toArray true).wp P Q a w := by
  simp only [Bool.and_eq_true] at hp
  refine wp_region_any hm (any_of_anyE (z := z) (R := fun a w => Q .normal a w) (X := X) ?_ _ _ _ _ ?_)
  · intro e a w h
    cases e <;> first | exact h | exact h.elim
  · exact anyE_of_tree hX.1 hX.2 hp.2 t _ _ a _ hp.1 h
end
end Go.Proofs.Ytedpkficechjnaa.ET
