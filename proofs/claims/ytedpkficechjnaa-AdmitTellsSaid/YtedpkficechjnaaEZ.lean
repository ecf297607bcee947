/- Regions that draw their order, walked once along a plan, where several operations write what was there: whatever reads comes ahead of them. -/
import Derived.Test.YtedpkficechjnaaE
namespace Go.Proofs.Ytedpkficechjnaa.EZ
open Go.RowKit
open Go.Proofs.Ytedpkficechjnaa.E (QN YieldsX Ext Loads Blk)
set_option linter.unusedVariables false
set_option linter.unusedSimpArgs false
section
variable {P : Program} {ops : Array Oper} {md : Region.Mode} {X : World → World → Prop} {R : Act → World → Prop}
/-- Whatever order is picked from here on; each step, but those of numbers z, lets the world only grow. -/
def anyE (P : Program) (md : Region.Mode) (ops : Array Oper) (z : List Nat) (X : World → World → Prop) (R : Act → World → Prop) : Nat → Array Bool → Act → World → Prop
  | 0, listed, a, w => Region.ready md ops listed = [] ∧ R a w
  | fuel + 1, listed, a, w =>
    (Region.ready md ops listed = [] → R a w) ∧
    ∀ i ∈ Region.ready md ops listed, wpOp P ops (QN R) i (fun a' w' => (i ∉ z → X w w') ∧ anyE P md ops z X R fuel (listed.setIfInBounds i true) a' w') a w

theorem any_of_anyE {z : List Nat} {Q : Exit → Act → World → Prop} (hQ : ∀ e a w, QN R e a w → Q e a w) : ∀ (fuel : Nat) (listed : Array Bool) (a : Act) (w : World), anyE P md ops z X R fuel listed a w → wpAny P md ops Q fuel listed a w
  | 0, _, a, w, h => ⟨h.1, hQ .normal a w h.2⟩
  | fuel + 1, listed, a, w, h => ⟨fun h0 => hQ .normal a w (h.1 h0), fun i hi => by
      have h1 := h.2 i hi
      unfold wpOp at *
      split
      · rename_i ho; simp only [ho] at h1; exact any_of_anyE hQ fuel _ _ _ h1.2
      · rename_i o ho
        simp only [ho] at h1
        split
        · rename_i hw
          simp only [hw, if_true] at h1
          rcases h1 with h1 | ⟨_, a0, w0, h0⟩
          · refine .inl ?_
            unfold Oper.wp at *
            generalize (execOp a.eval o).run P w = r at *
            cases r with
            | ok n w' =>
              cases n <;> simp only [Oper.upon] at h1 ⊢
              case value u => exact any_of_anyE hQ fuel _ _ _ h1.2
              case skip => exact any_of_anyE hQ fuel _ _ _ h1.2
              case defer d => exact any_of_anyE hQ fuel _ _ _ h1.2
              case enter f args =>
                refine Calls.mono h1 fun e w'' he => ?_
                cases e with
                | returned u => exact any_of_anyE hQ fuel _ _ _ he.2
                | panicked c => exact he.elim
                | outgrown => obtain ⟨_, _, h0⟩ := he; exact h0.elim
              case row row args => exact Rows.mono h1 fun u w'' he => any_of_anyE hQ fuel _ _ _ he.2
            | halt x w' =>
              cases x <;> simp only [Oper.upon] at h1 ⊢
              exact h1.elim
          · exact h0.elim
        · rename_i hw
          simp only [hw] at h1
          exact any_of_anyE hQ fuel _ _ _ h1.2⟩

theorem anyE_first {z : List Nat} {Y : World → World → Prop} (hrefl : ∀ w, X w w) (hYr : ∀ w, Y w w) (ht : ∀ a b c, Y a b → Y b c → Y a c) (hXY : ∀ a b, X a b → Y a b) {i : Nat} {oi : Oper} {v : Value} (hi : ops[i]? = some oi) (hsel : ∀ (j : Nat) (o : Oper) cs b, ops[j]? = some o → o.op ≠ .select cs b)
    : ∀ (fuel : Nat) (listed : Array Bool) (a : Act) (w : World), ((∀ a b, Y a b) ∨ ∀ k ∈ z, listed.getD k true = false → ∀ oz, ops[k]? = some oz → ∃ e ∈ oz.after, Region.binds md e = true ∧ e.on = i) →
      (∀ j oj, ops[j]? = some oj → j ≠ i → listed.getD j true = false → (∀ e ∈ oj.after, Region.binds md e = true → e.on ≠ i) → oi.apart ops oj = true) →
      i ∈ Region.ready md ops listed → YieldsX P ops Y oi v a w →
      anyE P md ops z X R fuel (listed.setIfInBounds i true) (a.put oi.dst v) w → anyE P md ops z X R (fuel + 1) listed a w := by
  intro fuel
  induction fuel with
  | zero =>
    intro listed a w hz _ hr hy H
    refine ⟨fun h => (by rw [h] at hr; cases hr), fun j hj => ?_⟩
    by_cases hji : j = i
    · subst hji; exact hy.wpOp hYr hi ⟨fun _ => hrefl w, H⟩
    · have := ready_mono hj hji
      rw [H.1] at this
      cases this
  | succ fuel ih =>
    intro listed a w hz hfree hr hy H
    refine ⟨fun h => (by rw [h] at hr; cases hr), fun j hj => ?_⟩
    by_cases hji : j = i
    · subst hji; exact hy.wpOp hYr hi ⟨fun _ => hrefl w, H⟩
    · have h1 := H.2 j (ready_mono hj hji)
      obtain ⟨hjun, oj, hoj, hall⟩ := mem_ready.1 hj
      have hnot : ∀ e ∈ oj.after, Region.binds md e = true → e.on ≠ i := fun e he hb heq => by
        have h1 := hall e he hb
        have h0 := (mem_ready.1 hr).1
        rw [heq] at h1
        rcases Nat.lt_or_ge i listed.size with h' | h'
        · simp [h'] at h0 h1; rw [h0] at h1; cases h1
        · simp [Array.getElem?_eq_none h'] at h1
      have h2 := E.wpOp_putX hoj (hfree j oj hoj hji hjun hnot) (fun cs b => hsel i oi cs b hi) (fun cs b => hsel j oj cs b hoj) hy h1
      have hfree' : ∀ k ok, ops[k]? = some ok → k ≠ i → (listed.setIfInBounds j true).getD k true = false →
          (∀ e ∈ ok.after, Region.binds md e = true → e.on ≠ i) → oi.apart ops ok = true := fun k ok hk hki hun hno => by
        refine hfree k ok hk hki ?_ hno
        by_cases hjk : j = k
        · subst hjk; exact hjun
        · rw [getD_set_ne true hjk] at hun; exact hun
      refine wpOp_mono (fun a' w' h3 => ?_) h2
      obtain ⟨hy', hx0, h4⟩ := h3
      have hz' : (∀ a b, Y a b) ∨ ∀ k ∈ z, (listed.setIfInBounds j true).getD k true = false → ∀ oz, ops[k]? = some oz → ∃ e ∈ oz.after, Region.binds md e = true ∧ e.on = i := hz.imp id (fun hz k hk hun => by
        refine hz k hk ?_
        by_cases hjk : j = k
        · subst hjk; exact hjun
        · rw [getD_set_ne true hjk] at hun; exact hun)
      have hYw : Y w w' := by
        rcases hz with hz | hz
        · exact hz w w'
        · refine hXY _ _ (hx0 ?_)
          intro hm
          obtain ⟨e, he, hb, hon⟩ := hz j hm hjun oj hoj
          exact hnot e he hb hon
      refine ⟨hx0, ih (listed.setIfInBounds j true) a' w' hz' hfree' (ready_mono hr (Ne.symm hji)) (hy'.step ht hYw) ?_⟩
      rw [Array.setIfInBounds_comm _ _ hji]
      exact h4

/-- What a reading operation may lean on. -/
def lean (X : World → World → Prop) (ps : List Nat) (i : Nat) : World → World → Prop := if ps.contains i = true then fun _ _ => True else X
/-- A plan: the operations' numbers in the order of the walk; true: it only reads, and is taken first; false: nothing else may come up. -/
def waitB1 (md : Region.Mode) (ops : Array Oper) (z i : Nat) : Bool :=
  match ops[z]? with
  | none => true
  | some oz => oz.after.any fun e => Region.binds md e && e.on == i
def waitB (md : Region.Mode) (ops : Array Oper) (z : List Nat) (listed : Array Bool) (i : Nat) : Bool := z.all fun k => listed.getD k true || waitB1 md ops k i
def planOk (md : Region.Mode) (ops : Array Oper) (z ps : List Nat) : List (Nat × Bool) → Array Bool → Bool
  | [], listed => (Region.ready md ops listed).isEmpty
  | (i, true) :: p, listed => (ps.contains i || waitB md ops z listed i) && (Region.free md ops listed i && (Region.ready md ops listed).contains i && planOk md ops z ps p (listed.setIfInBounds i true))
  | (i, false) :: p, listed => (Region.ready md ops listed == [i]) && planOk md ops z ps p (listed.setIfInBounds i true)

def wpPlan (P : Program) (ops : Array Oper) (z ps : List Nat) (X : World → World → Prop) (R : Act → World → Prop) : List (Nat × Bool) → Act → World → Prop
  | [], a, w => R a w
  | (i, q) :: p, a, w =>
    match ops[i]? with
    | none => False
    | some o =>
      if q then ∃ v, YieldsX P ops (lean X ps i) o v a w ∧ wpPlan P ops z ps X R p (a.put o.dst v) w
      else wpOp P ops (QN R) i (fun a' w' => (i ∉ z → X w w') ∧ wpPlan P ops z ps X R p a' w') a w

theorem anyE_of_plan {z ps : List Nat} (hrefl : ∀ w, X w w) (ht : ∀ a b c, X a b → X b c → X a c) (hs : Region.noSelect ops = true) :
    ∀ (p : List (Nat × Bool)) (listed : Array Bool) (a : Act) (w : World), planOk md ops z ps p listed = true → wpPlan P ops z ps X R p a w → anyE P md ops z X R p.length listed a w := by
  intro p
  induction p with
  | nil =>
    intro listed a w hp h
    exact ⟨by simpa [planOk] using hp, h⟩
  | cons x p ih =>
    intro listed a w hp h
    obtain ⟨i, q⟩ := x
    simp only [wpPlan] at h
    cases ho : ops[i]? with
    | none => simp only [ho] at h
    | some o =>
      simp only [ho] at h
      cases q with
      | true =>
        simp only [if_true] at h
        simp only [planOk, Bool.and_eq_true] at hp
        obtain ⟨v, hy, h⟩ := h
        refine anyE_first (Y := lean X ps i) hrefl ?_ ?_ ?_ ho (Region.noSelect_spec hs) p.length listed a w ?_ (Region.free_spec ho hp.2.1.1) (by simpa using hp.2.1.2) hy (ih _ _ _ hp.2.2 h)
        · unfold lean; split
          · exact fun _ => trivial
          · exact hrefl
        · unfold lean; split
          · exact fun _ _ _ _ _ => trivial
          · exact ht
        · unfold lean; split
          · exact fun _ _ _ => trivial
          · exact fun _ _ h => h
        by_cases hpi : ps.contains i = true
        · left
          unfold lean
          rw [if_pos hpi]
          exact fun _ _ => trivial
        right
        intro k hk hun oz hoz
        have hp1 := hp.1
        rw [Bool.not_eq_true] at hpi
        rw [hpi, Bool.false_or] at hp1
        have h1 := List.all_eq_true.1 hp1 k hk
        rw [hun] at h1
        simp only [Bool.false_or, waitB1, hoz] at h1
        obtain ⟨e, he, hb⟩ := Array.any_eq_true'.1 h1
        simp only [Bool.and_eq_true, beq_iff_eq] at hb
        exact ⟨e, he, hb.1, hb.2⟩
      | false =>
        simp only [Bool.false_eq_true, if_false] at h
        simp only [planOk, Bool.and_eq_true, beq_iff_eq] at hp
        refine ⟨fun h0 => (by rw [hp.1] at h0; cases h0), fun j hj => ?_⟩
        rw [hp.1] at hj
        obtain rfl : j = i := by simpa using hj
        exact wpOp_mono (fun a' w' h' => ⟨h'.1, ih _ _ _ hp.2 h'.2⟩) h

/-- A region that draws its order, along a plan. -/
theorem wp_plan {id : Nat} {Q : Exit → Act → World → Prop} {a : Act} {w : World} {l : List Oper} (hX : (∀ w, X w w) ∧ (∀ a b c, X a b → X b c → X a c)) (z ps : List Nat) (p : List (Nat × Bool)) (hm : P.follows .mixedOrders = true)
    (hp : (planOk .any l.toArray z ps p (Array.replicate l.toArray.size false) && (p.length == l.toArray.size) && Region.noSelect l.toArray) = true)
    (h : wpPlan P l.toArray z ps X (fun a w => Q .normal a w) p a w.drew) : (Code.region id l.toArray true).wp P Q a w := by
  simp only [Bool.and_eq_true, beq_iff_eq] at hp
  refine wp_region_any hm (any_of_anyE (z := z) (R := fun a w => Q .normal a w) (X := X) ?_ _ _ _ _ ?_)
  · intro e a w h
    cases e <;> first | exact h | exact h.elim
  · have h1 := anyE_of_plan hX.1 hX.2 hp.2 p _ a _ hp.1.1 h
    rw [hp.1.2] at h1
    exact h1

/-! ### Steps -/
theorem plan_nil {z ps : List Nat} {a : Act} {w : World} (h : R a w) : wpPlan P ops z ps X R [] a w := h

/-- A reading operation that yields the same in whatever world. -/
theorem plan_pure {z ps : List Nat} {i : Nat} {p : List (Nat × Bool)} {a : Act} {w : World} {o : Oper} (ho : ops[i]? = some o) (hw : Region.wanted o (yielded ops a.tmps) = true)
    (h : ∀ K : Act → Prop, (∀ a, wpPlan P ops z ps X R p a w → K a) → ∃ v, (∀ w' : World, (execOp a.eval o).run P w' = .ok (.value v) w') ∧ K (a.put o.dst v)) :
    wpPlan P ops z ps X R ((i, true) :: p) a w := by
  obtain ⟨v, hv, h⟩ := h _ (fun _ h => h)
  simp only [wpPlan, ho, if_true]
  exact ⟨v, .inl ⟨hw, fun w' _ => hv w'⟩, h⟩

/-- .. that yields what it yields in every world that has grown from here. -/
theorem plan_at {z ps : List Nat} {i : Nat} {p : List (Nat × Bool)} {a : Act} {w : World} {o : Oper} (ho : ops[i]? = some o) (hw : Region.wanted o (yielded ops a.tmps) = true) (hp : ps.contains i = false)
    (h : ∀ K : Act → Prop, (∀ a, wpPlan P ops z ps X R p a w → K a) → ∃ v, (∀ w' : World, X w w' → (execOp a.eval o).run P w' = .ok (.value v) w') ∧ K (a.put o.dst v)) :
    wpPlan P ops z ps X R ((i, true) :: p) a w := by
  obtain ⟨v, hv, h⟩ := h _ (fun _ h => h)
  simp only [wpPlan, ho, if_true]
  refine ⟨v, .inl ⟨hw, ?_⟩, h⟩
  unfold lean
  rw [if_neg (by rw [hp]; decide)]
  exact hv

/-- An operation that is passed over. -/
theorem plan_skip {z ps : List Nat} {i : Nat} {q : Bool} {p : List (Nat × Bool)} {a : Act} {w : World} {o : Oper} (hX : X w w) (ho : ops[i]? = some o) (hw : Region.wanted o (yielded ops a.tmps) = false)
    (h : ∀ K : Act → Prop, (∀ a, wpPlan P ops z ps X R p a w → K a) → K (a.put o.dst undef)) :
    wpPlan P ops z ps X R ((i, q) :: p) a w := by
  have h := h _ (fun _ h => h)
  cases q with
  | true =>
    simp only [wpPlan, ho, if_true]
    exact ⟨undef, .inr ⟨hw, rfl⟩, h⟩
  | false =>
    simp only [wpPlan, ho, Bool.false_eq_true, if_false]
    unfold wpOp
    simp only [ho, hw, Bool.false_eq_true, if_false]
    exact ⟨fun _ => hX, h⟩

/-- An operation that makes memory, or calls. -/
theorem plan_eff {z ps : List Nat} {i : Nat} {p : List (Nat × Bool)} {a : Act} {w : World} {o : Oper} (ho : ops[i]? = some o) (hw : Region.wanted o (yielded ops a.tmps) = true)
    (h : ∀ K : Act → World → Prop, (∀ a w', X w w' → wpPlan P ops z ps X R p a w' → K a w') → o.wp P a w K (QN R)) :
    wpPlan P ops z ps X R ((i, false) :: p) a w := by
  have h := h (fun a' w' => (i ∉ z → X w w') ∧ wpPlan P ops z ps X R p a' w') (fun a w' h1 h2 => ⟨fun _ => h1, h2⟩)
  simp only [wpPlan, ho, Bool.false_eq_true, if_false]
  unfold wpOp
  simp only [ho, hw, if_true]
  exact .inl h

/-- An operation of the numbers z: it may write what was there. -/
theorem plan_last {z ps : List Nat} {i : Nat} {p : List (Nat × Bool)} {a : Act} {w : World} {o : Oper} (ho : ops[i]? = some o) (hw : Region.wanted o (yielded ops a.tmps) = true) (hi : i ∈ z)
    (h : ∀ K : Act → World → Prop, (∀ a w', wpPlan P ops z ps X R p a w' → K a w') → o.wp P a w K (QN R)) :
    wpPlan P ops z ps X R ((i, false) :: p) a w := by
  have h := h (fun a' w' => (i ∉ z → X w w') ∧ wpPlan P ops z ps X R p a' w') (fun a w' h2 => ⟨fun h => absurd hi h, h2⟩)
  simp only [wpPlan, ho, Bool.false_eq_true, if_false]
  unfold wpOp
  simp only [ho, hw, if_true]
  exact .inl h
end

/-- A load, by what it yields here. -/
theorem plan_load {P : Program} {ops : Array Oper} {R : Act → World → Prop} {z ps : List Nat} {i : Nat} {p : List (Nat × Bool)} {a : Act} {w : World} {o : Oper} {t : TypeId} {x : Operand} (ho : ops[i]? = some o) (hl : o.op = .load t x) (hw : Region.wanted o (yielded ops a.tmps) = true) (hp : ps.contains i = false)
    (h : ∀ K : Act → Prop, (∀ a, wpPlan P ops z ps Ext R p a w → K a) → ∃ v, (Instr.loadAt t (a.eval x)).run P w = .ok v w ∧ K (a.put o.dst v)) :
    wpPlan P ops z ps Ext R ((i, true) :: p) a w :=
  plan_at ho hw hp fun K hK => by
    obtain ⟨v, hv, h⟩ := h K hK
    refine ⟨v, fun w' hx => ?_, h⟩
    have := (E.loads_loadAt t (a.eval x)).run hx hv
    simp only [execOp, hl]
    simp [Sem.run_bind, this]

end Go.Proofs.Ytedpkficechjnaa.EZ
