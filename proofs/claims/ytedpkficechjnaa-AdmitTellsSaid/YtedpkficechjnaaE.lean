/- Regions that draw their order, walked once along a plan: what reads is taken first, what makes memory is forced; the world only grows. -/
import Derived.Orders
import Derived.Tactics2
import Derived.Below
import Derived.KernelRfl
import Derived.Deep.Draws
namespace Go.Proofs.Ytedpkficechjnaa.E
open Go.RowKit
set_option linter.unusedVariables false
set_option linter.unusedSimpArgs false

/-- The world has only grown. -/
def Ext (w w' : World) : Prop := Below w.heap.size w w'
theorem Ext.refl (w : World) : Ext w w := Below.refl _ _
theorem Ext.trans {a b c : World} (h : Ext a b) (k : Ext b c) : Ext a c :=
  ⟨k.os.trans h.os, k.tape.trans h.tape, k.output.trans h.output, Nat.le_trans h.size k.size, fun i hi => (k.block i (Nat.lt_of_lt_of_le hi h.size)).trans (h.block i hi)⟩

theorem Ext.then {a b c : World} (h : Ext a b) (k : Below a.heap.size b c) : Ext a c := Below.trans h k
theorem Ext.alloc (w : World) (o : Obj) : Ext w (w.alloc o) := (Below.refl _ _).alloc (Nat.le_refl _) o
theorem Ext.drew (w : World) : Ext w w.drew := (Below.refl _ _).drew
/-- What the walk is to know of a world that has grown: cells, marks, sizes. -/
theorem Ext.opens {w w' : World} (h : Ext w w') : (∀ b o, b < w.heap.size → w'.cell? ⟨b, o, none⟩ = w.cell? ⟨b, o, none⟩) ∧ (∀ b o, b < w.heap.size → w'.frozen? ⟨b, o, none⟩ = w.frozen? ⟨b, o, none⟩) ∧ (∀ x, x < w.heap.size → x < w'.heap.size) ∧ (∀ x n, x < w.heap.size → x < w'.heap.size + n) :=
  ⟨fun b o hb => h.cell (p := ⟨b, o, none⟩) hb, fun b o hb => h.frozen (p := ⟨b, o, none⟩) hb, fun x hx => Nat.lt_of_lt_of_le hx h.size, fun x n hx => Nat.lt_add_right n (Nat.lt_of_lt_of_le hx h.size)⟩

theorem cell_set (w : World) (a : Addr) (v : Value) (h : (w.cell? a).isSome = true) : (w.setCell a v).cell? a = some v := by
  obtain ⟨u, hu⟩ := Option.isSome_iff_exists.1 h
  exact World.cell?_setCell_same w a v hu
attribute [go_sem] cell_set

theorem Ext.setCell {w w' : World} (h : Ext w w') {p : Addr} (hp : w.heap.size ≤ p.block) (u : Value) : Ext w (w'.setCell p u) := Below.setCell h hp u
theorem Ext.drewN {w w' : World} (h : Ext w w') (n : Nat) : Ext w (w'.drewN n) := ⟨h.os, h.tape, h.output, h.size, h.block⟩

/-- The world has grown, and of what was there only blocks in S may have turned. -/
structure ExtS (S : Nat → Prop) (w w' : World) : Prop where
  os : w'.os = w.os
  tape : w'.tape = w.tape
  output : w'.output = w.output
  size : w.heap.size ≤ w'.heap.size
  block : ∀ k, k < w.heap.size → ¬ S k → w'.heap[k]? = w.heap[k]?
section
variable {S S' : Nat → Prop} {a b c w w' : World}
theorem ExtS.refl (S : Nat → Prop) (w : World) : ExtS S w w := ⟨rfl, rfl, rfl, Nat.le_refl _, fun _ _ _ => rfl⟩
theorem Ext.toS (h : Ext w w') (S : Nat → Prop) : ExtS S w w' := ⟨h.os, h.tape, h.output, h.size, fun k hk _ => h.block k hk⟩
theorem ExtS.trans (h : ExtS S a b) (k : ExtS S b c) : ExtS S a c :=
  ⟨k.os.trans h.os, k.tape.trans h.tape, k.output.trans h.output, Nat.le_trans h.size k.size, fun i hi hn => (k.block i (Nat.lt_of_lt_of_le hi h.size) hn).trans (h.block i hi hn)⟩
theorem ExtS.mono (h : ExtS S a b) (hS : ∀ k, k < a.heap.size → S k → S' k) : ExtS S' a b := ⟨h.os, h.tape, h.output, h.size, fun k hk hn => h.block k hk (fun hs => hn (hS k hk hs))⟩
theorem ExtS.set (h : ExtS S w w') {p : Addr} (hp : S p.block ∨ w.heap.size ≤ p.block) (u : Value) : ExtS S w (w'.setCell p u) :=
  ⟨h.os, h.tape, h.output, by simpa [World.setCell] using h.size, fun i hi hn => (Below.heap_setCell w' p u i (by
    rintro rfl
    rcases hp with hp | hp
    · exact hn hp
    · omega)).trans (h.block i hi hn)⟩
theorem Ext.thenS (h : Ext a b) (k : ExtS S b c) (hS : ∀ k, k < a.heap.size → ¬ S k) : Ext a c :=
  ⟨k.os.trans h.os, k.tape.trans h.tape, k.output.trans h.output, Nat.le_trans h.size k.size, fun i hi => (k.block i (Nat.lt_of_lt_of_le hi h.size) (hS i hi)).trans (h.block i hi)⟩
theorem ExtS.ext (h : ExtS (fun _ => False) w w') : Ext w w' := ⟨h.os, h.tape, h.output, h.size, fun k hk => h.block k hk (fun h => h)⟩
end

/-- Block g is just the cells cs, of element type t, none frozen. -/
def Blk (w : World) (g : Nat) (t : TypeId) (cs : Array Value) : Prop := w.heap[g]? = some (.cells cs t (0, 0))
section
variable {w w' : World} {g : Nat} {t : TypeId} {cs : Array Value}
theorem Blk.lt (h : Blk w g t cs) : g < w.heap.size := (Array.getElem?_eq_some_iff.1 h).1
theorem Blk.cell (h : Blk w g t cs) (i : Nat) : w.cell? ⟨g, i, none⟩ = cs[i]? := by
  unfold Blk at h
  simp [World.cell?, h]
theorem Blk.frozen (h : Blk w g t cs) (i : Nat) : w.frozen? ⟨g, i, none⟩ = false := by
  unfold Blk at h
  simp [World.frozen?, h]
theorem Blk.facts (h : Blk w g t cs) : (∀ i, w.cell? ⟨g, i, none⟩ = cs[i]?) ∧ (∀ i, w.frozen? ⟨g, i, none⟩ = false) := ⟨h.cell, h.frozen⟩
theorem Blk.new (w : World) (t : TypeId) (cs : Array Value) : Blk (w.alloc (.cells cs t)) w.heap.size t cs := heap_alloc_new w _
theorem Blk.drew (h : Blk w g t cs) : Blk w.drew g t cs := h
theorem Blk.drewN (h : Blk w g t cs) (n : Nat) : Blk (w.drewN n) g t cs := h
theorem Blk.ext (h : Blk w g t cs) (hx : Ext w w') : Blk w' g t cs := (hx.block g h.lt).trans h
theorem Blk.extS {S : Nat → Prop} (h : Blk w g t cs) (hx : ExtS S w w') (hS : ¬ S g) : Blk w' g t cs := (hx.block g h.lt hS).trans h
theorem Blk.ne {g' : Nat} {t' : TypeId} {cs' : Array Value} (h : Blk w g t cs) (h' : Blk w g' t' cs') (ht : t ≠ t') : g ≠ g' := by
  rintro rfl
  unfold Blk at h h'
  rw [h] at h'
  injection h' with h'
  injection h' with _ h'
  exact ht h'
theorem Blk.alloc (h : Blk w g t cs) (o : Obj) : Blk (w.alloc o) g t cs := h.ext (Ext.alloc w o)
theorem Blk.set (h : Blk w g t cs) (i : Nat) (u : Value) : Blk (w.setCell ⟨g, i, none⟩ u) g t (cs.setIfInBounds i u) := by
  unfold Blk at h ⊢
  simp [World.setCell, Array.getElem?_modify, h]
theorem Blk.far (h : Blk w g t cs) {p : Addr} (hp : g ≠ p.block) (u : Value) : Blk (w.setCell p u) g t cs := (Below.heap_setCell w p u g hp).trans h
theorem Blk.below {B : Nat} (h : Blk w g t cs) (hb : Below B w w') (hg : g < B) : Blk w' g t cs := (hb.block g hg).trans h
theorem Blk.grown {row : Option Nat} (h : Blk w g t cs) (hb : w.grownBy w' row) (hg : some g ≠ row) : Blk w' g t cs := (hb.block g h.lt hg).trans h
/-- The last block laid, behind a growth; the one before; .. -/
theorem blk0 {a : World} {W : World} (hx : Ext W w') (hW : W.heap = (a.alloc (.cells cs t)).heap) : Blk w' a.heap.size t cs :=
  Blk.ext (w := W) (by unfold Blk; rw [hW]; exact heap_alloc_new a _) hx
theorem blk1 {a : World} {W : World} {o1 : Obj} (hx : Ext W w') (hW : W.heap = ((a.alloc (.cells cs t)).alloc o1).heap) : Blk w' a.heap.size t cs :=
  Blk.ext (w := W) (by unfold Blk; rw [hW]; exact (Blk.new a t cs).alloc o1) hx
theorem blk2 {a : World} {W : World} {o1 o2 : Obj} (hx : Ext W w') (hW : W.heap = (((a.alloc (.cells cs t)).alloc o1).alloc o2).heap) : Blk w' a.heap.size t cs :=
  Blk.ext (w := W) (by unfold Blk; rw [hW]; exact ((Blk.new a t cs).alloc o1).alloc o2) hx
theorem blk3 {a : World} {W : World} {o1 o2 o3 : Obj} (hx : Ext W w') (hW : W.heap = ((((a.alloc (.cells cs t)).alloc o1).alloc o2).alloc o3).heap) : Blk w' a.heap.size t cs :=
  Blk.ext (w := W) (by unfold Blk; rw [hW]; exact (((Blk.new a t cs).alloc o1).alloc o2).alloc o3) hx
end

/-- The normal end alone. -/
def QN (R : Act → World → Prop) : Exit → Act → World → Prop
  | .normal, a, w => R a w
  | _, _, _ => False

section
variable {P : Program} {ops : Array Oper} {md : Region.Mode} {X : World → World → Prop} {R : Act → World → Prop}

def YieldsX (P : Program) (ops : Array Oper) (X : World → World → Prop) (o : Oper) (v : Value) (a : Act) (w : World) : Prop :=
  (Region.wanted o (yielded ops a.tmps) = true ∧ ∀ w', X w w' → (execOp a.eval o).run P w' = .ok (.value v) w') ∨
  (Region.wanted o (yielded ops a.tmps) = false ∧ v = undef)

theorem YieldsX.step (ht : ∀ a b c, X a b → X b c → X a c) {o : Oper} {v : Value} {a : Act} {w w1 : World} (hy : YieldsX P ops X o v a w) (h : X w w1) : YieldsX P ops X o v a w1 :=
  hy.imp (fun ⟨hw, hv⟩ => ⟨hw, fun w' h' => hv w' (ht _ _ _ h h')⟩) id

theorem YieldsX.of_same {o : Oper} {v : Value} {a a' : Act} {w : World} (hy : YieldsX P ops X o v a w) (he : execOp a'.eval o = execOp a.eval o)
    (hw : Region.wanted o (yielded ops a'.tmps) = Region.wanted o (yielded ops a.tmps)) : YieldsX P ops X o v a' w := by
  unfold YieldsX at *
  rw [he, hw]
  exact hy

/-- Whatever order is picked from here on; each step, but that of number z, lets the world only grow. -/
def anyE (P : Program) (md : Region.Mode) (ops : Array Oper) (z : Nat) (X : World → World → Prop) (R : Act → World → Prop) : Nat → Array Bool → Act → World → Prop
  | 0, listed, a, w => Region.ready md ops listed = [] ∧ R a w
  | fuel + 1, listed, a, w =>
    (Region.ready md ops listed = [] → R a w) ∧
    ∀ i ∈ Region.ready md ops listed, wpOp P ops (QN R) i (fun a' w' => (i ≠ z → X w w') ∧ anyE P md ops z X R fuel (listed.setIfInBounds i true) a' w') a w

theorem any_of_anyE {z : Nat} {Q : Exit → Act → World → Prop} (hQ : ∀ e a w, QN R e a w → Q e a w) : ∀ (fuel : Nat) (listed : Array Bool) (a : Act) (w : World), anyE P md ops z X R fuel listed a w → wpAny P md ops Q fuel listed a w
  | 0, _, a, w, h => ⟨h.1, hQ .normal a w h.2⟩
  | fuel + 1, listed, a, w, h => ⟨fun h0 => hQ .normal a w (h.1 h0), fun i hi => by
      have h1 := h.2 i hi
      unfold wpOp at *
      split
      · rename_i ho; simp only [ho] at h1; exact any_of_anyE hQ fuel _ _ _ h1.2
      · rename_i o ho
        simp only [ho] at h1
        split
        · rename_i hw
          simp only [hw, if_true] at h1
          rcases h1 with h1 | ⟨_, a0, w0, h0⟩
          · refine .inl ?_
            unfold Oper.wp at *
            generalize (execOp a.eval o).run P w = r at *
            cases r with
            | ok n w' =>
              cases n <;> simp only [Oper.upon] at h1 ⊢
              case value u => exact any_of_anyE hQ fuel _ _ _ h1.2
              case skip => exact any_of_anyE hQ fuel _ _ _ h1.2
              case defer d => exact any_of_anyE hQ fuel _ _ _ h1.2
              case enter f args =>
                refine Calls.mono h1 fun e w'' he => ?_
                cases e with
                | returned u => exact any_of_anyE hQ fuel _ _ _ he.2
                | panicked c => exact he.elim
                | outgrown => obtain ⟨_, _, h0⟩ := he; exact h0.elim
              case row row args => exact Rows.mono h1 fun u w'' he => any_of_anyE hQ fuel _ _ _ he.2
            | halt x w' =>
              cases x <;> simp only [Oper.upon] at h1 ⊢
              exact h1.elim
          · exact h0.elim
        · rename_i hw
          simp only [hw] at h1
          exact any_of_anyE hQ fuel _ _ _ h1.2⟩

theorem YieldsX.wpOp (hrefl : ∀ w, X w w) {i : Nat} {o : Oper} {v : Value} {a : Act} {w : World} (hi : ops[i]? = some o) (hy : YieldsX P ops X o v a w)
    {K : Act → World → Prop} {Q : Exit → Act → World → Prop} (h : K (a.put o.dst v) w) : wpOp P ops Q i K a w := by
  unfold Go.wpOp
  simp only [hi]
  rcases hy with ⟨hw, hv⟩ | ⟨hw, rfl⟩
  · simp only [hw, if_true, Oper.wp, hv w (hrefl w), Oper.upon]; exact .inl h
  · simp only [hw, Bool.false_eq_true, if_false]; exact h

theorem wpOp_putX {j : Nat} {oi oj : Oper} {v : Value} (hj : ops[j]? = some oj) (hap : oi.apart ops oj = true)
    (hsi : ∀ cs b, oi.op ≠ .select cs b) (hsj : ∀ cs b, oj.op ≠ .select cs b)
    {K : Act → World → Prop} {a : Act} {w : World}
    (hy : YieldsX P ops X oi v a w) (h : wpOp P ops (QN R) j K (a.put oi.dst v) w) :
    wpOp P ops (QN R) j (fun a' w' => YieldsX P ops X oi v a' w ∧ K (a'.put oi.dst v) w') a w := by
  obtain ⟨h1, h2, h3⟩ := Oper.apart_spec hap
  have keep : ∀ (a : Act), YieldsX P ops X oi v a w → ∀ u, YieldsX P ops X oi v (a.put oj.dst u) w := fun a hy u =>
    hy.of_same (execOp_put oi hsi a oj.dst u h3) (wanted_put oi a oj.dst u h3)
  have keepD : ∀ d, YieldsX P ops X oi v { a with defers := d :: a.defers } w := fun d => hy.of_same rfl rfl
  unfold wpOp at *
  simp only [hj] at *
  rw [wanted_put oj a oi.dst v h1] at h
  split
  · rename_i hw
    simp only [hw, if_true] at h
    rcases h with h | ⟨hasks, hlets⟩
    case inr => exact .inr ⟨by unfold Oper.asks at *; rw [execOp_put oj hsj a oi.dst v h1] at hasks; exact hasks, hlets⟩
    refine .inl ?_
    unfold Oper.wp at *
    rw [execOp_put oj hsj a oi.dst v h1] at h
    generalize (execOp a.eval oj).run P w = r at *
    cases r with
    | ok n w' =>
      cases n <;> simp only [Oper.upon] at h ⊢
      case value u => exact ⟨keep a hy u, by rw [← Act.put_comm a v u h2]; exact h⟩
      case skip => exact ⟨keep a hy _, by rw [← Act.put_comm a v undef h2]; exact h⟩
      case defer d =>
        refine ⟨keep _ (keepD d) _, ?_⟩
        rw [← Act.put_comm _ v undef h2, ← Act.put_defers]
        exact h
      case enter f args =>
        refine Calls.mono h fun e w'' he => ?_
        cases e with
        | returned u => exact ⟨keep a hy u, by rw [← Act.put_comm a v u h2]; exact he⟩
        | panicked c => exact he.elim
        | outgrown => exact he
      case row row args => exact Rows.mono h fun u w'' he => ⟨keep a hy u, by rw [← Act.put_comm a v u h2]; exact he⟩
    | halt x w' =>
      cases x <;> simp only [Oper.upon] at h ⊢
      exact h.elim
  · rename_i hw
    simp only [hw] at h
    exact ⟨keep a hy _, by rw [← Act.put_comm a v undef h2]; exact h⟩

theorem anyE_first {z : Nat} (hrefl : ∀ w, X w w) (ht : ∀ a b c, X a b → X b c → X a c) {i : Nat} {oi : Oper} {v : Value} (hi : ops[i]? = some oi) (hsel : ∀ (j : Nat) (o : Oper) cs b, ops[j]? = some o → o.op ≠ .select cs b)
    (hz : ∀ oz, ops[z]? = some oz → ∃ e ∈ oz.after, Region.binds md e = true ∧ e.on = i) :
    ∀ (fuel : Nat) (listed : Array Bool) (a : Act) (w : World),
      (∀ j oj, ops[j]? = some oj → j ≠ i → listed.getD j true = false → (∀ e ∈ oj.after, Region.binds md e = true → e.on ≠ i) → oi.apart ops oj = true) →
      i ∈ Region.ready md ops listed → YieldsX P ops X oi v a w →
      anyE P md ops z X R fuel (listed.setIfInBounds i true) (a.put oi.dst v) w → anyE P md ops z X R (fuel + 1) listed a w := by
  intro fuel
  induction fuel with
  | zero =>
    intro listed a w _ hr hy H
    refine ⟨fun h => (by rw [h] at hr; cases hr), fun j hj => ?_⟩
    by_cases hji : j = i
    · subst hji; exact hy.wpOp hrefl hi ⟨fun _ => hrefl w, H⟩
    · have := ready_mono hj hji
      rw [H.1] at this
      cases this
  | succ fuel ih =>
    intro listed a w hfree hr hy H
    refine ⟨fun h => (by rw [h] at hr; cases hr), fun j hj => ?_⟩
    by_cases hji : j = i
    · subst hji; exact hy.wpOp hrefl hi ⟨fun _ => hrefl w, H⟩
    · have h1 := H.2 j (ready_mono hj hji)
      obtain ⟨hjun, oj, hoj, hall⟩ := mem_ready.1 hj
      have hnot : ∀ e ∈ oj.after, Region.binds md e = true → e.on ≠ i := fun e he hb heq => by
        have h1 := hall e he hb
        have h0 := (mem_ready.1 hr).1
        rw [heq] at h1
        rcases Nat.lt_or_ge i listed.size with h' | h'
        · simp [h'] at h0 h1; rw [h0] at h1; cases h1
        · simp [Array.getElem?_eq_none h'] at h1
      have h2 := wpOp_putX hoj (hfree j oj hoj hji hjun hnot) (fun cs b => hsel i oi cs b hi) (fun cs b => hsel j oj cs b hoj) hy h1
      have hfree' : ∀ k ok, ops[k]? = some ok → k ≠ i → (listed.setIfInBounds j true).getD k true = false →
          (∀ e ∈ ok.after, Region.binds md e = true → e.on ≠ i) → oi.apart ops ok = true := fun k ok hk hki hun hno => by
        refine hfree k ok hk hki ?_ hno
        by_cases hjk : j = k
        · subst hjk; exact hjun
        · rw [getD_set_ne true hjk] at hun; exact hun
      refine wpOp_mono (fun a' w' h3 => ?_) h2
      obtain ⟨hy', hx0, h4⟩ := h3
      have hjz : j ≠ z := by
        rintro rfl
        obtain ⟨e, he, hb, hon⟩ := hz oj hoj
        exact hnot e he hb hon
      have hx := hx0 hjz
      refine ⟨fun _ => hx, ih (listed.setIfInBounds j true) a' w' hfree' (ready_mono hr (Ne.symm hji)) (hy'.step ht hx) ?_⟩
      rw [Array.setIfInBounds_comm _ _ hji]
      exact h4

/-- A plan: the operations' numbers in the order of the walk; true: it only reads, and is taken first; false: nothing else may come up. -/
def waitB (md : Region.Mode) (ops : Array Oper) (z i : Nat) : Bool :=
  match ops[z]? with
  | none => true
  | some oz => oz.after.any fun e => Region.binds md e && e.on == i
def planOk (md : Region.Mode) (ops : Array Oper) (z : Nat) : List (Nat × Bool) → Array Bool → Bool
  | [], listed => (Region.ready md ops listed).isEmpty
  | (i, true) :: p, listed => waitB md ops z i && (Region.free md ops listed i && (Region.ready md ops listed).contains i && planOk md ops z p (listed.setIfInBounds i true))
  | (i, false) :: p, listed => (Region.ready md ops listed == [i]) && planOk md ops z p (listed.setIfInBounds i true)

def wpPlan (P : Program) (ops : Array Oper) (z : Nat) (X : World → World → Prop) (R : Act → World → Prop) : List (Nat × Bool) → Act → World → Prop
  | [], a, w => R a w
  | (i, q) :: p, a, w =>
    match ops[i]? with
    | none => False
    | some o =>
      if q then ∃ v, YieldsX P ops X o v a w ∧ wpPlan P ops z X R p (a.put o.dst v) w
      else wpOp P ops (QN R) i (fun a' w' => (i ≠ z → X w w') ∧ wpPlan P ops z X R p a' w') a w

theorem anyE_of_plan {z : Nat} (hrefl : ∀ w, X w w) (ht : ∀ a b c, X a b → X b c → X a c) (hs : Region.noSelect ops = true) :
    ∀ (p : List (Nat × Bool)) (listed : Array Bool) (a : Act) (w : World), planOk md ops z p listed = true → wpPlan P ops z X R p a w → anyE P md ops z X R p.length listed a w := by
  intro p
  induction p with
  | nil =>
    intro listed a w hp h
    exact ⟨by simpa [planOk] using hp, h⟩
  | cons x p ih =>
    intro listed a w hp h
    obtain ⟨i, q⟩ := x
    simp only [wpPlan] at h
    cases ho : ops[i]? with
    | none => simp only [ho] at h
    | some o =>
      simp only [ho] at h
      cases q with
      | true =>
        simp only [if_true] at h
        simp only [planOk, Bool.and_eq_true] at hp
        obtain ⟨v, hy, h⟩ := h
        refine anyE_first hrefl ht ho (Region.noSelect_spec hs) (fun oz hoz => ?_) p.length listed a w (Region.free_spec ho hp.2.1.1) (by simpa using hp.2.1.2) hy (ih _ _ _ hp.2.2 h)
        have h1 := hp.1
        simp only [waitB, hoz] at h1
        obtain ⟨e, he, hb⟩ := Array.any_eq_true'.1 h1
        simp only [Bool.and_eq_true, beq_iff_eq] at hb
        exact ⟨e, he, hb.1, hb.2⟩
      | false =>
        simp only [Bool.false_eq_true, if_false] at h
        simp only [planOk, Bool.and_eq_true, beq_iff_eq] at hp
        refine ⟨fun h0 => (by rw [hp.1] at h0; cases h0), fun j hj => ?_⟩
        rw [hp.1] at hj
        obtain rfl : j = i := by simpa using hj
        exact wpOp_mono (fun a' w' h' => ⟨h'.1, ih _ _ _ hp.2 h'.2⟩) h

/-- A region that draws its order, along a plan. -/
theorem wp_plan {id : Nat} {Q : Exit → Act → World → Prop} {a : Act} {w : World} {l : List Oper} (hX : (∀ w, X w w) ∧ (∀ a b c, X a b → X b c → X a c)) (z : Nat) (p : List (Nat × Bool)) (hm : P.follows .mixedOrders = true)
    (hp : (planOk .any l.toArray z p (Array.replicate l.toArray.size false) && (p.length == l.toArray.size) && Region.noSelect l.toArray) = true)
    (h : wpPlan P l.toArray z X (fun a w => Q .normal a w) p a w.drew) : (Code.region id l.toArray true).wp P Q a w := by
  simp only [Bool.and_eq_true, beq_iff_eq] at hp
  refine wp_region_any hm (any_of_anyE (z := z) (R := fun a w => Q .normal a w) (X := X) ?_ _ _ _ _ ?_)
  · intro e a w h
    cases e <;> first | exact h | exact h.elim
  · have h1 := anyE_of_plan hX.1 hX.2 hp.2 p _ a _ hp.1.1 h
    rw [hp.1.2] at h1
    exact h1

/-! ### Steps -/
theorem plan_nil {z : Nat} {a : Act} {w : World} (h : R a w) : wpPlan P ops z X R [] a w := h

/-- A reading operation that yields the same in whatever world. -/
theorem plan_pure {z i : Nat} {p : List (Nat × Bool)} {a : Act} {w : World} {o : Oper} (ho : ops[i]? = some o) (hw : Region.wanted o (yielded ops a.tmps) = true)
    (h : ∀ K : Act → Prop, (∀ a, wpPlan P ops z X R p a w → K a) → ∃ v, (∀ w' : World, (execOp a.eval o).run P w' = .ok (.value v) w') ∧ K (a.put o.dst v)) :
    wpPlan P ops z X R ((i, true) :: p) a w := by
  obtain ⟨v, hv, h⟩ := h _ (fun _ h => h)
  simp only [wpPlan, ho, if_true]
  exact ⟨v, .inl ⟨hw, fun w' _ => hv w'⟩, h⟩

/-- .. that yields what it yields in every world that has grown from here. -/
theorem plan_at {z i : Nat} {p : List (Nat × Bool)} {a : Act} {w : World} {o : Oper} (ho : ops[i]? = some o) (hw : Region.wanted o (yielded ops a.tmps) = true)
    (h : ∀ K : Act → Prop, (∀ a, wpPlan P ops z X R p a w → K a) → ∃ v, (∀ w' : World, X w w' → (execOp a.eval o).run P w' = .ok (.value v) w') ∧ K (a.put o.dst v)) :
    wpPlan P ops z X R ((i, true) :: p) a w := by
  obtain ⟨v, hv, h⟩ := h _ (fun _ h => h)
  simp only [wpPlan, ho, if_true]
  exact ⟨v, .inl ⟨hw, hv⟩, h⟩

/-- An operation that is passed over. -/
theorem plan_skip {z i : Nat} {q : Bool} {p : List (Nat × Bool)} {a : Act} {w : World} {o : Oper} (hX : X w w) (ho : ops[i]? = some o) (hw : Region.wanted o (yielded ops a.tmps) = false)
    (h : ∀ K : Act → Prop, (∀ a, wpPlan P ops z X R p a w → K a) → K (a.put o.dst undef)) :
    wpPlan P ops z X R ((i, q) :: p) a w := by
  have h := h _ (fun _ h => h)
  cases q with
  | true =>
    simp only [wpPlan, ho, if_true]
    exact ⟨undef, .inr ⟨hw, rfl⟩, h⟩
  | false =>
    simp only [wpPlan, ho, Bool.false_eq_true, if_false]
    unfold wpOp
    simp only [ho, hw, Bool.false_eq_true, if_false]
    exact ⟨fun _ => hX, h⟩

/-- An operation that makes memory, or calls. -/
theorem plan_eff {z i : Nat} {p : List (Nat × Bool)} {a : Act} {w : World} {o : Oper} (ho : ops[i]? = some o) (hw : Region.wanted o (yielded ops a.tmps) = true)
    (h : ∀ K : Act → World → Prop, (∀ a w', X w w' → wpPlan P ops z X R p a w' → K a w') → o.wp P a w K (QN R)) :
    wpPlan P ops z X R ((i, false) :: p) a w := by
  have h := h (fun a' w' => (i ≠ z → X w w') ∧ wpPlan P ops z X R p a' w') (fun a w' h1 h2 => ⟨fun _ => h1, h2⟩)
  simp only [wpPlan, ho, Bool.false_eq_true, if_false]
  unfold wpOp
  simp only [ho, hw, if_true]
  exact .inl h

/-- The operation of number z: it may write what was there. -/
theorem plan_last {z : Nat} {p : List (Nat × Bool)} {a : Act} {w : World} {o : Oper} (ho : ops[z]? = some o) (hw : Region.wanted o (yielded ops a.tmps) = true)
    (h : ∀ K : Act → World → Prop, (∀ a w', wpPlan P ops z X R p a w' → K a w') → o.wp P a w K (QN R)) :
    wpPlan P ops z X R ((z, false) :: p) a w := by
  have h := h (fun a' w' => (z ≠ z → X w w') ∧ wpPlan P ops z X R p a' w') (fun a w' h2 => ⟨fun h => absurd rfl h, h2⟩)
  simp only [wpPlan, ho, Bool.false_eq_true, if_false]
  unfold wpOp
  simp only [ho, hw, if_true]
  exact .inl h
end

/-! ### What is loaded stays -/
theorem far_ext {P : Program} {w w' : World} {a : Addr} {b : Bool} {r : Value × List Addr} (hx : Ext w w') (h : w.farLoad P a b = .ok r) : w'.farLoad P a b = .ok r := by
  unfold World.farLoad at *
  cases hb : w.heap[a.block]? with
  | none => simp [hb] at h
  | some o =>
    have hlt : a.block < w.heap.size := (Array.getElem?_eq_some_iff.1 hb).1
    rw [hx.block _ hlt, hb]
    cases o <;> simp only [hb] at h ⊢ <;> try (simp at h; done)
    rename_i at_ u
    have hs : ∀ k, w.seen P at_ u k b = .error (match w.seen P at_ u k b with | .error e => e | .ok _ => "") ∨ w'.heap[at_.block]? = w.heap[at_.block]? := by
      intro k
      by_cases hl : at_.block < w.heap.size
      · exact .inr (hx.block _ hl)
      · refine .inl ?_
        have hn : w.heap[at_.block]? = none := Array.getElem?_eq_none (by omega)
        cases hse : w.seen P at_ u k b with
        | error e => rfl
        | ok v =>
          exfalso
          revert hse
          simp only [World.seen, hn, bind, Except.bind, pure, Except.pure, throw, throwThe, MonadExceptOf.throw]
          repeat' split
          all_goals (intro hh; first | cases hh | simp at hh)
    rcases hs a with he | he
    · exfalso
      revert h
      simp only [World.viewLoad, bind, Except.bind]
      rw [he]
      simp
    · have : w'.viewLoad P at_ u a b = w.viewLoad P at_ u a b := by
        unfold World.viewLoad World.seen
        rw [he]
      rw [this]
      exact h

inductive Loads {α : Type} : Sem α → Prop
  | pure (a : α) : Loads (.pure a)
  | load (m : Mode) (a : Addr) (k : Value → Sem α) : (∀ v, Loads (k v)) → Loads (.load m a k)
  | program (k : Program → Sem α) : (∀ p, Loads (k p)) → Loads (.program k)
  | halt (h : Halt) : Loads (.halt h)

theorem Loads.bind {α β : Type} {s : Sem α} {f : α → Sem β} (hs : Loads s) (hf : ∀ a, Loads (f a)) : Loads (s >>= f) := by
  show Loads (s.bind f)
  induction hs with
  | pure a => exact hf a
  | load m a k _ ih => exact .load m a _ ih
  | program k _ ih => exact .program _ ih
  | halt h => exact .halt h

theorem Loads.run {α : Type} {P : Program} {s : Sem α} (hs : Loads s) {w w' w1 : World} {v : α} (hx : Ext w w') (h : s.run P w = .ok v w1) : s.run P w' = .ok v w' := by
  induction hs with
  | pure a => simp only [Sem.run] at h ⊢; injection h with h1 h2; rw [h1]
  | load m a k _ ih =>
    simp only [Sem.run] at h ⊢
    cases hc : w.cell? a with
    | some u =>
      simp only [hc] at h
      have hlt := World.block_lt_of_cell? w a hc
      rw [World.cell?_of_block (hx.block _ hlt), hc]
      exact ih u h
    | none =>
      simp only [hc] at h
      split at h
      · rename_i u t hf
        have hfar := far_ext hx hf
        have hc' : w'.cell? a = none := by
          have hb : a.block < w.heap.size := by
            unfold World.farLoad at hf
            cases hb : w.heap[a.block]? with
            | none => simp [hb] at hf
            | some o => exact (Array.getElem?_eq_some_iff.1 hb).1
          rw [World.cell?_of_block (hx.block _ hb), hc]
        rw [hc']
        simp only [hfar]
        exact ih u h
      · cases h
  | program k _ ih => exact ih P h
  | halt x => simp only [Sem.run] at h; cases h

theorem loads_cellsFrom (a : Addr) : ∀ (n i : Nat) (acc : Array Value), Loads (loadCellsFrom a i n acc)
  | 0, _, acc => .pure acc
  | n + 1, i, acc => Loads.bind (.load _ _ _ fun v => .pure v) fun v => loads_cellsFrom a n (i + 1) _

theorem loads_loadAt (t : TypeId) (x : Value) : Loads (Instr.loadAt t x) := by
  unfold Instr.loadAt
  refine Loads.bind ?_ fun a => ?_
  · unfold Instr.sureAddr
    split
    · exact .pure _
    · exact .halt _
  · unfold loadVar
    refine Loads.bind ?_ fun b => ?_
    · unfold isAgg
      repeat' first
        | exact .pure _
        | exact .halt _
        | exact .program _ fun _ => .pure _
        | (refine Loads.bind ?_ fun _ => ?_)
        | (unfold underlying)
        | (unfold typeInfo)
        | (unfold program)
        | split
    · split
      · refine Loads.bind ?_ fun n => Loads.bind (loads_cellsFrom a n 0 _) fun c => .pure _
        unfold sizeOf
        repeat' first
          | exact .pure _
          | exact .halt _
          | exact .program _ fun _ => .pure _
          | (refine Loads.bind ?_ fun _ => ?_)
          | (unfold typeInfo)
          | (unfold program)
          | split
      · exact .load _ _ _ fun v => .pure v

/-- A load, by what it yields here. -/
theorem plan_load {P : Program} {ops : Array Oper} {R : Act → World → Prop} {z i : Nat} {p : List (Nat × Bool)} {a : Act} {w : World} {o : Oper} {t : TypeId} {x : Operand} (ho : ops[i]? = some o) (hl : o.op = .load t x) (hw : Region.wanted o (yielded ops a.tmps) = true)
    (h : ∀ K : Act → Prop, (∀ a, wpPlan P ops z Ext R p a w → K a) → ∃ v, (Instr.loadAt t (a.eval x)).run P w = .ok v w ∧ K (a.put o.dst v)) :
    wpPlan P ops z Ext R ((i, true) :: p) a w :=
  plan_at ho hw fun K hK => by
    obtain ⟨v, hv, h⟩ := h K hK
    refine ⟨v, fun w' hx => ?_, h⟩
    have := (loads_loadAt t (a.eval x)).run hx hv
    simp only [execOp, hl]
    simp [Sem.run_bind, this]

theorem ext_pre : (∀ w, Ext w w) ∧ (∀ a b c, Ext a b → Ext b c → Ext a c) := ⟨Ext.refl, fun _ _ _ => Ext.trans⟩
end Go.Proofs.Ytedpkficechjnaa.E
