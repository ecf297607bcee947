/- AdmitClears: for every setup and shelf the law returns true, and its arguments read as they did; no condition. -/
import Derived.Test.YtedpkficechjnaaRows
import Derived.Test.YtedpkficechjnaaBF
import Derived.Test.YtedpkficechjnaaBH
namespace Go.Proofs.Ytedpkficechjnaa.AdmitClears
open Go.ChangeShapes Go.WideShapes Go.ChangeAt Go.RowKit
open Go.Proofs.Ytedpkficechjnaa
set_option linter.unusedVariables false
set_option linter.unusedSimpArgs false

theorem own : ownKnob Try.prog.godebug = none := by kernel_rfl
theorem laidOut : laidOutB Try.prog = true := by kernel_rfl

set_option maxRecDepth 100000 in
theorem lifted (os : Os) (started : os.Started) (H : Type) (enc : TypeId × Value → H) :
    ReturnsInHanded {} Try.checked os 6 .any (Rows.admitClearsSpec.pre6 enc Try.prog Try.f6 Rows.admitClearsRow.domain false) (Rows.admitClearsSpec.post enc Try.prog Try.f6 false true false false) := by
  refine returnsInHanded_of_change (C := Try.checked) own started (by kernel_rfl) Try.func6
    (ChangeSpec.witness6 (enc := enc) (C := Try.checked) false ⟨#[], #[.agg #[.int .i64 0, .int .i64 0, .int .i64 0, .int .i64 0, .int .i64 0], .agg #[.int .i64 0, .slice none 0 0, .int .i64 0]], []⟩ 8 (by kernel_rfl) (by kernel_rfl) (by kernel_rfl) (by kernel_rfl)) ?_
  intro W base args ds gs before hval0 hW hcnd _
  have hval : ∀ (j : Nat) t v, Try.f6.params[j]? = some t → args[j]? = some v → Value.okWide Try.prog W .any base t v := hval0
  have hW' := hW
  obtain ⟨p, q, hA0, hV, rfl, hfz, hnd⟩ := hW
  have hA : DataW.TrodAll enc Try.prog W 0 (fun _ => true) true Try.f6.params.toList args.toList ds p := hA0
  rw [Try.params6] at hA hval
  obtain ⟨v0, vs0, d0, ds0, p0, q0, hargs, rfl, rfl, h0, r0⟩ := trodAll_cons hA
  obtain ⟨v1, vs1, d1, ds1, p1, q1, rfl, rfl, rfl, h1, r1⟩ := trodAll_cons r0
  obtain ⟨rfl, rfl, rfl⟩ := trodAll_nil r1
  obtain rfl : args = #[v0, v1] := by cases args; simp_all
  obtain ⟨rfl, rfl⟩ := trodVars_none hV
  have k0 := h0
  have k1 := h1
  obtain ⟨s, rfl⟩ := BF.read_setup (hval 0 23 v0 rfl rfl) h0
  obtain ⟨x, A, c, rfl, hl⟩ := BF.read_shelf (hval 1 26 v1 rfl rfl) h1
  clear hA0 hval0
  simp only [List.append_nil, List.nil_append] at hW'
  have hlt : ∀ x ∈ p0 ++ (p1), x.block < W.heap.size := fun x hx => hW'.lt x hx
  simp only [List.mem_append] at hlt
  refine (BH.clears_walk s x A c W hl).mono fun e W' ⟨he, hb⟩ => ?_
  subst he
  have stays := fun (sp : Nat → Bool) (hsp : ∀ p ∈ p0 ++ (p1), sp p.block = true) => by
    simp only [List.mem_append] at hsp
    exact trodAll_cons_mk (WideElems.Trod_stays laidOut (by kernel_rfl) (of_decide_eq_true (by kernel_rfl)) k0 (fun x hx => hb.same (hlt x (Or.inl hx))) (fun x hx => hsp x (Or.inl hx))) (trodAll_cons_mk (WideElems.Trod_stays laidOut (by kernel_rfl) (of_decide_eq_true (by kernel_rfl)) k1 (fun x hx => hb.same (hlt x (Or.inr hx))) (fun x hx => hsp x (Or.inr hx))) (trodAll_mk0))
  exact ⟨_, rfl, L.post_of_ext (pa := p0 ++ (p1)) (pv := []) hW' (fun _ _ _ => (trodAll_cons_mk (shut_bool Try.underlying4 _) trodAll_mk0))
    (fun sp hsp => (by
      have := stays sp hsp
      simp only [List.append_nil] at this
      exact this)) (fun _ _ => rfl) (by simp) hb (ok_one (by kernel_rfl) rfl (okWide_bool_mk Try.underlying4 _))⟩

theorem over : Rows.admitClearsRow.holds Try.pinned (OpenSpec.ofChange Rows.admitClearsSpec) :=
  OpenClaim.holds_of_wide 6 Try.f6 rfl rfl rfl rfl rfl rfl rfl ⟨rfl, rfl, rfl, rfl, rfl⟩ rfl rfl rfl rfl rfl (by kernel_rfl) Try.func6 (by kernel_rfl)
    (of_decide_eq_true (by kernel_rfl)) (by unfold Func.isWrapper; first | (rw [if_pos (by decide +kernel)]; kernel_rfl) | (rw [if_neg (by decide +kernel)]; exact ⟨rfl, rfl⟩))
    (fun os started H enc _ => lifted os started H enc)

end Go.Proofs.Ytedpkficechjnaa.AdmitClears
namespace Go.Proofs.Ytedpkficechjnaa
/-- AdmitClears returns true, whatever comes in. -/
theorem admitClears_holds : Rows.AdmitClearsSaid := AdmitClears.over
#print axioms admitClears_holds
end Go.Proofs.Ytedpkficechjnaa
