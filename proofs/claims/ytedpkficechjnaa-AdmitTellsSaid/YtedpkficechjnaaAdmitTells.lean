/- AdmitTells: for every setup, shelf and key the law returns true, and its arguments read as they did; no condition. -/
import Derived.Test.YtedpkficechjnaaRows
import Derived.Test.YtedpkficechjnaaBF
import Derived.Test.YtedpkficechjnaaBJ
namespace Go.Proofs.Ytedpkficechjnaa.AdmitTells
open Go.ChangeShapes Go.WideShapes Go.ChangeAt Go.RowKit
open Go.Proofs.Ytedpkficechjnaa
set_option linter.unusedVariables false
set_option linter.unusedSimpArgs false

theorem own : ownKnob Try.prog.godebug = none := by kernel_rfl
theorem laidOut : laidOutB Try.prog = true := by kernel_rfl

set_option maxRecDepth 100000 in
theorem lifted (os : Os) (started : os.Started) (H : Type) (enc : TypeId × Value → H) :
    ReturnsInHanded {} Try.checked os 4 .any (Rows.admitTellsSpec.pre6 enc Try.prog Try.f4 Rows.admitTellsRow.domain false) (Rows.admitTellsSpec.post enc Try.prog Try.f4 false true false false) := by
  refine returnsInHanded_of_change (C := Try.checked) own started (by kernel_rfl) Try.func4
    (ChangeSpec.witness6 (enc := enc) (C := Try.checked) false ⟨#[], #[.agg #[.int .i64 0, .int .i64 0, .int .i64 0, .int .i64 0, .int .i64 0], .agg #[.int .i64 0, .slice none 0 0, .int .i64 0], .agg #[.int .i64 0, .int .i64 0, .int .i64 0]], []⟩ 8 (by kernel_rfl) (by kernel_rfl) (by kernel_rfl) (by kernel_rfl)) ?_
  intro W base args ds gs before hval0 hW hcnd _
  have hval : ∀ (j : Nat) t v, Try.f4.params[j]? = some t → args[j]? = some v → Value.okWide Try.prog W .any base t v := hval0
  have hW' := hW
  obtain ⟨p, q, hA0, hV, rfl, hfz, hnd⟩ := hW
  have hA : DataW.TrodAll enc Try.prog W 0 (fun _ => true) true Try.f4.params.toList args.toList ds p := hA0
  rw [Try.params4] at hA hval
  obtain ⟨v0, vs0, d0, ds0, p0, q0, hargs, rfl, rfl, h0, r0⟩ := trodAll_cons hA
  obtain ⟨v1, vs1, d1, ds1, p1, q1, rfl, rfl, rfl, h1, r1⟩ := trodAll_cons r0
  obtain ⟨v2, vs2, d2, ds2, p2, q2, rfl, rfl, rfl, h2, r2⟩ := trodAll_cons r1
  obtain ⟨rfl, rfl, rfl⟩ := trodAll_nil r2
  obtain rfl : args = #[v0, v1, v2] := by cases args; simp_all
  obtain ⟨rfl, rfl⟩ := trodVars_none hV
  have k0 := h0
  have k1 := h1
  have k2 := h2
  obtain ⟨s, rfl⟩ := BF.read_setup (hval 0 23 v0 rfl rfl) h0
  obtain ⟨x, A, c, rfl, hl⟩ := BF.read_shelf (hval 1 26 v1 rfl rfl) h1
  obtain ⟨k, rfl⟩ := KV.read_key (hval 2 28 v2 rfl rfl) h2
  clear hA0 hval0
  simp only [List.append_nil, List.nil_append] at hW'
  have hlt : ∀ x ∈ p0 ++ (p1 ++ (p2)), x.block < W.heap.size := fun x hx => hW'.lt x hx
  simp only [List.mem_append] at hlt
  refine (BJ.tells_walk s x A c k W hl).mono fun e W' ⟨he, hb⟩ => ?_
  subst he
  have stays := fun (sp : Nat → Bool) (hsp : ∀ p ∈ p0 ++ (p1 ++ (p2)), sp p.block = true) => by
    simp only [List.mem_append] at hsp
    exact trodAll_cons_mk (WideElems.Trod_stays laidOut (by kernel_rfl) (of_decide_eq_true (by kernel_rfl)) k0 (fun x hx => hb.same (hlt x (Or.inl hx))) (fun x hx => hsp x (Or.inl hx))) (trodAll_cons_mk (WideElems.Trod_stays laidOut (by kernel_rfl) (of_decide_eq_true (by kernel_rfl)) k1 (fun x hx => hb.same (hlt x (Or.inr (Or.inl hx)))) (fun x hx => hsp x (Or.inr (Or.inl hx)))) (trodAll_cons_mk (WideElems.Trod_stays laidOut (by kernel_rfl) (of_decide_eq_true (by kernel_rfl)) k2 (fun x hx => hb.same (hlt x (Or.inr (Or.inr hx)))) (fun x hx => hsp x (Or.inr (Or.inr hx)))) (trodAll_mk0)))
  exact ⟨_, rfl, L.post_of_ext (pa := p0 ++ (p1 ++ (p2))) (pv := []) hW' (fun _ _ _ => (trodAll_cons_mk (shut_bool Try.underlying4 _) trodAll_mk0))
    (fun sp hsp => (by
      have := stays sp hsp
      simp only [List.append_nil] at this
      exact this)) (fun _ _ => rfl) (by simp) hb (ok_one (by kernel_rfl) rfl (okWide_bool_mk Try.underlying4 _))⟩

theorem over : Rows.admitTellsRow.holds Try.pinned (OpenSpec.ofChange Rows.admitTellsSpec) :=
  OpenClaim.holds_of_wide 4 Try.f4 rfl rfl rfl rfl rfl rfl rfl ⟨rfl, rfl, rfl, rfl, rfl⟩ rfl rfl rfl rfl rfl (by kernel_rfl) Try.func4 (by kernel_rfl)
    (of_decide_eq_true (by kernel_rfl)) (by unfold Func.isWrapper; first | (rw [if_pos (by decide +kernel)]; kernel_rfl) | (rw [if_neg (by decide +kernel)]; exact ⟨rfl, rfl⟩))
    (fun os started H enc _ => lifted os started H enc)

end Go.Proofs.Ytedpkficechjnaa.AdmitTells
namespace Go.Proofs.Ytedpkficechjnaa
/-- AdmitTells returns true, whatever comes in. -/
theorem admitTells_holds : Rows.AdmitTellsSaid := AdmitTells.over
#print axioms admitTells_holds
end Go.Proofs.Ytedpkficechjnaa
