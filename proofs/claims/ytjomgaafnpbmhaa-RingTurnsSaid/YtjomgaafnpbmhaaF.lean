/- (*Ring).find; Until. -/
import Derived.Test.YtjomgaafnpbmhaaD
namespace Go.Proofs.Ytjomgaafnpbmhaa.F
open Go.RowKit
open Go.Proofs.Ytjomgaafnpbmhaa
open Go.Proofs.Ytjomgaafnpbmhaa.A Go.Proofs.Ytjomgaafnpbmhaa.K Go.Proofs.Ytjomgaafnpbmhaa.B Go.Proofs.Ytjomgaafnpbmhaa.C Go.Proofs.Ytjomgaafnpbmhaa.D
set_option linter.unusedVariables false
set_option linter.unusedSimpArgs false
variable {F : Nat → Prop}

/-- Once no, always no. -/
def Turns (q : Entry → Bool) (l : List Entry) : Prop := ∀ (i j : Nat) x y, i ≤ j → l[i]? = some x → l[j]? = some y → q y = true → q x = true
def cnt (q : Entry → Bool) (l : List Entry) : Nat := (l.takeWhile q).length

theorem cnt_le (q : Entry → Bool) (l : List Entry) : cnt q l ≤ l.length := (List.takeWhile_prefix q).length_le
theorem cnt_eq {q : Entry → Bool} {l : List Entry} {r : Nat} (hr : r ≤ l.length) (h : ∀ (i : Nat) x, l[i]? = some x → (q x = false ↔ r ≤ i)) : cnt q l = r := by
  unfold cnt
  induction l generalizing r with
  | nil => simp at hr ⊢; omega
  | cons y l ih =>
    have h0 := h 0 y rfl
    cases hq : q y with
    | false =>
      rw [List.takeWhile_cons_of_neg (by simp [hq])]
      have := h0.1 hq
      simp; omega
    | true =>
      rw [List.takeWhile_cons_of_pos hq]
      have hr0 : 0 < r := by
        rcases Nat.eq_zero_or_pos r with h1 | h1
        · have := h0.2 (by omega)
          rw [hq] at this; cases this
        · exact h1
      have := ih (r := r - 1) (by simp at hr; omega) (fun i x hi => by
        have := h (i + 1) x (by simpa using hi)
        rw [this]; omega)
      simp only [List.length_cons, this]
      omega

set_option maxHeartbeats 800000 in
theorem find_ins (b pb : Nat) (r : RingD) (q : Entry → Bool) (kv : Value) (w : World) (hr : RingAt F w b pb r) (ht : Turns q r.l)
    (hq : ∀ W, E.Ext w W → ∀ (x : Entry) A c, Calls Try.prog 30 #[x.val A c, kv] W fun e W' => e = .returned (.bool (q x)) ∧ E.Ext W W') :
    Calls Try.prog 29 #[.pointer (some ⟨b, 0, none⟩), .func (.func 30) #[] #[kv]] w fun e w' => e = .returned (.int .i64 (cnt q r.l)) ∧ E.Ext w w' := by
  have HQ := Lib.hid hq
  have HT := Lib.hid ht
  clear hq ht
  have hmany := hr.ok.many
  have hmost := hr.ok.most
  have hb := hr.struct.lt
  have ch : ∀ o1 o2 i, ((w.alloc o1).alloc o2).cell? ⟨b, i, none⟩ = #[Value.slice (some ⟨pb, 0, none⟩) r.K r.K, .int .i64 r.first, .int .i64 r.l.length][i]? := fun o1 o2 => ((hr.struct.alloc o1).alloc o2).cell
  go_enter Try.func29, Try.ntmps29
  go_wp2_with fail
  refine (search_any r.l.length (fun i => match r.l[i]? with | some x => !q x | none => true) _ _ _ (by omega) ?_).mono ?_
  · intro W hW i hi
    have hx : E.Ext w W := ((E.Ext.alloc _ _).trans (E.Ext.alloc _ _)).trans hW
    have H1 := E.blk1 hW rfl
    have H2 := E.blk0 hW rfl
    simp only [World.size_alloc] at H1 H2
    obtain ⟨x, hx1⟩ : ∃ x, r.l[i]? = some x := ⟨r.l[i], List.getElem?_eq_getElem hi⟩
    rw [hx1]
    exact find1_ins b pb _ _ r q kv i x W (hr.ext hx) H2 H1 hx1 (fun W' hW' => HQ.out W' (hx.trans hW'))
  rintro e w1 ⟨n, rfl, h1, h2, h3, hx⟩
  go_wp2
  go_ret
  refine ⟨?_, ((E.Ext.alloc _ _).trans (E.Ext.alloc _ _)).trans hx⟩
  show Ending.returned (.int .i64 (n : Int)) = _
  rw [cnt_eq h1 (fun i x hi => ?_)]
  have := searched_count (p := fun i => match r.l[i]? with | some x => !q x | none => true) (fun i j hij hj hp => ?_) h1 h2 h3 i (List.getElem?_eq_some_iff.1 hi).1
  · simp only [hi] at this
    simpa using this
  · obtain ⟨y, hy⟩ : ∃ y, r.l[j]? = some y := ⟨r.l[j], List.getElem?_eq_getElem hj⟩
    obtain ⟨x', hx'⟩ : ∃ y, r.l[i]? = some y := ⟨r.l[i]'(by omega), List.getElem?_eq_getElem (by omega)⟩
    simp only [hx', hy] at hp ⊢
    cases hqy : q y with
    | false => rfl
    | true => rw [HT.out i j x' y hij hx' hy hqy] at hp; exact hp
set_option maxHeartbeats 800000 in
theorem find_unt (b pb : Nat) (r : RingD) (q : Entry → Bool) (kv : Value) (w : World) (hr : RingAt F w b pb r) (ht : Turns q r.l)
    (hq : ∀ W, E.Ext w W → ∀ (x : Entry) A c, Calls Try.prog 33 #[x.val A c, kv] W fun e W' => e = .returned (.bool (q x)) ∧ E.Ext W W') :
    Calls Try.prog 29 #[.pointer (some ⟨b, 0, none⟩), .func (.func 33) #[] #[kv]] w fun e w' => e = .returned (.int .i64 (cnt q r.l)) ∧ E.Ext w w' := by
  have HQ := Lib.hid hq
  have HT := Lib.hid ht
  clear hq ht
  have hmany := hr.ok.many
  have hmost := hr.ok.most
  have hb := hr.struct.lt
  have ch : ∀ o1 o2 i, ((w.alloc o1).alloc o2).cell? ⟨b, i, none⟩ = #[Value.slice (some ⟨pb, 0, none⟩) r.K r.K, .int .i64 r.first, .int .i64 r.l.length][i]? := fun o1 o2 => ((hr.struct.alloc o1).alloc o2).cell
  go_enter Try.func29, Try.ntmps29
  go_wp2_with fail
  refine (search_any r.l.length (fun i => match r.l[i]? with | some x => !q x | none => true) _ _ _ (by omega) ?_).mono ?_
  · intro W hW i hi
    have hx : E.Ext w W := ((E.Ext.alloc _ _).trans (E.Ext.alloc _ _)).trans hW
    have H1 := E.blk1 hW rfl
    have H2 := E.blk0 hW rfl
    simp only [World.size_alloc] at H1 H2
    obtain ⟨x, hx1⟩ : ∃ x, r.l[i]? = some x := ⟨r.l[i], List.getElem?_eq_getElem hi⟩
    rw [hx1]
    exact find1_unt b pb _ _ r q kv i x W (hr.ext hx) H2 H1 hx1 (fun W' hW' => HQ.out W' (hx.trans hW'))
  rintro e w1 ⟨n, rfl, h1, h2, h3, hx⟩
  go_wp2
  go_ret
  refine ⟨?_, ((E.Ext.alloc _ _).trans (E.Ext.alloc _ _)).trans hx⟩
  show Ending.returned (.int .i64 (n : Int)) = _
  rw [cnt_eq h1 (fun i x hi => ?_)]
  have := searched_count (p := fun i => match r.l[i]? with | some x => !q x | none => true) (fun i j hij hj hp => ?_) h1 h2 h3 i (List.getElem?_eq_some_iff.1 hi).1
  · simp only [hi] at this
    simpa using this
  · obtain ⟨y, hy⟩ : ∃ y, r.l[j]? = some y := ⟨r.l[j], List.getElem?_eq_getElem hj⟩
    obtain ⟨x', hx'⟩ : ∃ y, r.l[i]? = some y := ⟨r.l[i]'(by omega), List.getElem?_eq_getElem (by omega)⟩
    simp only [hx', hy] at hp ⊢
    cases hqy : q y with
    | false => rfl
    | true => rw [HT.out i j x' y hij hx' hy hqy] at hp; exact hp

end Go.Proofs.Ytjomgaafnpbmhaa.F
