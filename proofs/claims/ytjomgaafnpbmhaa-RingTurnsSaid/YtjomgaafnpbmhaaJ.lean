/- What the law's own functions build: entries, the chapter's ring, awake. -/
import Derived.Test.YtjomgaafnpbmhaaI
namespace Go.Proofs.Ytjomgaafnpbmhaa.J
open Go.RowKit
open Go.Proofs.Ytjomgaafnpbmhaa
open Go.Proofs.Ytjomgaafnpbmhaa.A Go.Proofs.Ytjomgaafnpbmhaa.K Go.Proofs.Ytjomgaafnpbmhaa.B Go.Proofs.Ytjomgaafnpbmhaa.C Go.Proofs.Ytjomgaafnpbmhaa.D Go.Proofs.Ytjomgaafnpbmhaa.F Go.Proofs.Ytjomgaafnpbmhaa.G Go.Proofs.Ytjomgaafnpbmhaa.H Go.Proofs.Ytjomgaafnpbmhaa.I
set_option linter.unusedVariables false
set_option linter.unusedSimpArgs false

def bare (a b c : Int) : Entry := ⟨a, b, c, false, []⟩
theorem at_any (a b c : Int) (w : World) : Calls Try.prog 42 #[.int .i64 a, .int .i64 b, .int .i64 c] w fun e w' => e = .returned ((bare a b c).val none 0) ∧ E.Ext w w' := by
  unfold Entry.val bare
  go_enter Try.func42, Try.ntmps42
  go_wp2
  exact bodyPost_ret (v := .agg #[.int .i64 a, .int .i64 b, .int .i64 c, .bool false, .slice none 0 0]) (by simp [results, Try.results42, go_sem]) rfl ⟨rfl, E.Ext.alloc _ _⟩

set_option maxHeartbeats 400000 in
theorem puts_yes (b pb : Nat) (r : RingD) (x : Entry) (A : Option Addr) (c : Nat) (p m k : Int) (l' : List Entry) (w : World) (hr : RingAt (fun _ => True) w b pb r) (hs : Sorted r.l)
    (hx : Sl w 1 A x.data.length c (ints x.data)) (hl : x.data.length ≤ 1099511627776) (hi : insert_ r.K r.l x = (p, m, k, l')) :
    Calls Try.prog 43 #[.pointer (some ⟨b, 0, none⟩), x.val A c, .int .i64 p, .int .i64 m, .int .i64 k] w fun e w' => e = .returned (.bool true) ∧ RingAt (fun _ => True) w' b pb { r with l := l' } ∧ E.ExtS (fun i => i = b ∨ i = pb) w w' ∧ (k ≠ 0 → E.Ext w w') := by
  have HI := Lib.hid hi
  clear hi
  have hp : (p == p) = true := by simp
  go_enter Try.func43, Try.ntmps43
  unfold Entry.val
  go_wp2_with fail
  refine (insert_any b pb r x A c _ (hr.ext (E.Ext.alloc _ _)) hs (hx.ext (E.Ext.alloc _ _)) hl).mono ?_
  rintro e w1 ⟨rfl, hr1, hx1, hy1⟩
  replace hr1 := hr1.mono (F' := fun _ => True) (fun _ _ _ => trivial)
  rw [HI.out] at hr1 hy1 ⊢
  go_wp2
  go_ret
  exact ⟨rfl, hr1, ((E.Ext.alloc _ _).toS _).trans hx1, fun h => (E.Ext.alloc _ _).trans (hy1 h)⟩

def e511 := bare 5 1 1
def e312 := bare 3 1 2
def e413 := bare 4 1 3
theorem ins1 : insert_ 2 [] e511 = (0, 0, 0, [e511]) := by decide
theorem ins2 : insert_ 2 [e511] e312 = (0, 1, 0, [e312, e511]) := by decide
theorem ins3 : insert_ 2 [e312, e511] e413 = (0, 0, 13, [e312, e511]) := by decide

/-! ### Order is kept -/
theorem cnt_lt {q : Entry → Bool} : ∀ {l : List Entry} {i : Nat} {x : Entry}, l[i]? = some x → i < cnt q l → q x = true
  | [], i, x, h, _ => by simp at h
  | y :: l, i, x, h, hi => by
    unfold cnt at hi
    cases hq : q y with
    | false => rw [List.takeWhile_cons_of_neg (by simp [hq])] at hi; simp at hi
    | true =>
      rw [List.takeWhile_cons_of_pos hq] at hi
      cases i with
      | zero => simp at h; subst h; exact hq
      | succ i => exact cnt_lt (l := l) (i := i) (by simpa using h) (by unfold cnt; simpa using hi)
theorem cnt_at {q : Entry → Bool} : ∀ {l : List Entry} {x : Entry}, l[cnt q l]? = some x → q x = false
  | [], x, h => by simp at h
  | y :: l, x, h => by
    cases hq : q y with
    | false =>
      have : cnt q (y :: l) = 0 := by unfold cnt; rw [List.takeWhile_cons_of_neg (by simp [hq])]; rfl
      rw [this] at h
      simp at h
      subst h
      exact hq
    | true =>
      have : cnt q (y :: l) = cnt q l + 1 := by unfold cnt; rw [List.takeWhile_cons_of_pos hq]; rfl
      rw [this] at h
      exact cnt_at (l := l) (by simpa using h)
theorem cnt_ge {q : Entry → Bool} {l : List Entry} (ht : Turns q l) {i : Nat} {x : Entry} (h : l[i]? = some x) (hi : cnt q l ≤ i) : q x = false := by
  cases hq : q x with
  | false => rfl
  | true =>
    have hil := (List.getElem?_eq_some_iff.1 h).1
    have h1 : l[cnt q l]? = some l[cnt q l] := List.getElem?_eq_getElem (by omega)
    have h2 := ht (cnt q l) i _ x hi h1 h hq
    rw [cnt_at h1] at h2
    cases h2

theorem sorted_insert {K : Nat} {l : List Entry} {x : Entry} (hs : Sorted l) : Sorted (insert_ K l x).2.2.2 := by
  unfold insert_
  split
  · exact hs
  · rename_i hne
    split
    · exact hs
    · have hp : pos l x.key ≤ l.length := cnt_le _ _
      have ht := turns_key hs x.key
      have hlow : ∀ i y, l[i]? = some y → i < pos l x.key → y.key.lt x.key = true := fun i y hy hi => cnt_lt hy hi
      have hhigh : ∀ i y, l[i]? = some y → pos l x.key ≤ i → x.key.lt y.key = true := by
        intro i y hy hi
        have h0 := cnt_ge ht hy hi
        have hil := (List.getElem?_eq_some_iff.1 hy).1
        rcases Nat.lt_or_eq_of_le hi with h1 | h1
        · have hz : l[pos l x.key]? = some l[pos l x.key] := List.getElem?_eq_getElem (by omega)
          have h3 := cnt_ge ht hz (Nat.le_refl _)
          rcases lt_total h3 with h4 | h4
          · rw [hz] at hne
            simp only [Option.map_some, Option.some.injEq] at hne
            exact absurd h4 hne
          · exact lt_trans h4 (hs _ _ _ _ h1 hz hy)
        · rcases lt_total h0 with h4 | h4
          · rw [h1, hy] at hne
            simp only [Option.map_some, Option.some.injEq] at hne
            exact absurd h4 hne
          · exact h4
      simp only
      generalize pos l x.key = p at *
      intro i j y z hij hy hz
      rw [get_inserted _ _ _ hp] at hy hz
      by_cases a1 : i < p
      · rw [if_pos a1] at hy
        by_cases b1 : j < p
        · rw [if_pos b1] at hz; exact hs i j y z hij hy hz
        · rw [if_neg b1] at hz
          by_cases b2 : j = p
          · rw [if_pos b2] at hz; cases hz; exact hlow i y hy a1
          · rw [if_neg b2] at hz; exact hs i (j - 1) y z (by omega) hy hz
      · rw [if_neg a1] at hy
        have b1 : ¬ j < p := by omega
        have b2 : ¬ j = p := by omega
        rw [if_neg b1, if_neg b2] at hz
        by_cases a2 : i = p
        · rw [if_pos a2] at hy; cases hy; exact hhigh (j - 1) z hz (by omega)
        · rw [if_neg a2] at hy; exact hs (i - 1) (j - 1) y z (by omega) hy hz
theorem sorted_nil : Sorted [] := fun i j x y _ h => by simp at h
theorem insert_many {K : Nat} {l : List Entry} {x : Entry} : (insert_ K l x).2.2.2.length ≤ l.length + 1 := by
  unfold insert_
  split
  · exact Nat.le_succ _
  · split
    · exact Nat.le_succ _
    · simp; omega
theorem insert_mem {K : Nat} {l : List Entry} {x y : Entry} (h : y ∈ (insert_ K l x).2.2.2) : y ∈ l ∨ y = x := by
  unfold insert_ at h
  split at h
  · exact .inl h
  · split at h
    · exact .inl h
    · simp only [List.mem_append, List.mem_cons] at h
      rcases h with h | h | h
      · exact .inl (List.mem_of_mem_take h)
      · exact .inr h
      · exact .inl (List.mem_of_mem_drop h)

def Two (w : World) (e : Ending) (w' : World) : Prop :=
  ∃ b pb, e = .returned (.pointer (some ⟨b, 0, none⟩)) ∧ RingAt (fun _ => True) w' b pb ⟨2, 0, [e312, e511]⟩ ∧ w.heap.size ≤ b ∧ w.heap.size ≤ pb ∧ E.Ext w w'

theorem bare_sl (a b c : Int) (w : World) : Sl w 1 none (bare a b c).data.length 0 (ints (bare a b c).data) := Sl.nil w 1

set_option maxHeartbeats 800000 in
theorem two_any (w : World) : Calls Try.prog 27 #[] w (Two w) := by
  have hs1 : Sorted [e511] := by have := sorted_insert (K := 2) (x := e511) sorted_nil; rw [ins1] at this; exact this
  have hs2 : Sorted [e312, e511] := by have := sorted_insert (K := 2) (x := e312) hs1; rw [ins2] at this; exact this
  go_enter Try.func27, Try.ntmps27
  go_wp2_with fail
  refine (new_any 2 _ (by decide) (by decide)).mono ?_
  rintro e w1 ⟨b, pb, rfl, hr1, hb, hpb, hx1⟩
  go_wp2_with fail
  refine (at_any 5 1 1 _).mono ?_
  rintro e w2 ⟨rfl, hx2⟩
  go_wp2_with fail
  refine (puts_yes b pb ⟨2, 0, []⟩ e511 none 0 0 0 0 [e511] _ (hr1.ext hx2) sorted_nil (bare_sl _ _ _ _) (by decide) ins1).mono ?_
  rintro e w3 ⟨rfl, hr3, hx3, hy3⟩
  go_wp2_with fail
  refine (at_any 3 1 2 _).mono ?_
  rintro e w4 ⟨rfl, hx4⟩
  go_wp2_with fail
  refine (puts_yes b pb ⟨2, 0, [e511]⟩ e312 none 0 0 1 0 [e312, e511] _ (hr3.ext hx4) hs1 (bare_sl _ _ _ _) (by decide) ins2).mono ?_
  rintro e w5 ⟨rfl, hr5, hx5, hy5⟩
  go_wp2_with fail
  refine (at_any 4 1 3 _).mono ?_
  rintro e w6 ⟨rfl, hx6⟩
  go_wp2_with fail
  refine (puts_yes b pb ⟨2, 0, [e312, e511]⟩ e413 none 0 0 0 13 [e312, e511] _ (hr5.ext hx6) hs2 (bare_sl _ _ _ _) (by decide) ins3).mono ?_
  rintro e w7 ⟨rfl, hr7, hx7, hy7⟩
  go_wp2_with fail
  go_ret
  have hS : ∀ k, k < w.heap.size → ¬ (k = b ∨ k = pb) := by intro k hk; omega
  exact ⟨b, pb, rfl, hr7, hb, hpb, E.Ext.thenS (((E.Ext.thenS ((E.Ext.thenS (hx1.trans hx2) hx3 hS).trans hx4) hx5 hS)).trans hx6) hx7 hS⟩

set_option maxHeartbeats 800000 in
theorem awake_any (w : World) : Calls Try.prog 6 #[] w fun e w' => e = .returned (.bool true) ∧ E.Ext w w' := by
  go_enter Try.func6, Try.ntmps6
  go_wp2_with fail
  refine (two_any _).mono ?_
  rintro e w1 ⟨b, pb, rfl, hr1, hb, hpb, hx1⟩
  go_wp2_with fail
  refine (keys_any b pb _ _ hr1).mono ?_
  rintro e w2 ⟨A, c, rfl, hx2, ho⟩
  go_wp2_with fail
  obtain ⟨A', c', hv, hsl⟩ := own_sl ho
  have hcc : A' = A ∧ c' = c := by injection hv with h1 _ h3; exact ⟨h1.symm, h3.symm⟩
  obtain ⟨rfl, rfl⟩ := hcc
  refine (sameKeys_any [⟨3, 1, 2⟩, ⟨5, 1, 1⟩] [⟨3, 1, 2⟩, ⟨5, 1, 1⟩] A' _ c' _ _ (hsl.ext (E.Ext.alloc _ _)) (Sl.blk (n := 2) (E.Blk.new _ _ _) rfl (by decide) (by decide)) (by decide) (by decide)).mono ?_
  rintro e w3 ⟨rfl, hx3⟩
  go_wp2_with fail
  go_ret
  exact ⟨rfl, ((hx1.trans hx2).trans (E.Ext.alloc _ _)).trans hx3⟩
end Go.Proofs.Ytjomgaafnpbmhaa.J
