/- The chapter's setup, shelves, keys; awake. -/
import Derived.Test.YtedpkficechjnaaBB
namespace Go.Proofs.Ytedpkficechjnaa.BD
open Go.RowKit
open Go.Proofs.Ytedpkficechjnaa
open Go.Proofs.Ytedpkficechjnaa.KA Go.Proofs.Ytedpkficechjnaa.K Go.Proofs.Ytedpkficechjnaa.KB Go.Proofs.Ytedpkficechjnaa.KI Go.Proofs.Ytedpkficechjnaa.KQ Go.Proofs.Ytedpkficechjnaa.S Go.Proofs.Ytedpkficechjnaa.KR Go.Proofs.Ytedpkficechjnaa.KS Go.Proofs.Ytedpkficechjnaa.KT Go.Proofs.Ytedpkficechjnaa.KO Go.Proofs.Ytedpkficechjnaa.KU Go.Proofs.Ytedpkficechjnaa.AS Go.Proofs.Ytedpkficechjnaa.AT Go.Proofs.Ytedpkficechjnaa.AU Go.Proofs.Ytedpkficechjnaa.AV Go.Proofs.Ytedpkficechjnaa.AW Go.Proofs.Ytedpkficechjnaa.AX Go.Proofs.Ytedpkficechjnaa.AY Go.Proofs.Ytedpkficechjnaa.BA Go.Proofs.Ytedpkficechjnaa.BB
set_option linter.unusedVariables false
set_option linter.unusedSimpArgs false

/-! ### What may be, decided -/
def adjB : List Key → Bool
  | a :: b :: l => a.lt b && adjB (b :: l)
  | _ => true
theorem adj_up : ∀ {l : List Key}, adjB l = true → ∀ (i : Nat) x y, l[i]? = some x → l[i + 1]? = some y → x.lt y = true
  | [], _, i, x, y, hx, _ => by simp at hx
  | [a], _, i, x, y, hx, hy => by simp at hy
  | a :: b :: l, h, i, x, y, hx, hy => by
    simp only [adjB, Bool.and_eq_true] at h
    cases i with
    | zero =>
      simp at hx hy
      subst hx hy
      exact h.1
    | succ i => exact adj_up (l := b :: l) h.2 i x y (by simpa using hx) (by simpa using hy)
def seatsB (x : Shelf) : Bool := (List.range x.keys.length).all fun i => match x.keys[i]? with
  | some k => seatB x i k
  | none => true
theorem fits_dec {s : Setup} {x : Shelf} (h1 : shapeB s x = true) (h2 : adjB x.keys = true) (h3 : seatsB x = true) : FitsP s x := by
  refine ⟨h1, up_of_adj (adj_up h2), fun i k hk => ?_⟩
  have := List.all_eq_true.1 h3 i (by simp; exact (List.getElem?_eq_some_iff.1 hk).1)
  rw [hk] at this
  exact this

def s10 : Setup := ⟨2, 10, 1, 1, 1⟩
def sh0 : Shelf := ⟨3, [⟨5, 1, 1⟩, ⟨8, 1, 2⟩], 1⟩
def sh1 : Shelf := ⟨5, [⟨6, 2, 2⟩, ⟨8, 1, 2⟩], 0⟩
theorem fit0 : FitsP s10 sh0 := fits_dec (by decide) (by decide) (by decide)
theorem fl0 : floorV s10 sh0 = 5 := by rw [floor_yes fit0]; decide
theorem j911 : judge s10 sh0 ⟨9, 1, 1⟩ = 7 := by rw [judge_of s10 sh0 _ (fits_yes fit0) fl0]; decide
theorem j510 : judge s10 sh0 ⟨5, 1, 0⟩ = 6 := by rw [judge_of s10 sh0 _ (fits_yes fit0) fl0]; decide
theorem j622 : judge s10 sh0 ⟨6, 2, 2⟩ = 0 := by rw [judge_of s10 sh0 _ (fits_yes fit0) fl0]; decide
theorem p622 : put s10 sh0 ⟨6, 2, 2⟩ = (sh1, 0, 0) := by
  rw [put_ok j622]
  have h : putAt (room s10 sh0) ⟨6, 2, 2⟩ = sh1 := by rw [shelf_eq]; decide
  rw [h]
  rfl

theorem setup_any (n : Int) (w : World) : Calls Try.prog 33 #[.int .i64 n] w fun e w' => e = .returned (Setup.val ⟨2, n, 1, 1, 1⟩) ∧ E.Ext w w' := by
  unfold Setup.val
  go_enter Try.func33, Try.ntmps33
  go_wp2
  exact bodyPost_ret (v := .agg #[.int .i64 2, .int .i64 n, .int .i64 1, .int .i64 1, .int .i64 1]) (by simp [results, Try.results33, go_sem]) rfl ⟨rfl, E.Ext.alloc _ _⟩
theorem key_any (a b c : Int) (w : World) : Calls Try.prog 35 #[.int .i64 a, .int .i64 b, .int .i64 c] w fun e w' => e = .returned (Key.val ⟨a, b, c⟩) ∧ E.Ext w w' := by
  unfold Key.val
  go_enter Try.func35, Try.ntmps35
  go_wp2
  exact bodyPost_ret (v := .agg #[.int .i64 a, .int .i64 b, .int .i64 c]) (by simp [results, Try.results35, go_sem]) rfl ⟨rfl, E.Ext.alloc _ _⟩
theorem sh0_any (w : World) : Calls Try.prog 34 #[] w (OwnedS1 w sh0) := by
  go_enter Try.func34, Try.ntmps34
  go_wp2_with fail
  refine (key_any 5 1 1 _).mono ?_
  rintro e w1 ⟨rfl, hx1⟩
  dsimp only [Key.val]
  have R1 := E.blk0 hx1 rfl
  go_wp2_with fail
  refine (key_any 8 1 2 _).mono ?_
  rintro e w2 ⟨rfl, hx2⟩
  dsimp only [Key.val]
  have R2 := R1.ext hx2
  have R3 := R2.alloc (.cells #[.int .i64 5, .int .i64 1, .int .i64 1, .int .i64 8, .int .i64 1, .int .i64 2] 28)
  have L3 := E.Blk.new w2 28 #[.int .i64 5, .int .i64 1, .int .i64 1, .int .i64 8, .int .i64 1, .int .i64 2]
  obtain ⟨c3, f3⟩ := R3.facts
  have hrl := R3.lt
  have hE : E.Ext w (w2.alloc (.cells #[.int .i64 5, .int .i64 1, .int .i64 1, .int .i64 8, .int .i64 1, .int .i64 2] 28)) := (((E.Ext.alloc _ _).trans hx1).trans hx2).trans (E.Ext.alloc _ _)
  go_wp2_with fail
  refine bodyPost_ret (v := sh0.val (some ⟨w2.heap.size, 0, none⟩) 2) (by simp [results, Try.results34, go_sem, c3, f3, Shelf.val, sh0]) rfl ⟨some ⟨w2.heap.size, 0, none⟩, 2, rfl, ?_, ?_⟩
  · repeat (refine E.Ext.setCell ?_ (by simp <;> omega) _)
    exact hE
  · have hlt := R2.lt
    have ho : (w2.alloc (.cells #[.int .i64 5, .int .i64 1, .int .i64 1, .int .i64 8, .int .i64 1, .int .i64 2] 28)).ownsRow w.heap.size 28 3 (.slice (some ⟨w2.heap.size, 0, none⟩) sh0.keys.length 2) sh0.keys.length (keyCells sh0.keys) :=
      World.ownsRow_lit (base := w.heap.size) (size := 3) (e := 28) w2 #[.int .i64 5, .int .i64 1, .int .i64 1, .int .i64 8, .int .i64 1, .int .i64 2] 2 (by omega) (by unfold maxLen; omega) rfl
    refine own_extS (S := fun k => k = w.heap.size) ho ?_ (fun g cs hg e => hg.ne R3 (by decide) e)
    repeat (refine E.ExtS.set ?_ (by simp) _)
    exact E.ExtS.refl _ _
theorem sh1_any (w : World) : Calls Try.prog 37 #[] w (OwnedS1 w sh1) := by
  go_enter Try.func37, Try.ntmps37
  go_wp2_with fail
  refine (key_any 6 2 2 _).mono ?_
  rintro e w1 ⟨rfl, hx1⟩
  dsimp only [Key.val]
  have R1 := E.blk0 hx1 rfl
  go_wp2_with fail
  refine (key_any 8 1 2 _).mono ?_
  rintro e w2 ⟨rfl, hx2⟩
  dsimp only [Key.val]
  have R2 := R1.ext hx2
  have R3 := R2.alloc (.cells #[.int .i64 6, .int .i64 2, .int .i64 2, .int .i64 8, .int .i64 1, .int .i64 2] 28)
  have L3 := E.Blk.new w2 28 #[.int .i64 6, .int .i64 2, .int .i64 2, .int .i64 8, .int .i64 1, .int .i64 2]
  obtain ⟨c3, f3⟩ := R3.facts
  have hrl := R3.lt
  have hE : E.Ext w (w2.alloc (.cells #[.int .i64 6, .int .i64 2, .int .i64 2, .int .i64 8, .int .i64 1, .int .i64 2] 28)) := (((E.Ext.alloc _ _).trans hx1).trans hx2).trans (E.Ext.alloc _ _)
  go_wp2_with fail
  refine bodyPost_ret (v := sh1.val (some ⟨w2.heap.size, 0, none⟩) 2) (by simp [results, Try.results37, go_sem, c3, f3, Shelf.val, sh1]) rfl ⟨some ⟨w2.heap.size, 0, none⟩, 2, rfl, ?_, ?_⟩
  · repeat (refine E.Ext.setCell ?_ (by simp <;> omega) _)
    exact hE
  · have hlt := R2.lt
    have ho : (w2.alloc (.cells #[.int .i64 6, .int .i64 2, .int .i64 2, .int .i64 8, .int .i64 1, .int .i64 2] 28)).ownsRow w.heap.size 28 3 (.slice (some ⟨w2.heap.size, 0, none⟩) sh1.keys.length 2) sh1.keys.length (keyCells sh1.keys) :=
      World.ownsRow_lit (base := w.heap.size) (size := 3) (e := 28) w2 #[.int .i64 6, .int .i64 2, .int .i64 2, .int .i64 8, .int .i64 1, .int .i64 2] 2 (by omega) (by unfold maxLen; omega) rfl
    refine own_extS (S := fun k => k = w.heap.size) ho ?_ (fun g cs hg e => hg.ne R3 (by decide) e)
    repeat (refine E.ExtS.set ?_ (by simp) _)
    exact E.ExtS.refl _ _
theorem floors_any (s : Setup) (x : Shelf) (A : Option Addr) (c : Nat) (n : Int) (w : World) (h : Sl w 3 A x.keys.length c (keyCells x.keys)) (hl : x.keys.length ≤ 1099511627776) (h1 : fitsE s x = 0) (h2 : floorV s x = n) :
    Calls Try.prog 36 #[s.val, x.val A c, .int .i64 n] w fun e w' => e = .returned (.bool true) ∧ E.Ext w w' := by
  have hx0 := (E.Ext.alloc w (.cells #[.int .i64 s.keep, .int .i64 s.horizon, .int .i64 s.ahead, .int .i64 s.budget, .int .i64 s.window] 23)).trans (E.Ext.alloc _ (.cells #[.int .i64 x.base, .slice A x.keys.length c, .int .i64 x.clean] 26))
  have H1 := Lib.hid h1
  have H2 := Lib.hid h2
  clear h1 h2
  unfold Shelf.val Setup.val
  go_enter Try.func36, Try.ntmps36
  go_wp2_with fail
  refine (floor_any s x A c _ (h.ext hx0) hl).mono ?_
  rintro e w1 ⟨rfl, hx1⟩
  rw [H1.out, H2.out]
  go_wp2_with fail
  go_ret
  exact ⟨by simp, hx0.trans hx1⟩
end Go.Proofs.Ytedpkficechjnaa.BD
