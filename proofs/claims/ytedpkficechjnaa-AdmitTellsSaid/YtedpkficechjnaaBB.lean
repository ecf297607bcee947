/- Put. -/
import Derived.Test.YtedpkficechjnaaBA
namespace Go.Proofs.Ytedpkficechjnaa.BB
open Go.RowKit
open Go.Proofs.Ytedpkficechjnaa
open Go.Proofs.Ytedpkficechjnaa.KA Go.Proofs.Ytedpkficechjnaa.K Go.Proofs.Ytedpkficechjnaa.KB Go.Proofs.Ytedpkficechjnaa.KI Go.Proofs.Ytedpkficechjnaa.KQ Go.Proofs.Ytedpkficechjnaa.S Go.Proofs.Ytedpkficechjnaa.KR Go.Proofs.Ytedpkficechjnaa.KS Go.Proofs.Ytedpkficechjnaa.KT Go.Proofs.Ytedpkficechjnaa.KO Go.Proofs.Ytedpkficechjnaa.KU Go.Proofs.Ytedpkficechjnaa.AS Go.Proofs.Ytedpkficechjnaa.AT Go.Proofs.Ytedpkficechjnaa.AU Go.Proofs.Ytedpkficechjnaa.AV Go.Proofs.Ytedpkficechjnaa.AW Go.Proofs.Ytedpkficechjnaa.AX Go.Proofs.Ytedpkficechjnaa.AY Go.Proofs.Ytedpkficechjnaa.BA
set_option linter.unusedVariables false
set_option linter.unusedSimpArgs false

theorem room_full {s : Setup} {x : Shelf} (hf : fullB s x = true) (hl : 0 < x.keys.length) : room s x = ⟨(x.keys[0]'hl).stamp, x.keys.tail, x.clean - 1⟩ := by
  unfold room
  rw [if_pos hf, headStamp_of (k := x.keys[0]) (List.getElem?_eq_getElem hl)]
theorem room_not {s : Setup} {x : Shelf} (hf : fullB s x = false) : room s x = x := by
  unfold room
  rw [if_neg (by rw [hf]; decide)]
theorem ksl_full {w : World} {A : Option Addr} {c : Nat} {l : List Key} (h : Sl w 3 A l.length c (keyCells l)) : Sl w 3 A l.length l.length (keyCells l) := by
  have hc := h.cap
  have h1 := h.cut (by decide) (k := 0) (m := l.length) (c' := l.length) (Nat.zero_le _) (Nat.le_refl _) (Nat.le_refl _) hc
  have e : (if l.length = 0 then A else A.map (·.add (0 * 3))) = A := by
    cases A with
    | none => simp
    | some ad => simp [Addr.add]
  rw [e] at h1
  simpa only [Nat.zero_mul, Nat.sub_zero, List.drop_zero, List.take_of_length_le (show (keyCells l).length ≤ l.length * 3 by rw [keyCells_len]; exact Nat.le_refl _)] using h1
theorem ins_any (l : List Key) (A : Option Addr) (p : Nat) (k : Key) (hp : p ≤ l.length) (hl : l.length ≤ 200) (hA : A = none → l.length = 0) (W : World) (vb : Nat) (h : Sl W 3 A l.length l.length (keyCells l)) (hv : E.Blk W vb 28 #[.int .i64 k.stamp, .int .i64 k.sensor, .int .i64 k.seq]) :
    Calls Try.prog 48 #[.slice A l.length l.length, .int .i64 p, .slice (some ⟨vb, 0, none⟩) 1 1] W (InsertedK W (l.take p ++ k :: l.drop p)) := by
  rcases Nat.eq_or_lt_of_le hp with e | e
  · subst e
    have h1 := insertEnd_any l A k vb W h (by omega) hv hA
    rw [List.take_of_length_le (Nat.le_refl _), List.drop_of_length_le (Nat.le_refl _)]
    exact h1
  · exact insertMid_any l A p k vb W h (by omega) hv e

set_option maxRecDepth 8000 in
set_option maxHeartbeats 6400000 in
theorem put_any (s : Setup) (x : Shelf) (A : Option Addr) (c : Nat) (k : Key) (w : World) (hS : Sl w 3 A x.keys.length c (keyCells x.keys)) (hl : x.keys.length ≤ 1099511627776) :
    Calls Try.prog 15 #[s.val, x.val A c, k.val] w (OwnedS w (put s x k).1 (put s x k).2.1 (put s x k).2.2) := by
  have hx0 := (((E.Ext.alloc w (.cells #[.int .i64 s.keep, .int .i64 s.horizon, .int .i64 s.ahead, .int .i64 s.budget, .int .i64 s.window] 23)).trans (E.Ext.alloc _ (.cells #[.int .i64 x.base, .slice A x.keys.length c, .int .i64 x.clean] 26))).trans (E.Ext.alloc _ (.cells #[.int .i64 k.stamp, .int .i64 k.sensor, .int .i64 k.seq] 28))).trans (E.Ext.alloc _ (.cells #[.int .i64 0, .slice none 0 0, .int .i64 0] 26))
  obtain ⟨j, hj⟩ : ∃ j, judge s x k = j := ⟨_, rfl⟩
  have HJ := Lib.hid hj
  clear hj
  unfold Shelf.val Setup.val Key.val
  go_enter Try.func15, Try.ntmps15
  go_wp2_with fail
  refine (judge_any s x A c k _ (hS.ext hx0) hl).mono ?_
  rintro e w1 ⟨rfl, hx1⟩
  rw [HJ.out]
  have S1 : SetupB w1 w.heap.size s := E.blk3 hx1 rfl
  have X1 : ShelfB w1 (w.heap.size + 1) x A c := by have := E.blk2 hx1 rfl; simp only [World.size_alloc] at this; exact this
  have K1 : KeyB w1 (w.heap.size + 1 + 1) k := by have := E.blk1 hx1 rfl; simp only [World.size_alloc] at this; exact this
  have R1 : E.Blk w1 (w.heap.size + 1 + 1 + 1) 26 #[.int .i64 0, .slice none 0 0, .int .i64 0] := by have := E.blk0 hx1 rfl; simp only [World.size_alloc] at this; exact this
  have hx01 := hx0.trans hx1
  by_cases hj0 : j = 0
  · subst hj0
    have hfit := judge_fits HJ.out
    obtain ⟨⟨a1, a2⟩, ⟨a3, a4⟩, ⟨a5, a6⟩, ⟨a7, a8⟩, a9, a10, a11⟩ := fits_all hfit
    have hk200 := fits_len hfit
    have hup := hfit.2.1
    have HP := Lib.hid (put_ok HJ.out)
    have HUP := Lib.hid hup
    clear hfit hup
    obtain ⟨c2, f2⟩ := E.Blk.facts X1
    go_wp2_with fail
    refine EF.wp_plan_fork E.ext_pre 9 4 8 [(0, true), (1, true), (2, true), (3, true), (5, true), (6, true)] [(7, true), (8, false), (9, false)] [(4, false), (7, true), (9, false)] (by kernel_rfl) (by kernel_rfl) ?_
    repeat (first | (refine E.plan_pure (by simp only [List.getElem?_toArray, List.getElem?_cons_succ, List.getElem?_cons_zero]; rfl) (by rfl) (fun K hK => ?_); (go_simp; try go_bits; try go_simp); refine hK _ ?_; clear hK K) | (refine E.plan_load (by simp only [List.getElem?_toArray, List.getElem?_cons_succ, List.getElem?_cons_zero]; rfl) (by rfl) (by rfl) (fun K hK => ?_); (go_simp; try go_bits; try go_simp); refine hK _ ?_; clear hK K) | (refine E.plan_skip (E.Ext.refl _) (by simp only [List.getElem?_toArray, List.getElem?_cons_succ, List.getElem?_cons_zero]; rfl) (by rfl) (fun K hK => ?_); (go_simp; try go_bits; try go_simp); refine hK _ ?_; clear hK K))
    refine E.plan_nil ?_
    constructor
    · refine E.plan_eff (by simp only [List.getElem?_toArray, List.getElem?_cons_succ, List.getElem?_cons_zero]; rfl) (by rfl) (fun K hK => ?_); (go_simp; try go_bits)
      refine (clone_keys x.keys A c _ ((hS.ext hx01).ext (E.Ext.drew _)) hl).mono ?_; rintro e w2 ⟨A2, c4, rfl, hx2, ho⟩; refine hK _ _ hx2 ?_; clear hK K
      have hx12 := (E.Ext.drew w1).trans hx2
      clear c2 f2
      obtain ⟨c2, f2⟩ := E.Blk.facts (E.Blk.ext X1 hx12)
      repeat (first | (refine E.plan_pure (by simp only [List.getElem?_toArray, List.getElem?_cons_succ, List.getElem?_cons_zero]; rfl) (by rfl) (fun K hK => ?_); (go_simp; try go_bits; try go_simp); refine hK _ ?_; clear hK K) | (refine E.plan_load (by simp only [List.getElem?_toArray, List.getElem?_cons_succ, List.getElem?_cons_zero]; rfl) (by rfl) (by rfl) (fun K hK => ?_); (go_simp; try go_bits; try go_simp); refine hK _ ?_; clear hK K) | (refine E.plan_skip (E.Ext.refl _) (by simp only [List.getElem?_toArray, List.getElem?_cons_succ, List.getElem?_cons_zero]; rfl) (by rfl) (fun K hK => ?_); (go_simp; try go_bits; try go_simp); refine hK _ ?_; clear hK K))
      refine E.plan_eff (by simp only [List.getElem?_toArray, List.getElem?_cons_succ, List.getElem?_cons_zero]; rfl) (by rfl) (fun K hK => ?_); (go_simp; try go_bits); refine hK _ _ (E.Ext.alloc _ _) ?_; clear hK K
      repeat (first | (refine E.plan_pure (by simp only [List.getElem?_toArray, List.getElem?_cons_succ, List.getElem?_cons_zero]; rfl) (by rfl) (fun K hK => ?_); (go_simp; try go_bits; try go_simp); refine hK _ ?_; clear hK K) | (refine E.plan_load (by simp only [List.getElem?_toArray, List.getElem?_cons_succ, List.getElem?_cons_zero]; rfl) (by rfl) (by rfl) (fun K hK => ?_); (go_simp; try go_bits; try go_simp); refine hK _ ?_; clear hK K) | (refine E.plan_skip (E.Ext.refl _) (by simp only [List.getElem?_toArray, List.getElem?_cons_succ, List.getElem?_cons_zero]; rfl) (by rfl) (fun K hK => ?_); (go_simp; try go_bits; try go_simp); refine hK _ ?_; clear hK K))
      refine E.plan_last (by simp only [List.getElem?_toArray, List.getElem?_cons_succ, List.getElem?_cons_zero]; rfl) (by rfl) (fun K hK => ?_); (go_simp; try go_bits); refine hK _ _ ?_; clear hK K
      repeat (first | (refine E.plan_pure (by simp only [List.getElem?_toArray, List.getElem?_cons_succ, List.getElem?_cons_zero]; rfl) (by rfl) (fun K hK => ?_); (go_simp; try go_bits; try go_simp); refine hK _ ?_; clear hK K) | (refine E.plan_load (by simp only [List.getElem?_toArray, List.getElem?_cons_succ, List.getElem?_cons_zero]; rfl) (by rfl) (by rfl) (fun K hK => ?_); (go_simp; try go_bits; try go_simp); refine hK _ ?_; clear hK K) | (refine E.plan_skip (E.Ext.refl _) (by simp only [List.getElem?_toArray, List.getElem?_cons_succ, List.getElem?_cons_zero]; rfl) (by rfl) (fun K hK => ?_); (go_simp; try go_bits; try go_simp); refine hK _ ?_; clear hK K))
      refine E.plan_nil ?_
      have OB4 := E.Blk.new w2 26 #[.int .i64 x.base, .slice A2 x.keys.length c4, .int .i64 x.clean]
      have hx24 := E.Ext.alloc w2 (.cells #[.int .i64 x.base, .slice A2 x.keys.length c4, .int .i64 x.clean] 26)
      have hx14 := hx12.trans hx24
      have S4 : SetupB _ _ s := E.Blk.ext S1 hx14
      have X4 : ShelfB _ _ x A c := E.Blk.ext X1 hx14
      have K4 : KeyB _ _ k := E.Blk.ext K1 hx14
      have R4 := R1.ext hx14
      have ho4 := own_mono (own_ext ho hx24) (show w.heap.size ≤ _ by have := hx01.size; exact this)
      have hxW4 := hx01.trans hx14
      have hobW : w.heap.size ≤ w2.heap.size := by have := hx01.size; have := hx12.size; omega
      have hobr : ¬ w.heap.size + 1 + 1 + 1 = w2.heap.size := by have := R1.lt; have := hx12.size; omega
      generalize hob : w2.heap.size = ob at *
      generalize hW4 : w2.alloc (.cells #[.int .i64 x.base, .slice A2 x.keys.length c4, .int .i64 x.clean] 26) = W4 at *
      clear hW4 hx24 hx14 hx12 hx2 hx1 hx0 c2 f2 S1 X1 K1 R1 ho
      have hcl4 := (own_sl' ho4).cap
      have hmx4 := (own_sl' ho4).max
      obtain ⟨cs, fs⟩ := E.Blk.facts S4
      obtain ⟨cx, fx⟩ := E.Blk.facts X4
      go_wp2_with fail
      refine (full_any s x A c _).mono ?_
      rintro e w5 ⟨rfl, hx5⟩
      clear cs fs cx fx
      have K5 := E.Blk.ext K4 hx5
      have R5 := R4.ext hx5
      have OB5 := OB4.ext hx5
      have ho5 := own_ext ho4 hx5
      have hxW5 := hxW4.trans hx5
      cases hfu : fullB s x with
      | false =>
        have HROOM := Lib.hid (room_not hfu)
        clear hfu
        have hSl7 := own_sl' ho5
        have hxW7 := hxW5
        have K7 := K5
        have R7 := R5
        have OB7 := OB5
        have HUP7 := HUP
        have hm200 := hk200
        have hA3 : A2 = none → x.keys.length = 0 := fun e => by
          rcases ho5.2 with ⟨_, h0⟩ | ⟨g, cap, cur, hv, _⟩
          · exact h0
          · subst e; cases hv
        have hml := hSl7.cap
        have hmx := hSl7.max
        obtain ⟨ck, fk⟩ := E.Blk.facts K7
        obtain ⟨co, fo⟩ := OB7.facts
        go_wp2_with fail
        refine (find_up x.keys A2 c4 k _ hSl7 (by omega) HUP7.out).mono ?_
        rintro e w8 ⟨rfl, hx8⟩
        obtain ⟨p, hp⟩ : ∃ p, kpos x.keys k = p := ⟨_, rfl⟩
        have hple : p ≤ x.keys.length := by rw [← hp]; exact kpos_le _ _
        have HPK := Lib.hid hp
        rw [hp]
        clear hp ck fk co fo
        replace K7 := E.Blk.ext K7 hx8
        replace R7 := R7.ext hx8
        replace OB7 := OB7.ext hx8
        obtain ⟨ck, fk⟩ := E.Blk.facts K7
        obtain ⟨co, fo⟩ := OB7.facts
        have hSl8 := (ksl_full hSl7).ext hx8
        have HINS := Lib.hid (ins_any x.keys A2 p k hple hm200 hA3)
        have hnl : (x.keys.take p ++ k :: x.keys.drop p).length = x.keys.length + 1 := by rw [List.length_append, List.length_cons, List.length_take, List.length_drop, Nat.min_eq_left hple]; omega
        have HNL := Lib.hid hnl
        clear hnl
        go_wp2_with fail
        refine E.wp_plan E.ext_pre 14 [(0, true), (1, true), (2, true), (3, true), (4, true), (5, true), (6, true), (7, true), (8, true), (9, true), (10, true), (11, false), (12, false), (13, true), (14, false)] (by kernel_rfl) (by kernel_rfl) ?_
        repeat (first | (refine E.plan_pure (by simp only [List.getElem?_toArray, List.getElem?_cons_succ, List.getElem?_cons_zero]; rfl) (by rfl) (fun K hK => ?_); (go_simp; try go_bits; try go_simp); refine hK _ ?_; clear hK K) | (refine E.plan_load (by simp only [List.getElem?_toArray, List.getElem?_cons_succ, List.getElem?_cons_zero]; rfl) (by rfl) (by rfl) (fun K hK => ?_); (go_simp; try go_bits; try go_simp); refine hK _ ?_; clear hK K) | (refine E.plan_skip (E.Ext.refl _) (by simp only [List.getElem?_toArray, List.getElem?_cons_succ, List.getElem?_cons_zero]; rfl) (by rfl) (fun K hK => ?_); (go_simp; try go_bits; try go_simp); refine hK _ ?_; clear hK K))
        refine E.plan_eff (by simp only [List.getElem?_toArray, List.getElem?_cons_succ, List.getElem?_cons_zero]; rfl) (by rfl) (fun K hK => ?_); (go_simp; try go_bits); refine hK _ _ (E.Ext.alloc _ _) ?_; clear hK K
        refine E.plan_eff (by simp only [List.getElem?_toArray, List.getElem?_cons_succ, List.getElem?_cons_zero]; rfl) (by rfl) (fun K hK => ?_); (go_simp; try go_bits)
        refine (HINS.out _ _ ((hSl8.ext (E.Ext.drew _)).ext (E.Ext.alloc _ _)) (E.Blk.new _ _ _)).mono ?_; rintro e w9 ⟨A5, c5, rfl, hx9, ho9⟩; refine hK _ _ hx9 ?_; clear hK K
        have hx89 := ((E.Ext.drew w8).trans (E.Ext.alloc _ _)).trans hx9
        have R9 := R7.ext hx89
        have OB9 := OB7.ext hx89
        clear ck fk co fo
        obtain ⟨cr, fr⟩ := R9.facts
        obtain ⟨co, fo⟩ := OB9.facts
        have hobl := OB9.lt
        have hrl := R9.lt
        repeat (first | (refine E.plan_pure (by simp only [List.getElem?_toArray, List.getElem?_cons_succ, List.getElem?_cons_zero]; rfl) (by rfl) (fun K hK => ?_); (go_simp; try go_bits; try go_simp); refine hK _ ?_; clear hK K) | (refine E.plan_load (by simp only [List.getElem?_toArray, List.getElem?_cons_succ, List.getElem?_cons_zero]; rfl) (by rfl) (by rfl) (fun K hK => ?_); (go_simp; try go_bits; try go_simp); refine hK _ ?_; clear hK K) | (refine E.plan_skip (E.Ext.refl _) (by simp only [List.getElem?_toArray, List.getElem?_cons_succ, List.getElem?_cons_zero]; rfl) (by rfl) (fun K hK => ?_); (go_simp; try go_bits; try go_simp); refine hK _ ?_; clear hK K))
        refine E.plan_last (by simp only [List.getElem?_toArray, List.getElem?_cons_succ, List.getElem?_cons_zero]; rfl) (by rfl) (fun K hK => ?_); (go_simp; try go_bits); refine hK _ _ ?_; clear hK K
        repeat (first | (refine E.plan_pure (by simp only [List.getElem?_toArray, List.getElem?_cons_succ, List.getElem?_cons_zero]; rfl) (by rfl) (fun K hK => ?_); (go_simp; try go_bits; try go_simp); refine hK _ ?_; clear hK K) | (refine E.plan_load (by simp only [List.getElem?_toArray, List.getElem?_cons_succ, List.getElem?_cons_zero]; rfl) (by rfl) (by rfl) (fun K hK => ?_); (go_simp; try go_bits; try go_simp); refine hK _ ?_; clear hK K) | (refine E.plan_skip (E.Ext.refl _) (by simp only [List.getElem?_toArray, List.getElem?_cons_succ, List.getElem?_cons_zero]; rfl) (by rfl) (fun K hK => ?_); (go_simp; try go_bits; try go_simp); refine hK _ ?_; clear hK K))
        refine E.plan_nil ?_
        have hext9 : E.Ext w w9 := (hxW7.trans hx8).trans hx89
        have hown9 := own_mono ho9 (show w.heap.size ≤ _ by have := (hxW7.trans hx8).size; simp; omega)
        go_wp2_with fail
        all_goals
          first
            | (have hn : min x.clean ((p : Nat) : Int) = x.clean := by omega
               refine bodyPost_ret (v := .tuple #[(Shelf.mk x.base (x.keys.take p ++ k :: x.keys.drop p) (x.clean)).val A5 c5, .int .i64 p, .int .i64 0]) (by simp [results, Try.results15, go_sem, cr, fr, co, fo, Shelf.val, hobr, Nat.min_eq_left hple]) rfl ?_
               rw [HP.out, HROOM.out]
               unfold putAt
               simp only [HPK.out]
               rw [hn]
               refine ⟨A5, c5, rfl, ?_, ?_⟩)
            | (have hn : min x.clean ((p : Nat) : Int) = ((p : Nat) : Int) := by omega
               refine bodyPost_ret (v := .tuple #[(Shelf.mk x.base (x.keys.take p ++ k :: x.keys.drop p) ((p : Nat) : Int)).val A5 c5, .int .i64 p, .int .i64 0]) (by simp [results, Try.results15, go_sem, cr, fr, co, fo, Shelf.val, hobr, Nat.min_eq_left hple]) rfl ?_
               rw [HP.out, HROOM.out]
               unfold putAt
               simp only [HPK.out]
               rw [hn]
               refine ⟨A5, c5, rfl, ?_, ?_⟩)
          · repeat (refine E.Ext.setCell ?_ (by first | (simp; done) | (simp; omega) | omega) _)
            exact hext9
          · refine own_extS (S := fun k => k = ob ∨ k = w.heap.size + 1 + 1 + 1) hown9 ?_ (fun g cs hg e => ?_)
            · repeat (refine E.ExtS.set ?_ (by simp) _)
              exact E.ExtS.refl _ _
            · rcases e with e | e
              · exact hg.ne OB9 (by decide) e
              · exact hg.ne R9 (by decide) e
      | true =>
        have hlen : 0 < x.keys.length := full_len (judge_fits HJ.out) hfu
        have hcl1 := judge_clean HJ.out hfu
        have HROOM := Lib.hid (room_full hfu hlen)
        clear hfu
        obtain ⟨g, hA2⟩ : ∃ g, A2 = some ⟨g, 0, none⟩ := by
          rcases ho5.2 with ⟨_, h0⟩ | ⟨g, cap, cur, hv, _⟩
          · omega
          · injection hv with h1 _ _
            exact ⟨g, h1⟩
        subst hA2
        obtain ⟨b', o', hA', k0, k1, k2⟩ := key_at (own_sl' ho5) (k := 0) hlen
        cases hA'
        simp only [Nat.zero_mul, Nat.add_zero] at k0 k1 k2
        obtain ⟨co, fo⟩ := OB5.facts
        have hobl := OB5.lt
        have hobw : w.heap.size ≤ ob := hobW
        have htl : x.keys.tail.length = x.keys.length - 1 := List.length_tail
        have hl1 : 1 ≤ x.keys.length := hlen
        have hl2 : (1 : Int) ≤ (x.keys.length : Int) := by omega
        have hl3 : ¬ x.keys = [] := fun e => by rw [e] at hlen; cases hlen
        have hl4 : x.keys ≠ [] := hl3
        have hl5 : (0 : Int) < (x.keys.length : Int) := by omega
        by_cases hn1 : x.keys.length = 1
        · have hif : (x.keys.length = 1) = True := by simp [hn1]
          have HN1 := Lib.hid hn1
          clear hn1
          go_wp2_with fail
          refine EZ.wp_plan E.ext_pre [18, 20, 22] [9, 12, 13, 16] [(0, true), (1, true), (2, true), (3, true), (4, true), (5, true), (6, true), (7, true), (8, true), (9, true), (10, true), (11, true), (12, true), (13, true), (14, true), (15, true), (16, true), (17, true), (18, false), (19, true), (20, false), (21, true), (22, false)] (by kernel_rfl) (by kernel_rfl) ?_
          repeat (first | (refine EZ.plan_pure (by simp only [List.getElem?_toArray, List.getElem?_cons_succ, List.getElem?_cons_zero]; rfl) (by rfl) (fun K hK => ?_); (go_simp; try go_bits; try go_simp); refine hK _ ?_; clear hK K) | (refine EZ.plan_load (by simp only [List.getElem?_toArray, List.getElem?_cons_succ, List.getElem?_cons_zero]; rfl) (by rfl) (by rfl) (by rfl) (fun K hK => ?_); (go_simp; try go_bits; try go_simp); refine hK _ ?_; clear hK K) | (refine EZ.plan_skip (E.Ext.refl _) (by simp only [List.getElem?_toArray, List.getElem?_cons_succ, List.getElem?_cons_zero]; rfl) (by rfl) (fun K hK => ?_); (go_simp; try go_bits; try go_simp); refine hK _ ?_; clear hK K))
          refine EZ.plan_last (by simp only [List.getElem?_toArray, List.getElem?_cons_succ, List.getElem?_cons_zero]; rfl) (by rfl) (by decide) (fun K hK => ?_); (go_simp; try go_bits); refine hK _ _ ?_; clear hK K
          repeat (first | (refine EZ.plan_pure (by simp only [List.getElem?_toArray, List.getElem?_cons_succ, List.getElem?_cons_zero]; rfl) (by rfl) (fun K hK => ?_); (go_simp; try go_bits; try go_simp); refine hK _ ?_; clear hK K) | (refine EZ.plan_load (by simp only [List.getElem?_toArray, List.getElem?_cons_succ, List.getElem?_cons_zero]; rfl) (by rfl) (by rfl) (by rfl) (fun K hK => ?_); (go_simp; try go_bits; try go_simp); refine hK _ ?_; clear hK K) | (refine EZ.plan_skip (E.Ext.refl _) (by simp only [List.getElem?_toArray, List.getElem?_cons_succ, List.getElem?_cons_zero]; rfl) (by rfl) (fun K hK => ?_); (go_simp; try go_bits; try go_simp); refine hK _ ?_; clear hK K))
          refine EZ.plan_last (by simp only [List.getElem?_toArray, List.getElem?_cons_succ, List.getElem?_cons_zero]; rfl) (by rfl) (by decide) (fun K hK => ?_); (go_simp; try go_bits); refine hK _ _ ?_; clear hK K
          repeat (first | (refine EZ.plan_pure (by simp only [List.getElem?_toArray, List.getElem?_cons_succ, List.getElem?_cons_zero]; rfl) (by rfl) (fun K hK => ?_); (go_simp; try go_bits; try go_simp); refine hK _ ?_; clear hK K) | (refine EZ.plan_load (by simp only [List.getElem?_toArray, List.getElem?_cons_succ, List.getElem?_cons_zero]; rfl) (by rfl) (by rfl) (by rfl) (fun K hK => ?_); (go_simp; try go_bits; try go_simp); refine hK _ ?_; clear hK K) | (refine EZ.plan_skip (E.Ext.refl _) (by simp only [List.getElem?_toArray, List.getElem?_cons_succ, List.getElem?_cons_zero]; rfl) (by rfl) (fun K hK => ?_); (go_simp; try go_bits; try go_simp); refine hK _ ?_; clear hK K))
          refine EZ.plan_last (by simp only [List.getElem?_toArray, List.getElem?_cons_succ, List.getElem?_cons_zero]; rfl) (by rfl) (by decide) (fun K hK => ?_); (go_simp; try go_bits); refine hK _ _ ?_; clear hK K
          refine EZ.plan_nil ?_
          have OB7 : E.Blk ((((w5.setCell ⟨ob, 0, none⟩ (.int .i64 (x.keys[0]'hlen).stamp)).setCell ⟨ob, 1, none⟩ (.slice (some ⟨g, 0, none⟩) (x.keys.length - 1) (x.keys.length - 1))).setCell ⟨ob, 2, none⟩ (.int .i64 (x.clean - 1))).drew) ob 26 #[.int .i64 (x.keys[0]'hlen).stamp, .slice (some ⟨g, 0, none⟩) (x.keys.length - 1) (x.keys.length - 1), .int .i64 (x.clean - 1)] :=
            (((OB5.set 0 (.int .i64 (x.keys[0]'hlen).stamp)).set 1 (.slice (some ⟨g, 0, none⟩) (x.keys.length - 1) (x.keys.length - 1))).set 2 (.int .i64 (x.clean - 1))).drew
          have hxS : E.ExtS (fun i => i = ob) w5 ((((w5.setCell ⟨ob, 0, none⟩ (.int .i64 (x.keys[0]'hlen).stamp)).setCell ⟨ob, 1, none⟩ (.slice (some ⟨g, 0, none⟩) (x.keys.length - 1) (x.keys.length - 1))).setCell ⟨ob, 2, none⟩ (.int .i64 (x.clean - 1))).drew) := by
            refine E.ExtS.trans ?_ ((E.Ext.drew _).toS _)
            repeat (refine E.ExtS.set ?_ (by simp) _)
            exact E.ExtS.refl _ _
          generalize hW7 : (((w5.setCell ⟨ob, 0, none⟩ (.int .i64 (x.keys[0]'hlen).stamp)).setCell ⟨ob, 1, none⟩ (.slice (some ⟨g, 0, none⟩) (x.keys.length - 1) (x.keys.length - 1))).setCell ⟨ob, 2, none⟩ (.int .i64 (x.clean - 1))).drew = W7 at *
          clear hW7 co fo k0 k1 k2
          have K7 : KeyB W7 _ k := E.Blk.extS K5 hxS (fun e => E.Blk.ne K5 OB5 (by decide) e)
          have R7 := R5.extS hxS (fun e => hobr e)
          have ho7 := own_extS ho5 hxS (fun g' cs hg e => hg.ne OB5 (by decide) e)
          have hxW7 := hxW5.thenS hxS (fun i hi e => by have e' : i = ob := e; omega)
          have hSl7 : Sl W7 3 (some ⟨g, 0, none⟩) (x.keys.length - 1) (x.keys.length - 1) (keyCells x.keys.tail) := by
            have h1 := (own_sl' ho7).cut (by decide) (k := 1) (m := x.keys.length) (c' := x.keys.length) hl1 (Nat.le_refl _) (Nat.le_refl _) hcl4
            rw [List.take_of_length_le (by rw [keyCells_len]; exact Nat.le_refl _), ← keyCells_drop] at h1
            have hi := HN1.out
            have e : ∀ B : Option Addr, (if x.keys.length = 1 then some ⟨g, 0, none⟩ else (some (⟨g, 0, none⟩ : Addr)).map (·.add (1 * 3))) = B → B = (some ⟨g, 0, none⟩) := by
              intro B hB
              rw [← hB]
              first
                | rw [if_pos hi]
                | (rw [if_neg hi, Option.map_some, addr_add])
            rw [e _ rfl, List.drop_one] at h1
            exact h1
          have hUPt := up_tail HUP.out
          have HRT := HROOM.out
          rw [← htl] at hSl7 OB7
          try rw [← htl]
          generalize hkt : x.keys.tail = kt at *
          have HUP7 := Lib.hid hUPt
          have hm200 : kt.length ≤ 200 := by omega
          have hA3 : ((some ⟨g, 0, none⟩) : Option Addr) = none → kt.length = 0 := fun e => by cases e
          clear HROOM
          have HROOM := Lib.hid HRT
          clear HRT hUPt htl hkt hl1 hl2 hl3 hl4 hl5 hif
          have hml := hSl7.cap
          have hmx := hSl7.max
          obtain ⟨ck, fk⟩ := E.Blk.facts K7
          obtain ⟨co, fo⟩ := OB7.facts
          go_wp2_with fail
          refine (find_up kt (some ⟨g, 0, none⟩) kt.length k _ hSl7 (by omega) HUP7.out).mono ?_
          rintro e w8 ⟨rfl, hx8⟩
          obtain ⟨p, hp⟩ : ∃ p, kpos kt k = p := ⟨_, rfl⟩
          have hple : p ≤ kt.length := by rw [← hp]; exact kpos_le _ _
          have HPK := Lib.hid hp
          rw [hp]
          clear hp ck fk co fo
          replace K7 := E.Blk.ext K7 hx8
          replace R7 := R7.ext hx8
          replace OB7 := OB7.ext hx8
          obtain ⟨ck, fk⟩ := E.Blk.facts K7
          obtain ⟨co, fo⟩ := OB7.facts
          have hSl8 := (ksl_full hSl7).ext hx8
          have HINS := Lib.hid (ins_any kt (some ⟨g, 0, none⟩) p k hple hm200 hA3)
          have hnl : (kt.take p ++ k :: kt.drop p).length = kt.length + 1 := by rw [List.length_append, List.length_cons, List.length_take, List.length_drop, Nat.min_eq_left hple]; omega
          have HNL := Lib.hid hnl
          clear hnl
          go_wp2_with fail
          refine E.wp_plan E.ext_pre 14 [(0, true), (1, true), (2, true), (3, true), (4, true), (5, true), (6, true), (7, true), (8, true), (9, true), (10, true), (11, false), (12, false), (13, true), (14, false)] (by kernel_rfl) (by kernel_rfl) ?_
          repeat (first | (refine E.plan_pure (by simp only [List.getElem?_toArray, List.getElem?_cons_succ, List.getElem?_cons_zero]; rfl) (by rfl) (fun K hK => ?_); (go_simp; try go_bits; try go_simp); refine hK _ ?_; clear hK K) | (refine E.plan_load (by simp only [List.getElem?_toArray, List.getElem?_cons_succ, List.getElem?_cons_zero]; rfl) (by rfl) (by rfl) (fun K hK => ?_); (go_simp; try go_bits; try go_simp); refine hK _ ?_; clear hK K) | (refine E.plan_skip (E.Ext.refl _) (by simp only [List.getElem?_toArray, List.getElem?_cons_succ, List.getElem?_cons_zero]; rfl) (by rfl) (fun K hK => ?_); (go_simp; try go_bits; try go_simp); refine hK _ ?_; clear hK K))
          refine E.plan_eff (by simp only [List.getElem?_toArray, List.getElem?_cons_succ, List.getElem?_cons_zero]; rfl) (by rfl) (fun K hK => ?_); (go_simp; try go_bits); refine hK _ _ (E.Ext.alloc _ _) ?_; clear hK K
          refine E.plan_eff (by simp only [List.getElem?_toArray, List.getElem?_cons_succ, List.getElem?_cons_zero]; rfl) (by rfl) (fun K hK => ?_); (go_simp; try go_bits)
          refine (HINS.out _ _ ((hSl8.ext (E.Ext.drew _)).ext (E.Ext.alloc _ _)) (E.Blk.new _ _ _)).mono ?_; rintro e w9 ⟨A5, c5, rfl, hx9, ho9⟩; refine hK _ _ hx9 ?_; clear hK K
          have hx89 := ((E.Ext.drew w8).trans (E.Ext.alloc _ _)).trans hx9
          have R9 := R7.ext hx89
          have OB9 := OB7.ext hx89
          clear ck fk co fo
          obtain ⟨cr, fr⟩ := R9.facts
          obtain ⟨co, fo⟩ := OB9.facts
          have hobl := OB9.lt
          have hrl := R9.lt
          repeat (first | (refine E.plan_pure (by simp only [List.getElem?_toArray, List.getElem?_cons_succ, List.getElem?_cons_zero]; rfl) (by rfl) (fun K hK => ?_); (go_simp; try go_bits; try go_simp); refine hK _ ?_; clear hK K) | (refine E.plan_load (by simp only [List.getElem?_toArray, List.getElem?_cons_succ, List.getElem?_cons_zero]; rfl) (by rfl) (by rfl) (fun K hK => ?_); (go_simp; try go_bits; try go_simp); refine hK _ ?_; clear hK K) | (refine E.plan_skip (E.Ext.refl _) (by simp only [List.getElem?_toArray, List.getElem?_cons_succ, List.getElem?_cons_zero]; rfl) (by rfl) (fun K hK => ?_); (go_simp; try go_bits; try go_simp); refine hK _ ?_; clear hK K))
          refine E.plan_last (by simp only [List.getElem?_toArray, List.getElem?_cons_succ, List.getElem?_cons_zero]; rfl) (by rfl) (fun K hK => ?_); (go_simp; try go_bits); refine hK _ _ ?_; clear hK K
          repeat (first | (refine E.plan_pure (by simp only [List.getElem?_toArray, List.getElem?_cons_succ, List.getElem?_cons_zero]; rfl) (by rfl) (fun K hK => ?_); (go_simp; try go_bits; try go_simp); refine hK _ ?_; clear hK K) | (refine E.plan_load (by simp only [List.getElem?_toArray, List.getElem?_cons_succ, List.getElem?_cons_zero]; rfl) (by rfl) (by rfl) (fun K hK => ?_); (go_simp; try go_bits; try go_simp); refine hK _ ?_; clear hK K) | (refine E.plan_skip (E.Ext.refl _) (by simp only [List.getElem?_toArray, List.getElem?_cons_succ, List.getElem?_cons_zero]; rfl) (by rfl) (fun K hK => ?_); (go_simp; try go_bits; try go_simp); refine hK _ ?_; clear hK K))
          refine E.plan_nil ?_
          have hext9 : E.Ext w w9 := (hxW7.trans hx8).trans hx89
          have hown9 := own_mono ho9 (show w.heap.size ≤ _ by have := (hxW7.trans hx8).size; simp; omega)
          go_wp2_with fail
          all_goals
            first
              | (have hn : min (x.clean - 1) ((p : Nat) : Int) = (x.clean - 1) := by omega
                 refine bodyPost_ret (v := .tuple #[(Shelf.mk (x.keys[0]'hlen).stamp (kt.take p ++ k :: kt.drop p) ((x.clean - 1))).val A5 c5, .int .i64 p, .int .i64 0]) (by simp [results, Try.results15, go_sem, cr, fr, co, fo, Shelf.val, hobr, Nat.min_eq_left hple]) rfl ?_
                 rw [HP.out, HROOM.out]
                 unfold putAt
                 simp only [HPK.out]
                 rw [hn]
                 refine ⟨A5, c5, rfl, ?_, ?_⟩)
              | (have hn : min (x.clean - 1) ((p : Nat) : Int) = ((p : Nat) : Int) := by omega
                 refine bodyPost_ret (v := .tuple #[(Shelf.mk (x.keys[0]'hlen).stamp (kt.take p ++ k :: kt.drop p) ((p : Nat) : Int)).val A5 c5, .int .i64 p, .int .i64 0]) (by simp [results, Try.results15, go_sem, cr, fr, co, fo, Shelf.val, hobr, Nat.min_eq_left hple]) rfl ?_
                 rw [HP.out, HROOM.out]
                 unfold putAt
                 simp only [HPK.out]
                 rw [hn]
                 refine ⟨A5, c5, rfl, ?_, ?_⟩)
            · repeat (refine E.Ext.setCell ?_ (by first | (simp; done) | (simp; omega) | omega) _)
              exact hext9
            · refine own_extS (S := fun k => k = ob ∨ k = w.heap.size + 1 + 1 + 1) hown9 ?_ (fun g cs hg e => ?_)
              · repeat (refine E.ExtS.set ?_ (by simp) _)
                exact E.ExtS.refl _ _
              · rcases e with e | e
                · exact hg.ne OB9 (by decide) e
                · exact hg.ne R9 (by decide) e
        · have hif : (x.keys.length = 1) = False := by simp [hn1]
          have HN1 := Lib.hid hn1
          clear hn1
          go_wp2_with fail
          refine EZ.wp_plan E.ext_pre [18, 20, 22] [9, 12, 13, 16] [(0, true), (1, true), (2, true), (3, true), (4, true), (5, true), (6, true), (7, true), (8, true), (9, true), (10, true), (11, true), (12, true), (13, true), (14, true), (15, true), (16, true), (17, true), (18, false), (19, true), (20, false), (21, true), (22, false)] (by kernel_rfl) (by kernel_rfl) ?_
          repeat (first | (refine EZ.plan_pure (by simp only [List.getElem?_toArray, List.getElem?_cons_succ, List.getElem?_cons_zero]; rfl) (by rfl) (fun K hK => ?_); (go_simp; try go_bits; try go_simp); refine hK _ ?_; clear hK K) | (refine EZ.plan_load (by simp only [List.getElem?_toArray, List.getElem?_cons_succ, List.getElem?_cons_zero]; rfl) (by rfl) (by rfl) (by rfl) (fun K hK => ?_); (go_simp; try go_bits; try go_simp); refine hK _ ?_; clear hK K) | (refine EZ.plan_skip (E.Ext.refl _) (by simp only [List.getElem?_toArray, List.getElem?_cons_succ, List.getElem?_cons_zero]; rfl) (by rfl) (fun K hK => ?_); (go_simp; try go_bits; try go_simp); refine hK _ ?_; clear hK K))
          refine EZ.plan_last (by simp only [List.getElem?_toArray, List.getElem?_cons_succ, List.getElem?_cons_zero]; rfl) (by rfl) (by decide) (fun K hK => ?_); (go_simp; try go_bits); refine hK _ _ ?_; clear hK K
          repeat (first | (refine EZ.plan_pure (by simp only [List.getElem?_toArray, List.getElem?_cons_succ, List.getElem?_cons_zero]; rfl) (by rfl) (fun K hK => ?_); (go_simp; try go_bits; try go_simp); refine hK _ ?_; clear hK K) | (refine EZ.plan_load (by simp only [List.getElem?_toArray, List.getElem?_cons_succ, List.getElem?_cons_zero]; rfl) (by rfl) (by rfl) (by rfl) (fun K hK => ?_); (go_simp; try go_bits; try go_simp); refine hK _ ?_; clear hK K) | (refine EZ.plan_skip (E.Ext.refl _) (by simp only [List.getElem?_toArray, List.getElem?_cons_succ, List.getElem?_cons_zero]; rfl) (by rfl) (fun K hK => ?_); (go_simp; try go_bits; try go_simp); refine hK _ ?_; clear hK K))
          refine EZ.plan_last (by simp only [List.getElem?_toArray, List.getElem?_cons_succ, List.getElem?_cons_zero]; rfl) (by rfl) (by decide) (fun K hK => ?_); (go_simp; try go_bits); refine hK _ _ ?_; clear hK K
          repeat (first | (refine EZ.plan_pure (by simp only [List.getElem?_toArray, List.getElem?_cons_succ, List.getElem?_cons_zero]; rfl) (by rfl) (fun K hK => ?_); (go_simp; try go_bits; try go_simp); refine hK _ ?_; clear hK K) | (refine EZ.plan_load (by simp only [List.getElem?_toArray, List.getElem?_cons_succ, List.getElem?_cons_zero]; rfl) (by rfl) (by rfl) (by rfl) (fun K hK => ?_); (go_simp; try go_bits; try go_simp); refine hK _ ?_; clear hK K) | (refine EZ.plan_skip (E.Ext.refl _) (by simp only [List.getElem?_toArray, List.getElem?_cons_succ, List.getElem?_cons_zero]; rfl) (by rfl) (fun K hK => ?_); (go_simp; try go_bits; try go_simp); refine hK _ ?_; clear hK K))
          refine EZ.plan_last (by simp only [List.getElem?_toArray, List.getElem?_cons_succ, List.getElem?_cons_zero]; rfl) (by rfl) (by decide) (fun K hK => ?_); (go_simp; try go_bits); refine hK _ _ ?_; clear hK K
          refine EZ.plan_nil ?_
          have OB7 : E.Blk ((((w5.setCell ⟨ob, 0, none⟩ (.int .i64 (x.keys[0]'hlen).stamp)).setCell ⟨ob, 1, none⟩ (.slice (some ⟨g, 3, none⟩) (x.keys.length - 1) (x.keys.length - 1))).setCell ⟨ob, 2, none⟩ (.int .i64 (x.clean - 1))).drew) ob 26 #[.int .i64 (x.keys[0]'hlen).stamp, .slice (some ⟨g, 3, none⟩) (x.keys.length - 1) (x.keys.length - 1), .int .i64 (x.clean - 1)] :=
            (((OB5.set 0 (.int .i64 (x.keys[0]'hlen).stamp)).set 1 (.slice (some ⟨g, 3, none⟩) (x.keys.length - 1) (x.keys.length - 1))).set 2 (.int .i64 (x.clean - 1))).drew
          have hxS : E.ExtS (fun i => i = ob) w5 ((((w5.setCell ⟨ob, 0, none⟩ (.int .i64 (x.keys[0]'hlen).stamp)).setCell ⟨ob, 1, none⟩ (.slice (some ⟨g, 3, none⟩) (x.keys.length - 1) (x.keys.length - 1))).setCell ⟨ob, 2, none⟩ (.int .i64 (x.clean - 1))).drew) := by
            refine E.ExtS.trans ?_ ((E.Ext.drew _).toS _)
            repeat (refine E.ExtS.set ?_ (by simp) _)
            exact E.ExtS.refl _ _
          generalize hW7 : (((w5.setCell ⟨ob, 0, none⟩ (.int .i64 (x.keys[0]'hlen).stamp)).setCell ⟨ob, 1, none⟩ (.slice (some ⟨g, 3, none⟩) (x.keys.length - 1) (x.keys.length - 1))).setCell ⟨ob, 2, none⟩ (.int .i64 (x.clean - 1))).drew = W7 at *
          clear hW7 co fo k0 k1 k2
          have K7 : KeyB W7 _ k := E.Blk.extS K5 hxS (fun e => E.Blk.ne K5 OB5 (by decide) e)
          have R7 := R5.extS hxS (fun e => hobr e)
          have ho7 := own_extS ho5 hxS (fun g' cs hg e => hg.ne OB5 (by decide) e)
          have hxW7 := hxW5.thenS hxS (fun i hi e => by have e' : i = ob := e; omega)
          have hSl7 : Sl W7 3 (some ⟨g, 3, none⟩) (x.keys.length - 1) (x.keys.length - 1) (keyCells x.keys.tail) := by
            have h1 := (own_sl' ho7).cut (by decide) (k := 1) (m := x.keys.length) (c' := x.keys.length) hl1 (Nat.le_refl _) (Nat.le_refl _) hcl4
            rw [List.take_of_length_le (by rw [keyCells_len]; exact Nat.le_refl _), ← keyCells_drop] at h1
            have hi := HN1.out
            have e : ∀ B : Option Addr, (if x.keys.length = 1 then some ⟨g, 0, none⟩ else (some (⟨g, 0, none⟩ : Addr)).map (·.add (1 * 3))) = B → B = (some ⟨g, 3, none⟩) := by
              intro B hB
              rw [← hB]
              first
                | rw [if_pos hi]
                | (rw [if_neg hi, Option.map_some, addr_add])
            rw [e _ rfl, List.drop_one] at h1
            exact h1
          have hUPt := up_tail HUP.out
          have HRT := HROOM.out
          rw [← htl] at hSl7 OB7
          try rw [← htl]
          generalize hkt : x.keys.tail = kt at *
          have HUP7 := Lib.hid hUPt
          have hm200 : kt.length ≤ 200 := by omega
          have hA3 : ((some ⟨g, 3, none⟩) : Option Addr) = none → kt.length = 0 := fun e => by cases e
          clear HROOM
          have HROOM := Lib.hid HRT
          clear HRT hUPt htl hkt hl1 hl2 hl3 hl4 hl5 hif
          have hml := hSl7.cap
          have hmx := hSl7.max
          obtain ⟨ck, fk⟩ := E.Blk.facts K7
          obtain ⟨co, fo⟩ := OB7.facts
          go_wp2_with fail
          refine (find_up kt (some ⟨g, 3, none⟩) kt.length k _ hSl7 (by omega) HUP7.out).mono ?_
          rintro e w8 ⟨rfl, hx8⟩
          obtain ⟨p, hp⟩ : ∃ p, kpos kt k = p := ⟨_, rfl⟩
          have hple : p ≤ kt.length := by rw [← hp]; exact kpos_le _ _
          have HPK := Lib.hid hp
          rw [hp]
          clear hp ck fk co fo
          replace K7 := E.Blk.ext K7 hx8
          replace R7 := R7.ext hx8
          replace OB7 := OB7.ext hx8
          obtain ⟨ck, fk⟩ := E.Blk.facts K7
          obtain ⟨co, fo⟩ := OB7.facts
          have hSl8 := (ksl_full hSl7).ext hx8
          have HINS := Lib.hid (ins_any kt (some ⟨g, 3, none⟩) p k hple hm200 hA3)
          have hnl : (kt.take p ++ k :: kt.drop p).length = kt.length + 1 := by rw [List.length_append, List.length_cons, List.length_take, List.length_drop, Nat.min_eq_left hple]; omega
          have HNL := Lib.hid hnl
          clear hnl
          go_wp2_with fail
          refine E.wp_plan E.ext_pre 14 [(0, true), (1, true), (2, true), (3, true), (4, true), (5, true), (6, true), (7, true), (8, true), (9, true), (10, true), (11, false), (12, false), (13, true), (14, false)] (by kernel_rfl) (by kernel_rfl) ?_
          repeat (first | (refine E.plan_pure (by simp only [List.getElem?_toArray, List.getElem?_cons_succ, List.getElem?_cons_zero]; rfl) (by rfl) (fun K hK => ?_); (go_simp; try go_bits; try go_simp); refine hK _ ?_; clear hK K) | (refine E.plan_load (by simp only [List.getElem?_toArray, List.getElem?_cons_succ, List.getElem?_cons_zero]; rfl) (by rfl) (by rfl) (fun K hK => ?_); (go_simp; try go_bits; try go_simp); refine hK _ ?_; clear hK K) | (refine E.plan_skip (E.Ext.refl _) (by simp only [List.getElem?_toArray, List.getElem?_cons_succ, List.getElem?_cons_zero]; rfl) (by rfl) (fun K hK => ?_); (go_simp; try go_bits; try go_simp); refine hK _ ?_; clear hK K))
          refine E.plan_eff (by simp only [List.getElem?_toArray, List.getElem?_cons_succ, List.getElem?_cons_zero]; rfl) (by rfl) (fun K hK => ?_); (go_simp; try go_bits); refine hK _ _ (E.Ext.alloc _ _) ?_; clear hK K
          refine E.plan_eff (by simp only [List.getElem?_toArray, List.getElem?_cons_succ, List.getElem?_cons_zero]; rfl) (by rfl) (fun K hK => ?_); (go_simp; try go_bits)
          refine (HINS.out _ _ ((hSl8.ext (E.Ext.drew _)).ext (E.Ext.alloc _ _)) (E.Blk.new _ _ _)).mono ?_; rintro e w9 ⟨A5, c5, rfl, hx9, ho9⟩; refine hK _ _ hx9 ?_; clear hK K
          have hx89 := ((E.Ext.drew w8).trans (E.Ext.alloc _ _)).trans hx9
          have R9 := R7.ext hx89
          have OB9 := OB7.ext hx89
          clear ck fk co fo
          obtain ⟨cr, fr⟩ := R9.facts
          obtain ⟨co, fo⟩ := OB9.facts
          have hobl := OB9.lt
          have hrl := R9.lt
          repeat (first | (refine E.plan_pure (by simp only [List.getElem?_toArray, List.getElem?_cons_succ, List.getElem?_cons_zero]; rfl) (by rfl) (fun K hK => ?_); (go_simp; try go_bits; try go_simp); refine hK _ ?_; clear hK K) | (refine E.plan_load (by simp only [List.getElem?_toArray, List.getElem?_cons_succ, List.getElem?_cons_zero]; rfl) (by rfl) (by rfl) (fun K hK => ?_); (go_simp; try go_bits; try go_simp); refine hK _ ?_; clear hK K) | (refine E.plan_skip (E.Ext.refl _) (by simp only [List.getElem?_toArray, List.getElem?_cons_succ, List.getElem?_cons_zero]; rfl) (by rfl) (fun K hK => ?_); (go_simp; try go_bits; try go_simp); refine hK _ ?_; clear hK K))
          refine E.plan_last (by simp only [List.getElem?_toArray, List.getElem?_cons_succ, List.getElem?_cons_zero]; rfl) (by rfl) (fun K hK => ?_); (go_simp; try go_bits); refine hK _ _ ?_; clear hK K
          repeat (first | (refine E.plan_pure (by simp only [List.getElem?_toArray, List.getElem?_cons_succ, List.getElem?_cons_zero]; rfl) (by rfl) (fun K hK => ?_); (go_simp; try go_bits; try go_simp); refine hK _ ?_; clear hK K) | (refine E.plan_load (by simp only [List.getElem?_toArray, List.getElem?_cons_succ, List.getElem?_cons_zero]; rfl) (by rfl) (by rfl) (fun K hK => ?_); (go_simp; try go_bits; try go_simp); refine hK _ ?_; clear hK K) | (refine E.plan_skip (E.Ext.refl _) (by simp only [List.getElem?_toArray, List.getElem?_cons_succ, List.getElem?_cons_zero]; rfl) (by rfl) (fun K hK => ?_); (go_simp; try go_bits; try go_simp); refine hK _ ?_; clear hK K))
          refine E.plan_nil ?_
          have hext9 : E.Ext w w9 := (hxW7.trans hx8).trans hx89
          have hown9 := own_mono ho9 (show w.heap.size ≤ _ by have := (hxW7.trans hx8).size; simp; omega)
          go_wp2_with fail
          all_goals
            first
              | (have hn : min (x.clean - 1) ((p : Nat) : Int) = (x.clean - 1) := by omega
                 refine bodyPost_ret (v := .tuple #[(Shelf.mk (x.keys[0]'hlen).stamp (kt.take p ++ k :: kt.drop p) ((x.clean - 1))).val A5 c5, .int .i64 p, .int .i64 0]) (by simp [results, Try.results15, go_sem, cr, fr, co, fo, Shelf.val, hobr, Nat.min_eq_left hple]) rfl ?_
                 rw [HP.out, HROOM.out]
                 unfold putAt
                 simp only [HPK.out]
                 rw [hn]
                 refine ⟨A5, c5, rfl, ?_, ?_⟩)
              | (have hn : min (x.clean - 1) ((p : Nat) : Int) = ((p : Nat) : Int) := by omega
                 refine bodyPost_ret (v := .tuple #[(Shelf.mk (x.keys[0]'hlen).stamp (kt.take p ++ k :: kt.drop p) ((p : Nat) : Int)).val A5 c5, .int .i64 p, .int .i64 0]) (by simp [results, Try.results15, go_sem, cr, fr, co, fo, Shelf.val, hobr, Nat.min_eq_left hple]) rfl ?_
                 rw [HP.out, HROOM.out]
                 unfold putAt
                 simp only [HPK.out]
                 rw [hn]
                 refine ⟨A5, c5, rfl, ?_, ?_⟩)
            · repeat (refine E.Ext.setCell ?_ (by first | (simp; done) | (simp; omega) | omega) _)
              exact hext9
            · refine own_extS (S := fun k => k = ob ∨ k = w.heap.size + 1 + 1 + 1) hown9 ?_ (fun g cs hg e => ?_)
              · repeat (refine E.ExtS.set ?_ (by simp) _)
                exact E.ExtS.refl _ _
              · rcases e with e | e
                · exact hg.ne OB9 (by decide) e
                · exact hg.ne R9 (by decide) e
    · refine E.plan_eff (by simp only [List.getElem?_toArray, List.getElem?_cons_succ, List.getElem?_cons_zero]; rfl) (by rfl) (fun K hK => ?_); (go_simp; try go_bits); refine hK _ _ (E.Ext.alloc _ _) ?_; clear hK K
      have Z1 := E.Blk.new w1.drew 26 #[.int .i64 0, .slice none 0 0, .int .i64 0]
      have hxz := (E.Ext.drew w1).trans (E.Ext.alloc w1.drew (.cells #[.int .i64 0, .slice none 0 0, .int .i64 0] 26))
      repeat (first | (refine E.plan_pure (by simp only [List.getElem?_toArray, List.getElem?_cons_succ, List.getElem?_cons_zero]; rfl) (by rfl) (fun K hK => ?_); (go_simp; try go_bits; try go_simp); refine hK _ ?_; clear hK K) | (refine E.plan_load (by simp only [List.getElem?_toArray, List.getElem?_cons_succ, List.getElem?_cons_zero]; rfl) (by rfl) (by rfl) (fun K hK => ?_); (go_simp; try go_bits; try go_simp); refine hK _ ?_; clear hK K) | (refine E.plan_skip (E.Ext.refl _) (by simp only [List.getElem?_toArray, List.getElem?_cons_succ, List.getElem?_cons_zero]; rfl) (by rfl) (fun K hK => ?_); (go_simp; try go_bits; try go_simp); refine hK _ ?_; clear hK K))
      refine E.plan_eff (by simp only [List.getElem?_toArray, List.getElem?_cons_succ, List.getElem?_cons_zero]; rfl) (by rfl) (fun K hK => ?_); (go_simp; try go_bits)
      refine (clone_keys x.keys A c _ (((hS.ext hx01).ext (E.Ext.drew _)).ext (E.Ext.alloc _ _)) hl).mono ?_; rintro e w2 ⟨A2, c4, rfl, hx2, ho⟩; refine hK _ _ hx2 ?_; clear hK K
      have hx12 := hxz.trans hx2
      have Z2 := Z1.ext hx2
      clear c2 f2
      obtain ⟨c2, f2⟩ := E.Blk.facts (E.Blk.ext X1 hx12)
      have hw1z : w1.drew.heap.size = w1.heap.size := rfl
      rw [hw1z] at Z2
      obtain ⟨c3, f3⟩ := Z2.facts
      have hzlt := Z2.lt
      repeat (first | (refine E.plan_pure (by simp only [List.getElem?_toArray, List.getElem?_cons_succ, List.getElem?_cons_zero]; rfl) (by rfl) (fun K hK => ?_); (go_simp; try go_bits; try go_simp); refine hK _ ?_; clear hK K) | (refine E.plan_load (by simp only [List.getElem?_toArray, List.getElem?_cons_succ, List.getElem?_cons_zero]; rfl) (by rfl) (by rfl) (fun K hK => ?_); (go_simp; try go_bits; try go_simp); refine hK _ ?_; clear hK K) | (refine E.plan_skip (E.Ext.refl _) (by simp only [List.getElem?_toArray, List.getElem?_cons_succ, List.getElem?_cons_zero]; rfl) (by rfl) (fun K hK => ?_); (go_simp; try go_bits; try go_simp); refine hK _ ?_; clear hK K))
      refine E.plan_last (by simp only [List.getElem?_toArray, List.getElem?_cons_succ, List.getElem?_cons_zero]; rfl) (by rfl) (fun K hK => ?_); (go_simp; try go_bits); refine hK _ _ ?_; clear hK K
      repeat (first | (refine E.plan_pure (by simp only [List.getElem?_toArray, List.getElem?_cons_succ, List.getElem?_cons_zero]; rfl) (by rfl) (fun K hK => ?_); (go_simp; try go_bits; try go_simp); refine hK _ ?_; clear hK K) | (refine E.plan_load (by simp only [List.getElem?_toArray, List.getElem?_cons_succ, List.getElem?_cons_zero]; rfl) (by rfl) (by rfl) (fun K hK => ?_); (go_simp; try go_bits; try go_simp); refine hK _ ?_; clear hK K) | (refine E.plan_skip (E.Ext.refl _) (by simp only [List.getElem?_toArray, List.getElem?_cons_succ, List.getElem?_cons_zero]; rfl) (by rfl) (fun K hK => ?_); (go_simp; try go_bits; try go_simp); refine hK _ ?_; clear hK K))
      refine E.plan_nil ?_
      have OB4 : E.Blk (((w2.setCell ⟨w1.heap.size, 0, none⟩ (.int .i64 x.base)).setCell ⟨w1.heap.size, 1, none⟩ (.slice A2 x.keys.length c4)).setCell ⟨w1.heap.size, 2, none⟩ (.int .i64 x.clean)) w1.heap.size 26 #[.int .i64 x.base, .slice A2 x.keys.length c4, .int .i64 x.clean] :=
        ((Z2.set 0 (.int .i64 x.base)).set 1 (.slice A2 x.keys.length c4)).set 2 (.int .i64 x.clean)
      have hxS : E.ExtS (fun i => i = w1.heap.size) w2 (((w2.setCell ⟨w1.heap.size, 0, none⟩ (.int .i64 x.base)).setCell ⟨w1.heap.size, 1, none⟩ (.slice A2 x.keys.length c4)).setCell ⟨w1.heap.size, 2, none⟩ (.int .i64 x.clean)) := by
        repeat (refine E.ExtS.set ?_ (by simp) _)
        exact E.ExtS.refl _ _
      have hx14 := E.Ext.thenS hx12 hxS (fun i hi e => by have e' : i = w1.heap.size := e; omega)
      have S4 : SetupB _ _ s := E.Blk.ext S1 hx14
      have X4 : ShelfB _ _ x A c := E.Blk.ext X1 hx14
      have K4 : KeyB _ _ k := E.Blk.ext K1 hx14
      have R4 := R1.ext hx14
      have ho4 := own_mono (own_extS ho hxS (fun g' cs hg e => hg.ne Z2 (by decide) e)) (show w.heap.size ≤ _ by have := hx01.size; simp; omega)
      have hxW4 := hx01.trans hx14
      have hobW : w.heap.size ≤ w1.heap.size := hx01.size
      have hobr : ¬ w.heap.size + 1 + 1 + 1 = w1.heap.size := by have := R1.lt; omega
      generalize hob : w1.heap.size = ob at *
      generalize hW4 : (((w2.setCell ⟨ob, 0, none⟩ (.int .i64 x.base)).setCell ⟨ob, 1, none⟩ (.slice A2 x.keys.length c4)).setCell ⟨ob, 2, none⟩ (.int .i64 x.clean)) = W4 at *
      clear hW4 hxS hx14 hx12 hx2 hx1 hx0 c2 f2 c3 f3 S1 X1 K1 R1 ho Z1 Z2 hxz hzlt hw1z
      have hcl4 := (own_sl' ho4).cap
      have hmx4 := (own_sl' ho4).max
      obtain ⟨cs, fs⟩ := E.Blk.facts S4
      obtain ⟨cx, fx⟩ := E.Blk.facts X4
      go_wp2_with fail
      refine (full_any s x A c _).mono ?_
      rintro e w5 ⟨rfl, hx5⟩
      clear cs fs cx fx
      have K5 := E.Blk.ext K4 hx5
      have R5 := R4.ext hx5
      have OB5 := OB4.ext hx5
      have ho5 := own_ext ho4 hx5
      have hxW5 := hxW4.trans hx5
      cases hfu : fullB s x with
      | false =>
        have HROOM := Lib.hid (room_not hfu)
        clear hfu
        have hSl7 := own_sl' ho5
        have hxW7 := hxW5
        have K7 := K5
        have R7 := R5
        have OB7 := OB5
        have HUP7 := HUP
        have hm200 := hk200
        have hA3 : A2 = none → x.keys.length = 0 := fun e => by
          rcases ho5.2 with ⟨_, h0⟩ | ⟨g, cap, cur, hv, _⟩
          · exact h0
          · subst e; cases hv
        have hml := hSl7.cap
        have hmx := hSl7.max
        obtain ⟨ck, fk⟩ := E.Blk.facts K7
        obtain ⟨co, fo⟩ := OB7.facts
        go_wp2_with fail
        refine (find_up x.keys A2 c4 k _ hSl7 (by omega) HUP7.out).mono ?_
        rintro e w8 ⟨rfl, hx8⟩
        obtain ⟨p, hp⟩ : ∃ p, kpos x.keys k = p := ⟨_, rfl⟩
        have hple : p ≤ x.keys.length := by rw [← hp]; exact kpos_le _ _
        have HPK := Lib.hid hp
        rw [hp]
        clear hp ck fk co fo
        replace K7 := E.Blk.ext K7 hx8
        replace R7 := R7.ext hx8
        replace OB7 := OB7.ext hx8
        obtain ⟨ck, fk⟩ := E.Blk.facts K7
        obtain ⟨co, fo⟩ := OB7.facts
        have hSl8 := (ksl_full hSl7).ext hx8
        have HINS := Lib.hid (ins_any x.keys A2 p k hple hm200 hA3)
        have hnl : (x.keys.take p ++ k :: x.keys.drop p).length = x.keys.length + 1 := by rw [List.length_append, List.length_cons, List.length_take, List.length_drop, Nat.min_eq_left hple]; omega
        have HNL := Lib.hid hnl
        clear hnl
        go_wp2_with fail
        refine E.wp_plan E.ext_pre 14 [(0, true), (1, true), (2, true), (3, true), (4, true), (5, true), (6, true), (7, true), (8, true), (9, true), (10, true), (11, false), (12, false), (13, true), (14, false)] (by kernel_rfl) (by kernel_rfl) ?_
        repeat (first | (refine E.plan_pure (by simp only [List.getElem?_toArray, List.getElem?_cons_succ, List.getElem?_cons_zero]; rfl) (by rfl) (fun K hK => ?_); (go_simp; try go_bits; try go_simp); refine hK _ ?_; clear hK K) | (refine E.plan_load (by simp only [List.getElem?_toArray, List.getElem?_cons_succ, List.getElem?_cons_zero]; rfl) (by rfl) (by rfl) (fun K hK => ?_); (go_simp; try go_bits; try go_simp); refine hK _ ?_; clear hK K) | (refine E.plan_skip (E.Ext.refl _) (by simp only [List.getElem?_toArray, List.getElem?_cons_succ, List.getElem?_cons_zero]; rfl) (by rfl) (fun K hK => ?_); (go_simp; try go_bits; try go_simp); refine hK _ ?_; clear hK K))
        refine E.plan_eff (by simp only [List.getElem?_toArray, List.getElem?_cons_succ, List.getElem?_cons_zero]; rfl) (by rfl) (fun K hK => ?_); (go_simp; try go_bits); refine hK _ _ (E.Ext.alloc _ _) ?_; clear hK K
        refine E.plan_eff (by simp only [List.getElem?_toArray, List.getElem?_cons_succ, List.getElem?_cons_zero]; rfl) (by rfl) (fun K hK => ?_); (go_simp; try go_bits)
        refine (HINS.out _ _ ((hSl8.ext (E.Ext.drew _)).ext (E.Ext.alloc _ _)) (E.Blk.new _ _ _)).mono ?_; rintro e w9 ⟨A5, c5, rfl, hx9, ho9⟩; refine hK _ _ hx9 ?_; clear hK K
        have hx89 := ((E.Ext.drew w8).trans (E.Ext.alloc _ _)).trans hx9
        have R9 := R7.ext hx89
        have OB9 := OB7.ext hx89
        clear ck fk co fo
        obtain ⟨cr, fr⟩ := R9.facts
        obtain ⟨co, fo⟩ := OB9.facts
        have hobl := OB9.lt
        have hrl := R9.lt
        repeat (first | (refine E.plan_pure (by simp only [List.getElem?_toArray, List.getElem?_cons_succ, List.getElem?_cons_zero]; rfl) (by rfl) (fun K hK => ?_); (go_simp; try go_bits; try go_simp); refine hK _ ?_; clear hK K) | (refine E.plan_load (by simp only [List.getElem?_toArray, List.getElem?_cons_succ, List.getElem?_cons_zero]; rfl) (by rfl) (by rfl) (fun K hK => ?_); (go_simp; try go_bits; try go_simp); refine hK _ ?_; clear hK K) | (refine E.plan_skip (E.Ext.refl _) (by simp only [List.getElem?_toArray, List.getElem?_cons_succ, List.getElem?_cons_zero]; rfl) (by rfl) (fun K hK => ?_); (go_simp; try go_bits; try go_simp); refine hK _ ?_; clear hK K))
        refine E.plan_last (by simp only [List.getElem?_toArray, List.getElem?_cons_succ, List.getElem?_cons_zero]; rfl) (by rfl) (fun K hK => ?_); (go_simp; try go_bits); refine hK _ _ ?_; clear hK K
        repeat (first | (refine E.plan_pure (by simp only [List.getElem?_toArray, List.getElem?_cons_succ, List.getElem?_cons_zero]; rfl) (by rfl) (fun K hK => ?_); (go_simp; try go_bits; try go_simp); refine hK _ ?_; clear hK K) | (refine E.plan_load (by simp only [List.getElem?_toArray, List.getElem?_cons_succ, List.getElem?_cons_zero]; rfl) (by rfl) (by rfl) (fun K hK => ?_); (go_simp; try go_bits; try go_simp); refine hK _ ?_; clear hK K) | (refine E.plan_skip (E.Ext.refl _) (by simp only [List.getElem?_toArray, List.getElem?_cons_succ, List.getElem?_cons_zero]; rfl) (by rfl) (fun K hK => ?_); (go_simp; try go_bits; try go_simp); refine hK _ ?_; clear hK K))
        refine E.plan_nil ?_
        have hext9 : E.Ext w w9 := (hxW7.trans hx8).trans hx89
        have hown9 := own_mono ho9 (show w.heap.size ≤ _ by have := (hxW7.trans hx8).size; simp; omega)
        go_wp2_with fail
        all_goals
          first
            | (have hn : min x.clean ((p : Nat) : Int) = x.clean := by omega
               refine bodyPost_ret (v := .tuple #[(Shelf.mk x.base (x.keys.take p ++ k :: x.keys.drop p) (x.clean)).val A5 c5, .int .i64 p, .int .i64 0]) (by simp [results, Try.results15, go_sem, cr, fr, co, fo, Shelf.val, hobr, Nat.min_eq_left hple]) rfl ?_
               rw [HP.out, HROOM.out]
               unfold putAt
               simp only [HPK.out]
               rw [hn]
               refine ⟨A5, c5, rfl, ?_, ?_⟩)
            | (have hn : min x.clean ((p : Nat) : Int) = ((p : Nat) : Int) := by omega
               refine bodyPost_ret (v := .tuple #[(Shelf.mk x.base (x.keys.take p ++ k :: x.keys.drop p) ((p : Nat) : Int)).val A5 c5, .int .i64 p, .int .i64 0]) (by simp [results, Try.results15, go_sem, cr, fr, co, fo, Shelf.val, hobr, Nat.min_eq_left hple]) rfl ?_
               rw [HP.out, HROOM.out]
               unfold putAt
               simp only [HPK.out]
               rw [hn]
               refine ⟨A5, c5, rfl, ?_, ?_⟩)
          · repeat (refine E.Ext.setCell ?_ (by first | (simp; done) | (simp; omega) | omega) _)
            exact hext9
          · refine own_extS (S := fun k => k = ob ∨ k = w.heap.size + 1 + 1 + 1) hown9 ?_ (fun g cs hg e => ?_)
            · repeat (refine E.ExtS.set ?_ (by simp) _)
              exact E.ExtS.refl _ _
            · rcases e with e | e
              · exact hg.ne OB9 (by decide) e
              · exact hg.ne R9 (by decide) e
      | true =>
        have hlen : 0 < x.keys.length := full_len (judge_fits HJ.out) hfu
        have hcl1 := judge_clean HJ.out hfu
        have HROOM := Lib.hid (room_full hfu hlen)
        clear hfu
        obtain ⟨g, hA2⟩ : ∃ g, A2 = some ⟨g, 0, none⟩ := by
          rcases ho5.2 with ⟨_, h0⟩ | ⟨g, cap, cur, hv, _⟩
          · omega
          · injection hv with h1 _ _
            exact ⟨g, h1⟩
        subst hA2
        obtain ⟨b', o', hA', k0, k1, k2⟩ := key_at (own_sl' ho5) (k := 0) hlen
        cases hA'
        simp only [Nat.zero_mul, Nat.add_zero] at k0 k1 k2
        obtain ⟨co, fo⟩ := OB5.facts
        have hobl := OB5.lt
        have hobw : w.heap.size ≤ ob := hobW
        have htl : x.keys.tail.length = x.keys.length - 1 := List.length_tail
        have hl1 : 1 ≤ x.keys.length := hlen
        have hl2 : (1 : Int) ≤ (x.keys.length : Int) := by omega
        have hl3 : ¬ x.keys = [] := fun e => by rw [e] at hlen; cases hlen
        have hl4 : x.keys ≠ [] := hl3
        have hl5 : (0 : Int) < (x.keys.length : Int) := by omega
        by_cases hn1 : x.keys.length = 1
        · have hif : (x.keys.length = 1) = True := by simp [hn1]
          have HN1 := Lib.hid hn1
          clear hn1
          go_wp2_with fail
          refine EZ.wp_plan E.ext_pre [18, 20, 22] [9, 12, 13, 16] [(0, true), (1, true), (2, true), (3, true), (4, true), (5, true), (6, true), (7, true), (8, true), (9, true), (10, true), (11, true), (12, true), (13, true), (14, true), (15, true), (16, true), (17, true), (18, false), (19, true), (20, false), (21, true), (22, false)] (by kernel_rfl) (by kernel_rfl) ?_
          repeat (first | (refine EZ.plan_pure (by simp only [List.getElem?_toArray, List.getElem?_cons_succ, List.getElem?_cons_zero]; rfl) (by rfl) (fun K hK => ?_); (go_simp; try go_bits; try go_simp); refine hK _ ?_; clear hK K) | (refine EZ.plan_load (by simp only [List.getElem?_toArray, List.getElem?_cons_succ, List.getElem?_cons_zero]; rfl) (by rfl) (by rfl) (by rfl) (fun K hK => ?_); (go_simp; try go_bits; try go_simp); refine hK _ ?_; clear hK K) | (refine EZ.plan_skip (E.Ext.refl _) (by simp only [List.getElem?_toArray, List.getElem?_cons_succ, List.getElem?_cons_zero]; rfl) (by rfl) (fun K hK => ?_); (go_simp; try go_bits; try go_simp); refine hK _ ?_; clear hK K))
          refine EZ.plan_last (by simp only [List.getElem?_toArray, List.getElem?_cons_succ, List.getElem?_cons_zero]; rfl) (by rfl) (by decide) (fun K hK => ?_); (go_simp; try go_bits); refine hK _ _ ?_; clear hK K
          repeat (first | (refine EZ.plan_pure (by simp only [List.getElem?_toArray, List.getElem?_cons_succ, List.getElem?_cons_zero]; rfl) (by rfl) (fun K hK => ?_); (go_simp; try go_bits; try go_simp); refine hK _ ?_; clear hK K) | (refine EZ.plan_load (by simp only [List.getElem?_toArray, List.getElem?_cons_succ, List.getElem?_cons_zero]; rfl) (by rfl) (by rfl) (by rfl) (fun K hK => ?_); (go_simp; try go_bits; try go_simp); refine hK _ ?_; clear hK K) | (refine EZ.plan_skip (E.Ext.refl _) (by simp only [List.getElem?_toArray, List.getElem?_cons_succ, List.getElem?_cons_zero]; rfl) (by rfl) (fun K hK => ?_); (go_simp; try go_bits; try go_simp); refine hK _ ?_; clear hK K))
          refine EZ.plan_last (by simp only [List.getElem?_toArray, List.getElem?_cons_succ, List.getElem?_cons_zero]; rfl) (by rfl) (by decide) (fun K hK => ?_); (go_simp; try go_bits); refine hK _ _ ?_; clear hK K
          repeat (first | (refine EZ.plan_pure (by simp only [List.getElem?_toArray, List.getElem?_cons_succ, List.getElem?_cons_zero]; rfl) (by rfl) (fun K hK => ?_); (go_simp; try go_bits; try go_simp); refine hK _ ?_; clear hK K) | (refine EZ.plan_load (by simp only [List.getElem?_toArray, List.getElem?_cons_succ, List.getElem?_cons_zero]; rfl) (by rfl) (by rfl) (by rfl) (fun K hK => ?_); (go_simp; try go_bits; try go_simp); refine hK _ ?_; clear hK K) | (refine EZ.plan_skip (E.Ext.refl _) (by simp only [List.getElem?_toArray, List.getElem?_cons_succ, List.getElem?_cons_zero]; rfl) (by rfl) (fun K hK => ?_); (go_simp; try go_bits; try go_simp); refine hK _ ?_; clear hK K))
          refine EZ.plan_last (by simp only [List.getElem?_toArray, List.getElem?_cons_succ, List.getElem?_cons_zero]; rfl) (by rfl) (by decide) (fun K hK => ?_); (go_simp; try go_bits); refine hK _ _ ?_; clear hK K
          refine EZ.plan_nil ?_
          have OB7 : E.Blk ((((w5.setCell ⟨ob, 0, none⟩ (.int .i64 (x.keys[0]'hlen).stamp)).setCell ⟨ob, 1, none⟩ (.slice (some ⟨g, 0, none⟩) (x.keys.length - 1) (x.keys.length - 1))).setCell ⟨ob, 2, none⟩ (.int .i64 (x.clean - 1))).drew) ob 26 #[.int .i64 (x.keys[0]'hlen).stamp, .slice (some ⟨g, 0, none⟩) (x.keys.length - 1) (x.keys.length - 1), .int .i64 (x.clean - 1)] :=
            (((OB5.set 0 (.int .i64 (x.keys[0]'hlen).stamp)).set 1 (.slice (some ⟨g, 0, none⟩) (x.keys.length - 1) (x.keys.length - 1))).set 2 (.int .i64 (x.clean - 1))).drew
          have hxS : E.ExtS (fun i => i = ob) w5 ((((w5.setCell ⟨ob, 0, none⟩ (.int .i64 (x.keys[0]'hlen).stamp)).setCell ⟨ob, 1, none⟩ (.slice (some ⟨g, 0, none⟩) (x.keys.length - 1) (x.keys.length - 1))).setCell ⟨ob, 2, none⟩ (.int .i64 (x.clean - 1))).drew) := by
            refine E.ExtS.trans ?_ ((E.Ext.drew _).toS _)
            repeat (refine E.ExtS.set ?_ (by simp) _)
            exact E.ExtS.refl _ _
          generalize hW7 : (((w5.setCell ⟨ob, 0, none⟩ (.int .i64 (x.keys[0]'hlen).stamp)).setCell ⟨ob, 1, none⟩ (.slice (some ⟨g, 0, none⟩) (x.keys.length - 1) (x.keys.length - 1))).setCell ⟨ob, 2, none⟩ (.int .i64 (x.clean - 1))).drew = W7 at *
          clear hW7 co fo k0 k1 k2
          have K7 : KeyB W7 _ k := E.Blk.extS K5 hxS (fun e => E.Blk.ne K5 OB5 (by decide) e)
          have R7 := R5.extS hxS (fun e => hobr e)
          have ho7 := own_extS ho5 hxS (fun g' cs hg e => hg.ne OB5 (by decide) e)
          have hxW7 := hxW5.thenS hxS (fun i hi e => by have e' : i = ob := e; omega)
          have hSl7 : Sl W7 3 (some ⟨g, 0, none⟩) (x.keys.length - 1) (x.keys.length - 1) (keyCells x.keys.tail) := by
            have h1 := (own_sl' ho7).cut (by decide) (k := 1) (m := x.keys.length) (c' := x.keys.length) hl1 (Nat.le_refl _) (Nat.le_refl _) hcl4
            rw [List.take_of_length_le (by rw [keyCells_len]; exact Nat.le_refl _), ← keyCells_drop] at h1
            have hi := HN1.out
            have e : ∀ B : Option Addr, (if x.keys.length = 1 then some ⟨g, 0, none⟩ else (some (⟨g, 0, none⟩ : Addr)).map (·.add (1 * 3))) = B → B = (some ⟨g, 0, none⟩) := by
              intro B hB
              rw [← hB]
              first
                | rw [if_pos hi]
                | (rw [if_neg hi, Option.map_some, addr_add])
            rw [e _ rfl, List.drop_one] at h1
            exact h1
          have hUPt := up_tail HUP.out
          have HRT := HROOM.out
          rw [← htl] at hSl7 OB7
          try rw [← htl]
          generalize hkt : x.keys.tail = kt at *
          have HUP7 := Lib.hid hUPt
          have hm200 : kt.length ≤ 200 := by omega
          have hA3 : ((some ⟨g, 0, none⟩) : Option Addr) = none → kt.length = 0 := fun e => by cases e
          clear HROOM
          have HROOM := Lib.hid HRT
          clear HRT hUPt htl hkt hl1 hl2 hl3 hl4 hl5 hif
          have hml := hSl7.cap
          have hmx := hSl7.max
          obtain ⟨ck, fk⟩ := E.Blk.facts K7
          obtain ⟨co, fo⟩ := OB7.facts
          go_wp2_with fail
          refine (find_up kt (some ⟨g, 0, none⟩) kt.length k _ hSl7 (by omega) HUP7.out).mono ?_
          rintro e w8 ⟨rfl, hx8⟩
          obtain ⟨p, hp⟩ : ∃ p, kpos kt k = p := ⟨_, rfl⟩
          have hple : p ≤ kt.length := by rw [← hp]; exact kpos_le _ _
          have HPK := Lib.hid hp
          rw [hp]
          clear hp ck fk co fo
          replace K7 := E.Blk.ext K7 hx8
          replace R7 := R7.ext hx8
          replace OB7 := OB7.ext hx8
          obtain ⟨ck, fk⟩ := E.Blk.facts K7
          obtain ⟨co, fo⟩ := OB7.facts
          have hSl8 := (ksl_full hSl7).ext hx8
          have HINS := Lib.hid (ins_any kt (some ⟨g, 0, none⟩) p k hple hm200 hA3)
          have hnl : (kt.take p ++ k :: kt.drop p).length = kt.length + 1 := by rw [List.length_append, List.length_cons, List.length_take, List.length_drop, Nat.min_eq_left hple]; omega
          have HNL := Lib.hid hnl
          clear hnl
          go_wp2_with fail
          refine E.wp_plan E.ext_pre 14 [(0, true), (1, true), (2, true), (3, true), (4, true), (5, true), (6, true), (7, true), (8, true), (9, true), (10, true), (11, false), (12, false), (13, true), (14, false)] (by kernel_rfl) (by kernel_rfl) ?_
          repeat (first | (refine E.plan_pure (by simp only [List.getElem?_toArray, List.getElem?_cons_succ, List.getElem?_cons_zero]; rfl) (by rfl) (fun K hK => ?_); (go_simp; try go_bits; try go_simp); refine hK _ ?_; clear hK K) | (refine E.plan_load (by simp only [List.getElem?_toArray, List.getElem?_cons_succ, List.getElem?_cons_zero]; rfl) (by rfl) (by rfl) (fun K hK => ?_); (go_simp; try go_bits; try go_simp); refine hK _ ?_; clear hK K) | (refine E.plan_skip (E.Ext.refl _) (by simp only [List.getElem?_toArray, List.getElem?_cons_succ, List.getElem?_cons_zero]; rfl) (by rfl) (fun K hK => ?_); (go_simp; try go_bits; try go_simp); refine hK _ ?_; clear hK K))
          refine E.plan_eff (by simp only [List.getElem?_toArray, List.getElem?_cons_succ, List.getElem?_cons_zero]; rfl) (by rfl) (fun K hK => ?_); (go_simp; try go_bits); refine hK _ _ (E.Ext.alloc _ _) ?_; clear hK K
          refine E.plan_eff (by simp only [List.getElem?_toArray, List.getElem?_cons_succ, List.getElem?_cons_zero]; rfl) (by rfl) (fun K hK => ?_); (go_simp; try go_bits)
          refine (HINS.out _ _ ((hSl8.ext (E.Ext.drew _)).ext (E.Ext.alloc _ _)) (E.Blk.new _ _ _)).mono ?_; rintro e w9 ⟨A5, c5, rfl, hx9, ho9⟩; refine hK _ _ hx9 ?_; clear hK K
          have hx89 := ((E.Ext.drew w8).trans (E.Ext.alloc _ _)).trans hx9
          have R9 := R7.ext hx89
          have OB9 := OB7.ext hx89
          clear ck fk co fo
          obtain ⟨cr, fr⟩ := R9.facts
          obtain ⟨co, fo⟩ := OB9.facts
          have hobl := OB9.lt
          have hrl := R9.lt
          repeat (first | (refine E.plan_pure (by simp only [List.getElem?_toArray, List.getElem?_cons_succ, List.getElem?_cons_zero]; rfl) (by rfl) (fun K hK => ?_); (go_simp; try go_bits; try go_simp); refine hK _ ?_; clear hK K) | (refine E.plan_load (by simp only [List.getElem?_toArray, List.getElem?_cons_succ, List.getElem?_cons_zero]; rfl) (by rfl) (by rfl) (fun K hK => ?_); (go_simp; try go_bits; try go_simp); refine hK _ ?_; clear hK K) | (refine E.plan_skip (E.Ext.refl _) (by simp only [List.getElem?_toArray, List.getElem?_cons_succ, List.getElem?_cons_zero]; rfl) (by rfl) (fun K hK => ?_); (go_simp; try go_bits; try go_simp); refine hK _ ?_; clear hK K))
          refine E.plan_last (by simp only [List.getElem?_toArray, List.getElem?_cons_succ, List.getElem?_cons_zero]; rfl) (by rfl) (fun K hK => ?_); (go_simp; try go_bits); refine hK _ _ ?_; clear hK K
          repeat (first | (refine E.plan_pure (by simp only [List.getElem?_toArray, List.getElem?_cons_succ, List.getElem?_cons_zero]; rfl) (by rfl) (fun K hK => ?_); (go_simp; try go_bits; try go_simp); refine hK _ ?_; clear hK K) | (refine E.plan_load (by simp only [List.getElem?_toArray, List.getElem?_cons_succ, List.getElem?_cons_zero]; rfl) (by rfl) (by rfl) (fun K hK => ?_); (go_simp; try go_bits; try go_simp); refine hK _ ?_; clear hK K) | (refine E.plan_skip (E.Ext.refl _) (by simp only [List.getElem?_toArray, List.getElem?_cons_succ, List.getElem?_cons_zero]; rfl) (by rfl) (fun K hK => ?_); (go_simp; try go_bits; try go_simp); refine hK _ ?_; clear hK K))
          refine E.plan_nil ?_
          have hext9 : E.Ext w w9 := (hxW7.trans hx8).trans hx89
          have hown9 := own_mono ho9 (show w.heap.size ≤ _ by have := (hxW7.trans hx8).size; simp; omega)
          go_wp2_with fail
          all_goals
            first
              | (have hn : min (x.clean - 1) ((p : Nat) : Int) = (x.clean - 1) := by omega
                 refine bodyPost_ret (v := .tuple #[(Shelf.mk (x.keys[0]'hlen).stamp (kt.take p ++ k :: kt.drop p) ((x.clean - 1))).val A5 c5, .int .i64 p, .int .i64 0]) (by simp [results, Try.results15, go_sem, cr, fr, co, fo, Shelf.val, hobr, Nat.min_eq_left hple]) rfl ?_
                 rw [HP.out, HROOM.out]
                 unfold putAt
                 simp only [HPK.out]
                 rw [hn]
                 refine ⟨A5, c5, rfl, ?_, ?_⟩)
              | (have hn : min (x.clean - 1) ((p : Nat) : Int) = ((p : Nat) : Int) := by omega
                 refine bodyPost_ret (v := .tuple #[(Shelf.mk (x.keys[0]'hlen).stamp (kt.take p ++ k :: kt.drop p) ((p : Nat) : Int)).val A5 c5, .int .i64 p, .int .i64 0]) (by simp [results, Try.results15, go_sem, cr, fr, co, fo, Shelf.val, hobr, Nat.min_eq_left hple]) rfl ?_
                 rw [HP.out, HROOM.out]
                 unfold putAt
                 simp only [HPK.out]
                 rw [hn]
                 refine ⟨A5, c5, rfl, ?_, ?_⟩)
            · repeat (refine E.Ext.setCell ?_ (by first | (simp; done) | (simp; omega) | omega) _)
              exact hext9
            · refine own_extS (S := fun k => k = ob ∨ k = w.heap.size + 1 + 1 + 1) hown9 ?_ (fun g cs hg e => ?_)
              · repeat (refine E.ExtS.set ?_ (by simp) _)
                exact E.ExtS.refl _ _
              · rcases e with e | e
                · exact hg.ne OB9 (by decide) e
                · exact hg.ne R9 (by decide) e
        · have hif : (x.keys.length = 1) = False := by simp [hn1]
          have HN1 := Lib.hid hn1
          clear hn1
          go_wp2_with fail
          refine EZ.wp_plan E.ext_pre [18, 20, 22] [9, 12, 13, 16] [(0, true), (1, true), (2, true), (3, true), (4, true), (5, true), (6, true), (7, true), (8, true), (9, true), (10, true), (11, true), (12, true), (13, true), (14, true), (15, true), (16, true), (17, true), (18, false), (19, true), (20, false), (21, true), (22, false)] (by kernel_rfl) (by kernel_rfl) ?_
          repeat (first | (refine EZ.plan_pure (by simp only [List.getElem?_toArray, List.getElem?_cons_succ, List.getElem?_cons_zero]; rfl) (by rfl) (fun K hK => ?_); (go_simp; try go_bits; try go_simp); refine hK _ ?_; clear hK K) | (refine EZ.plan_load (by simp only [List.getElem?_toArray, List.getElem?_cons_succ, List.getElem?_cons_zero]; rfl) (by rfl) (by rfl) (by rfl) (fun K hK => ?_); (go_simp; try go_bits; try go_simp); refine hK _ ?_; clear hK K) | (refine EZ.plan_skip (E.Ext.refl _) (by simp only [List.getElem?_toArray, List.getElem?_cons_succ, List.getElem?_cons_zero]; rfl) (by rfl) (fun K hK => ?_); (go_simp; try go_bits; try go_simp); refine hK _ ?_; clear hK K))
          refine EZ.plan_last (by simp only [List.getElem?_toArray, List.getElem?_cons_succ, List.getElem?_cons_zero]; rfl) (by rfl) (by decide) (fun K hK => ?_); (go_simp; try go_bits); refine hK _ _ ?_; clear hK K
          repeat (first | (refine EZ.plan_pure (by simp only [List.getElem?_toArray, List.getElem?_cons_succ, List.getElem?_cons_zero]; rfl) (by rfl) (fun K hK => ?_); (go_simp; try go_bits; try go_simp); refine hK _ ?_; clear hK K) | (refine EZ.plan_load (by simp only [List.getElem?_toArray, List.getElem?_cons_succ, List.getElem?_cons_zero]; rfl) (by rfl) (by rfl) (by rfl) (fun K hK => ?_); (go_simp; try go_bits; try go_simp); refine hK _ ?_; clear hK K) | (refine EZ.plan_skip (E.Ext.refl _) (by simp only [List.getElem?_toArray, List.getElem?_cons_succ, List.getElem?_cons_zero]; rfl) (by rfl) (fun K hK => ?_); (go_simp; try go_bits; try go_simp); refine hK _ ?_; clear hK K))
          refine EZ.plan_last (by simp only [List.getElem?_toArray, List.getElem?_cons_succ, List.getElem?_cons_zero]; rfl) (by rfl) (by decide) (fun K hK => ?_); (go_simp; try go_bits); refine hK _ _ ?_; clear hK K
          repeat (first | (refine EZ.plan_pure (by simp only [List.getElem?_toArray, List.getElem?_cons_succ, List.getElem?_cons_zero]; rfl) (by rfl) (fun K hK => ?_); (go_simp; try go_bits; try go_simp); refine hK _ ?_; clear hK K) | (refine EZ.plan_load (by simp only [List.getElem?_toArray, List.getElem?_cons_succ, List.getElem?_cons_zero]; rfl) (by rfl) (by rfl) (by rfl) (fun K hK => ?_); (go_simp; try go_bits; try go_simp); refine hK _ ?_; clear hK K) | (refine EZ.plan_skip (E.Ext.refl _) (by simp only [List.getElem?_toArray, List.getElem?_cons_succ, List.getElem?_cons_zero]; rfl) (by rfl) (fun K hK => ?_); (go_simp; try go_bits; try go_simp); refine hK _ ?_; clear hK K))
          refine EZ.plan_last (by simp only [List.getElem?_toArray, List.getElem?_cons_succ, List.getElem?_cons_zero]; rfl) (by rfl) (by decide) (fun K hK => ?_); (go_simp; try go_bits); refine hK _ _ ?_; clear hK K
          refine EZ.plan_nil ?_
          have OB7 : E.Blk ((((w5.setCell ⟨ob, 0, none⟩ (.int .i64 (x.keys[0]'hlen).stamp)).setCell ⟨ob, 1, none⟩ (.slice (some ⟨g, 3, none⟩) (x.keys.length - 1) (x.keys.length - 1))).setCell ⟨ob, 2, none⟩ (.int .i64 (x.clean - 1))).drew) ob 26 #[.int .i64 (x.keys[0]'hlen).stamp, .slice (some ⟨g, 3, none⟩) (x.keys.length - 1) (x.keys.length - 1), .int .i64 (x.clean - 1)] :=
            (((OB5.set 0 (.int .i64 (x.keys[0]'hlen).stamp)).set 1 (.slice (some ⟨g, 3, none⟩) (x.keys.length - 1) (x.keys.length - 1))).set 2 (.int .i64 (x.clean - 1))).drew
          have hxS : E.ExtS (fun i => i = ob) w5 ((((w5.setCell ⟨ob, 0, none⟩ (.int .i64 (x.keys[0]'hlen).stamp)).setCell ⟨ob, 1, none⟩ (.slice (some ⟨g, 3, none⟩) (x.keys.length - 1) (x.keys.length - 1))).setCell ⟨ob, 2, none⟩ (.int .i64 (x.clean - 1))).drew) := by
            refine E.ExtS.trans ?_ ((E.Ext.drew _).toS _)
            repeat (refine E.ExtS.set ?_ (by simp) _)
            exact E.ExtS.refl _ _
          generalize hW7 : (((w5.setCell ⟨ob, 0, none⟩ (.int .i64 (x.keys[0]'hlen).stamp)).setCell ⟨ob, 1, none⟩ (.slice (some ⟨g, 3, none⟩) (x.keys.length - 1) (x.keys.length - 1))).setCell ⟨ob, 2, none⟩ (.int .i64 (x.clean - 1))).drew = W7 at *
          clear hW7 co fo k0 k1 k2
          have K7 : KeyB W7 _ k := E.Blk.extS K5 hxS (fun e => E.Blk.ne K5 OB5 (by decide) e)
          have R7 := R5.extS hxS (fun e => hobr e)
          have ho7 := own_extS ho5 hxS (fun g' cs hg e => hg.ne OB5 (by decide) e)
          have hxW7 := hxW5.thenS hxS (fun i hi e => by have e' : i = ob := e; omega)
          have hSl7 : Sl W7 3 (some ⟨g, 3, none⟩) (x.keys.length - 1) (x.keys.length - 1) (keyCells x.keys.tail) := by
            have h1 := (own_sl' ho7).cut (by decide) (k := 1) (m := x.keys.length) (c' := x.keys.length) hl1 (Nat.le_refl _) (Nat.le_refl _) hcl4
            rw [List.take_of_length_le (by rw [keyCells_len]; exact Nat.le_refl _), ← keyCells_drop] at h1
            have hi := HN1.out
            have e : ∀ B : Option Addr, (if x.keys.length = 1 then some ⟨g, 0, none⟩ else (some (⟨g, 0, none⟩ : Addr)).map (·.add (1 * 3))) = B → B = (some ⟨g, 3, none⟩) := by
              intro B hB
              rw [← hB]
              first
                | rw [if_pos hi]
                | (rw [if_neg hi, Option.map_some, addr_add])
            rw [e _ rfl, List.drop_one] at h1
            exact h1
          have hUPt := up_tail HUP.out
          have HRT := HROOM.out
          rw [← htl] at hSl7 OB7
          try rw [← htl]
          generalize hkt : x.keys.tail = kt at *
          have HUP7 := Lib.hid hUPt
          have hm200 : kt.length ≤ 200 := by omega
          have hA3 : ((some ⟨g, 3, none⟩) : Option Addr) = none → kt.length = 0 := fun e => by cases e
          clear HROOM
          have HROOM := Lib.hid HRT
          clear HRT hUPt htl hkt hl1 hl2 hl3 hl4 hl5 hif
          have hml := hSl7.cap
          have hmx := hSl7.max
          obtain ⟨ck, fk⟩ := E.Blk.facts K7
          obtain ⟨co, fo⟩ := OB7.facts
          go_wp2_with fail
          refine (find_up kt (some ⟨g, 3, none⟩) kt.length k _ hSl7 (by omega) HUP7.out).mono ?_
          rintro e w8 ⟨rfl, hx8⟩
          obtain ⟨p, hp⟩ : ∃ p, kpos kt k = p := ⟨_, rfl⟩
          have hple : p ≤ kt.length := by rw [← hp]; exact kpos_le _ _
          have HPK := Lib.hid hp
          rw [hp]
          clear hp ck fk co fo
          replace K7 := E.Blk.ext K7 hx8
          replace R7 := R7.ext hx8
          replace OB7 := OB7.ext hx8
          obtain ⟨ck, fk⟩ := E.Blk.facts K7
          obtain ⟨co, fo⟩ := OB7.facts
          have hSl8 := (ksl_full hSl7).ext hx8
          have HINS := Lib.hid (ins_any kt (some ⟨g, 3, none⟩) p k hple hm200 hA3)
          have hnl : (kt.take p ++ k :: kt.drop p).length = kt.length + 1 := by rw [List.length_append, List.length_cons, List.length_take, List.length_drop, Nat.min_eq_left hple]; omega
          have HNL := Lib.hid hnl
          clear hnl
          go_wp2_with fail
          refine E.wp_plan E.ext_pre 14 [(0, true), (1, true), (2, true), (3, true), (4, true), (5, true), (6, true), (7, true), (8, true), (9, true), (10, true), (11, false), (12, false), (13, true), (14, false)] (by kernel_rfl) (by kernel_rfl) ?_
          repeat (first | (refine E.plan_pure (by simp only [List.getElem?_toArray, List.getElem?_cons_succ, List.getElem?_cons_zero]; rfl) (by rfl) (fun K hK => ?_); (go_simp; try go_bits; try go_simp); refine hK _ ?_; clear hK K) | (refine E.plan_load (by simp only [List.getElem?_toArray, List.getElem?_cons_succ, List.getElem?_cons_zero]; rfl) (by rfl) (by rfl) (fun K hK => ?_); (go_simp; try go_bits; try go_simp); refine hK _ ?_; clear hK K) | (refine E.plan_skip (E.Ext.refl _) (by simp only [List.getElem?_toArray, List.getElem?_cons_succ, List.getElem?_cons_zero]; rfl) (by rfl) (fun K hK => ?_); (go_simp; try go_bits; try go_simp); refine hK _ ?_; clear hK K))
          refine E.plan_eff (by simp only [List.getElem?_toArray, List.getElem?_cons_succ, List.getElem?_cons_zero]; rfl) (by rfl) (fun K hK => ?_); (go_simp; try go_bits); refine hK _ _ (E.Ext.alloc _ _) ?_; clear hK K
          refine E.plan_eff (by simp only [List.getElem?_toArray, List.getElem?_cons_succ, List.getElem?_cons_zero]; rfl) (by rfl) (fun K hK => ?_); (go_simp; try go_bits)
          refine (HINS.out _ _ ((hSl8.ext (E.Ext.drew _)).ext (E.Ext.alloc _ _)) (E.Blk.new _ _ _)).mono ?_; rintro e w9 ⟨A5, c5, rfl, hx9, ho9⟩; refine hK _ _ hx9 ?_; clear hK K
          have hx89 := ((E.Ext.drew w8).trans (E.Ext.alloc _ _)).trans hx9
          have R9 := R7.ext hx89
          have OB9 := OB7.ext hx89
          clear ck fk co fo
          obtain ⟨cr, fr⟩ := R9.facts
          obtain ⟨co, fo⟩ := OB9.facts
          have hobl := OB9.lt
          have hrl := R9.lt
          repeat (first | (refine E.plan_pure (by simp only [List.getElem?_toArray, List.getElem?_cons_succ, List.getElem?_cons_zero]; rfl) (by rfl) (fun K hK => ?_); (go_simp; try go_bits; try go_simp); refine hK _ ?_; clear hK K) | (refine E.plan_load (by simp only [List.getElem?_toArray, List.getElem?_cons_succ, List.getElem?_cons_zero]; rfl) (by rfl) (by rfl) (fun K hK => ?_); (go_simp; try go_bits; try go_simp); refine hK _ ?_; clear hK K) | (refine E.plan_skip (E.Ext.refl _) (by simp only [List.getElem?_toArray, List.getElem?_cons_succ, List.getElem?_cons_zero]; rfl) (by rfl) (fun K hK => ?_); (go_simp; try go_bits; try go_simp); refine hK _ ?_; clear hK K))
          refine E.plan_last (by simp only [List.getElem?_toArray, List.getElem?_cons_succ, List.getElem?_cons_zero]; rfl) (by rfl) (fun K hK => ?_); (go_simp; try go_bits); refine hK _ _ ?_; clear hK K
          repeat (first | (refine E.plan_pure (by simp only [List.getElem?_toArray, List.getElem?_cons_succ, List.getElem?_cons_zero]; rfl) (by rfl) (fun K hK => ?_); (go_simp; try go_bits; try go_simp); refine hK _ ?_; clear hK K) | (refine E.plan_load (by simp only [List.getElem?_toArray, List.getElem?_cons_succ, List.getElem?_cons_zero]; rfl) (by rfl) (by rfl) (fun K hK => ?_); (go_simp; try go_bits; try go_simp); refine hK _ ?_; clear hK K) | (refine E.plan_skip (E.Ext.refl _) (by simp only [List.getElem?_toArray, List.getElem?_cons_succ, List.getElem?_cons_zero]; rfl) (by rfl) (fun K hK => ?_); (go_simp; try go_bits; try go_simp); refine hK _ ?_; clear hK K))
          refine E.plan_nil ?_
          have hext9 : E.Ext w w9 := (hxW7.trans hx8).trans hx89
          have hown9 := own_mono ho9 (show w.heap.size ≤ _ by have := (hxW7.trans hx8).size; simp; omega)
          go_wp2_with fail
          all_goals
            first
              | (have hn : min (x.clean - 1) ((p : Nat) : Int) = (x.clean - 1) := by omega
                 refine bodyPost_ret (v := .tuple #[(Shelf.mk (x.keys[0]'hlen).stamp (kt.take p ++ k :: kt.drop p) ((x.clean - 1))).val A5 c5, .int .i64 p, .int .i64 0]) (by simp [results, Try.results15, go_sem, cr, fr, co, fo, Shelf.val, hobr, Nat.min_eq_left hple]) rfl ?_
                 rw [HP.out, HROOM.out]
                 unfold putAt
                 simp only [HPK.out]
                 rw [hn]
                 refine ⟨A5, c5, rfl, ?_, ?_⟩)
              | (have hn : min (x.clean - 1) ((p : Nat) : Int) = ((p : Nat) : Int) := by omega
                 refine bodyPost_ret (v := .tuple #[(Shelf.mk (x.keys[0]'hlen).stamp (kt.take p ++ k :: kt.drop p) ((p : Nat) : Int)).val A5 c5, .int .i64 p, .int .i64 0]) (by simp [results, Try.results15, go_sem, cr, fr, co, fo, Shelf.val, hobr, Nat.min_eq_left hple]) rfl ?_
                 rw [HP.out, HROOM.out]
                 unfold putAt
                 simp only [HPK.out]
                 rw [hn]
                 refine ⟨A5, c5, rfl, ?_, ?_⟩)
            · repeat (refine E.Ext.setCell ?_ (by first | (simp; done) | (simp; omega) | omega) _)
              exact hext9
            · refine own_extS (S := fun k => k = ob ∨ k = w.heap.size + 1 + 1 + 1) hown9 ?_ (fun g cs hg e => ?_)
              · repeat (refine E.ExtS.set ?_ (by simp) _)
                exact E.ExtS.refl _ _
              · rcases e with e | e
                · exact hg.ne OB9 (by decide) e
                · exact hg.ne R9 (by decide) e
  · have HP := Lib.hid (put_err HJ.out hj0)
    have hjb : (j != 0) = true := by simpa using hj0
    obtain ⟨c1, f1⟩ := R1.facts
    have hrlt := R1.lt
    clear hj0
    go_wp2_with fail
    refine bodyPost_ret (v := .tuple #[noShelf.val none 0, .int .i64 0, .int .i64 j]) (by simp [results, Try.results15, go_sem, c1, f1, Shelf.val, noShelf]) rfl ?_
    rw [HP.out]
    refine ⟨none, 0, rfl, ?_, ?_⟩
    · repeat (refine E.Ext.setCell ?_ (by simp <;> omega) _)
      exact hx01
    · exact World.ownsRow_nil _ _ _ _
end Go.Proofs.Ytedpkficechjnaa.BB
