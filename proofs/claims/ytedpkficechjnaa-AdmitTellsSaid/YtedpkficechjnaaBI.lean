/- The document's Put. -/
import Derived.Test.YtedpkficechjnaaBG
import Derived.Test.YtedpkficechjnaaET
namespace Go.Proofs.Ytedpkficechjnaa.BI
open Go.RowKit
open Go.Proofs.Ytedpkficechjnaa
open Go.Proofs.Ytedpkficechjnaa.KA Go.Proofs.Ytedpkficechjnaa.K Go.Proofs.Ytedpkficechjnaa.KB Go.Proofs.Ytedpkficechjnaa.KI Go.Proofs.Ytedpkficechjnaa.KQ Go.Proofs.Ytedpkficechjnaa.S Go.Proofs.Ytedpkficechjnaa.KR Go.Proofs.Ytedpkficechjnaa.KS Go.Proofs.Ytedpkficechjnaa.KT Go.Proofs.Ytedpkficechjnaa.KO Go.Proofs.Ytedpkficechjnaa.KU Go.Proofs.Ytedpkficechjnaa.AS Go.Proofs.Ytedpkficechjnaa.AT Go.Proofs.Ytedpkficechjnaa.AU Go.Proofs.Ytedpkficechjnaa.AV Go.Proofs.Ytedpkficechjnaa.AW Go.Proofs.Ytedpkficechjnaa.AX Go.Proofs.Ytedpkficechjnaa.AY Go.Proofs.Ytedpkficechjnaa.BA Go.Proofs.Ytedpkficechjnaa.BB Go.Proofs.Ytedpkficechjnaa.BD Go.Proofs.Ytedpkficechjnaa.BE
set_option linter.unusedVariables false
set_option linter.unusedSimpArgs false

/-- A load that yields the same wherever blocks below B stay. -/
theorem plan_load_b {P : Program} {ops : Array Oper} {R : Act → World → Prop} {z i B : Nat} {p : List (Nat × Bool)} {a : Act} {w : World} {o : Oper} {t : TypeId} {x : Operand} (ho : ops[i]? = some o) (hl : o.op = .load t x) (hw : Region.wanted o (yielded ops a.tmps) = true)
    (v : Value) (hv : ∀ w', Below B w w' → (Instr.loadAt t (a.eval x)).run P w' = .ok v w') (h : E.wpPlan P ops z (Below B) R p (a.put o.dst v) w) :
    E.wpPlan P ops z (Below B) R ((i, true) :: p) a w :=
  E.plan_at ho hw fun K hK => by
    refine ⟨v, fun w' hx => ?_, hK _ h⟩
    simp only [execOp, hl]
    simp [Sem.run_bind, hv w' hx]
theorem below_pre (B : Nat) : (∀ w, Below B w w) ∧ (∀ a b c, Below B a b → Below B b c → Below B a c) := ⟨fun _ => Below.refl _ _, fun _ _ _ => Below.trans⟩
theorem load_keys {w' : World} {rb : Nat} {u v : Value} {A : Option Addr} {n c : Nat} (h : E.Blk w' rb 26 #[u, .slice A n c, v]) : (Instr.loadAt 24 (.pointer (some ⟨rb, 1, none⟩))).run Try.prog w' = .ok (.slice A n c) w' := by
  have c1 := h.cell 1
  simp [go_sem, c1]
theorem load_key {w' : World} {g : Nat} {u0 u1 u2 : Value} (h : E.Blk w' g 28 #[u0, u1, u2]) : (Instr.loadAt 28 (.pointer (some ⟨g, 0, none⟩))).run Try.prog w' = .ok (.agg #[u0, u1, u2]) w' := by
  have c0 := h.cell 0
  have c1 := h.cell 1
  have c2 := h.cell 2
  simp [go_sem, c0, c1, c2]

set_option maxRecDepth 8000 in
set_option maxHeartbeats 6400000 in
theorem putR_any (s : Setup) (x : Shelf) (A : Option Addr) (c : Nat) (k : Key) (w : World) (hS : Sl w 3 A x.keys.length c (keyCells x.keys)) (hl : x.keys.length ≤ 1099511627776) :
    Calls Try.prog 16 #[s.val, x.val A c, k.val] w (OwnedS w (put s x k).1 (put s x k).2.1 (put s x k).2.2) := by
  have hx0 := (((E.Ext.alloc w (.cells #[.int .i64 s.keep, .int .i64 s.horizon, .int .i64 s.ahead, .int .i64 s.budget, .int .i64 s.window] 23)).trans (E.Ext.alloc _ (.cells #[.int .i64 x.base, .slice A x.keys.length c, .int .i64 x.clean] 26))).trans (E.Ext.alloc _ (.cells #[.int .i64 k.stamp, .int .i64 k.sensor, .int .i64 k.seq] 28))).trans (E.Ext.alloc _ (.cells #[.int .i64 0, .slice none 0 0, .int .i64 0] 26))
  obtain ⟨j, hj⟩ : ∃ j, judge s x k = j := ⟨_, rfl⟩
  have HJ := Lib.hid hj
  clear hj
  unfold Shelf.val Setup.val Key.val
  go_enter Try.func16, Try.ntmps16
  go_wp2_with fail
  refine (judgeR_any s x A c k _ (hS.ext hx0) hl).mono ?_
  rintro e w1 ⟨rfl, hx1⟩
  rw [HJ.out]
  have S1 : SetupB w1 w.heap.size s := E.blk3 hx1 rfl
  have X1 : ShelfB w1 (w.heap.size + 1) x A c := by have := E.blk2 hx1 rfl; simp only [World.size_alloc] at this; exact this
  have K1 : KeyB w1 (w.heap.size + 1 + 1) k := by have := E.blk1 hx1 rfl; simp only [World.size_alloc] at this; exact this
  have R1 : E.Blk w1 (w.heap.size + 1 + 1 + 1) 26 #[.int .i64 0, .slice none 0 0, .int .i64 0] := by have := E.blk0 hx1 rfl; simp only [World.size_alloc] at this; exact this
  have hx01 := hx0.trans hx1
  by_cases hj0 : j = 0
  · subst hj0
    have hfit := judge_fits HJ.out
    obtain ⟨⟨a1, a2⟩, ⟨a3, a4⟩, ⟨a5, a6⟩, ⟨a7, a8⟩, a9, a10, a11⟩ := fits_all hfit
    have hk200 := fits_len hfit
    have hup := hfit.2.1
    have HP := Lib.hid (put_ok HJ.out)
    have HUP := Lib.hid hup
    clear hfit hup
    obtain ⟨c1, f1⟩ := E.Blk.facts S1
    obtain ⟨c2, f2⟩ := E.Blk.facts X1
    obtain ⟨c3, f3⟩ := E.Blk.facts K1
    have hbe := full_beq s x
    cases hfu : fullB s x with
    | false =>
      have HROOM := Lib.hid (room_not hfu)
      rw [hfu] at hbe
      clear hfu
      have hSl7 := hS.ext hx01
      have hxW7 := hx01
      have K7 := K1
      have R7 := R1
      have X7 := X1
      have HUP7 := HUP
      have hm200 := hk200
      go_wp2_with fail
      clear c1 f1 c2 f2 c3 f3
      refine (findR_up x.keys A c k _ hSl7 (by omega) HUP7.out).mono ?_
      rintro e w8 ⟨rfl, hx8⟩
      obtain ⟨p, hp⟩ : ∃ p, kpos x.keys k = p := ⟨_, rfl⟩
      have hple : p ≤ x.keys.length := by rw [← hp]; exact kpos_le _ _
      have HPK := Lib.hid hp
      rw [hp]
      clear hp
      replace K7 := E.Blk.ext K7 hx8
      replace R7 := R7.ext hx8
      replace X7 := E.Blk.ext X7 hx8
      have hSl8 := hSl7.ext hx8
      have hml := hSl8.cap
      have hmx := hSl8.max
      have hX8 := hxW7.trans hx8
      have hbx : w.heap.size + 1 < w8.heap.size := E.Blk.lt X7
      have hbk : w.heap.size + 1 + 1 < w8.heap.size := E.Blk.lt K7
      have hbr : w.heap.size + 1 + 1 + 1 < w8.heap.size := E.Blk.lt R7
      generalize hB : w8.heap.size = B at *
      have hpc : p ≤ c := by omega
      have hpci : (p : Int) ≤ (c : Int) := by omega
      have hpi : (p : Int) ≤ (x.keys.length : Int) := by omega
      have hp0 : (0 : Int) ≤ (p : Int) := by omega
      have hcl : x.keys.length ≤ c := hml
      have hp1 : ¬ (c : Int) < (p : Int) := by omega
      have hp2 : ¬ c < p := by omega
      go_wp2_with fail
      refine ET.wp_tree (below_pre B) 15 (.fork [(1, true), (2, true), (3, true), (4, true), (6, true), (9, true), (10, true), (11, true), (12, true)] 0 7 (.fork [] 5 7 (.leaf [(7, false), (8, false), (13, false), (14, true), (15, false)]) (.leaf [(5, false), (8, false), (13, false), (14, true), (15, false)])) (.leaf [(0, false), (5, false), (8, false), (13, false), (14, true), (15, false)])) (by kernel_rfl) (by kernel_rfl) ?_
      refine ET.fork_of ?_
      repeat (first | (refine E.plan_pure (by simp only [List.getElem?_toArray, List.getElem?_cons_succ, List.getElem?_cons_zero]; rfl) (by rfl) (fun K hK => ?_); (go_simp; try go_bits; try go_simp); refine hK _ ?_; clear hK K) | (refine E.plan_load (by simp only [List.getElem?_toArray, List.getElem?_cons_succ, List.getElem?_cons_zero]; rfl) (by rfl) (by rfl) (fun K hK => ?_); (go_simp; try go_bits; try go_simp); refine hK _ ?_; clear hK K) | (refine E.plan_skip (E.Ext.refl _) (by simp only [List.getElem?_toArray, List.getElem?_cons_succ, List.getElem?_cons_zero]; rfl) (by rfl) (fun K hK => ?_); (go_simp; try go_bits; try go_simp); refine hK _ ?_; clear hK K))
      refine plan_load_b (by simp only [List.getElem?_toArray, List.getElem?_cons_succ, List.getElem?_cons_zero]; rfl) (by rfl) (by rfl) (_) (fun w' hw' => load_keys ((E.Blk.drew X7).below hw' hbx)) ?_; (try dsimp only [Act.put]); (go_simp; try go_bits; try go_simp)
      repeat (first | (refine E.plan_pure (by simp only [List.getElem?_toArray, List.getElem?_cons_succ, List.getElem?_cons_zero]; rfl) (by rfl) (fun K hK => ?_); (go_simp; try go_bits; try go_simp); refine hK _ ?_; clear hK K) | (refine E.plan_load (by simp only [List.getElem?_toArray, List.getElem?_cons_succ, List.getElem?_cons_zero]; rfl) (by rfl) (by rfl) (fun K hK => ?_); (go_simp; try go_bits; try go_simp); refine hK _ ?_; clear hK K) | (refine E.plan_skip (E.Ext.refl _) (by simp only [List.getElem?_toArray, List.getElem?_cons_succ, List.getElem?_cons_zero]; rfl) (by rfl) (fun K hK => ?_); (go_simp; try go_bits; try go_simp); refine hK _ ?_; clear hK K))
      refine plan_load_b (by simp only [List.getElem?_toArray, List.getElem?_cons_succ, List.getElem?_cons_zero]; rfl) (by rfl) (by rfl) (_) (fun w' hw' => load_key ((E.Blk.drew K7).below hw' hbk)) ?_; (try dsimp only [Act.put]); (go_simp; try go_bits; try go_simp)
      repeat (first | (refine E.plan_pure (by simp only [List.getElem?_toArray, List.getElem?_cons_succ, List.getElem?_cons_zero]; rfl) (by rfl) (fun K hK => ?_); (go_simp; try go_bits; try go_simp); refine hK _ ?_; clear hK K) | (refine E.plan_load (by simp only [List.getElem?_toArray, List.getElem?_cons_succ, List.getElem?_cons_zero]; rfl) (by rfl) (by rfl) (fun K hK => ?_); (go_simp; try go_bits; try go_simp); refine hK _ ?_; clear hK K) | (refine E.plan_skip (E.Ext.refl _) (by simp only [List.getElem?_toArray, List.getElem?_cons_succ, List.getElem?_cons_zero]; rfl) (by rfl) (fun K hK => ?_); (go_simp; try go_bits; try go_simp); refine hK _ ?_; clear hK K))
      refine plan_load_b (by simp only [List.getElem?_toArray, List.getElem?_cons_succ, List.getElem?_cons_zero]; rfl) (by rfl) (by rfl) (_) (fun w' hw' => load_keys ((E.Blk.drew X7).below hw' hbx)) ?_; (try dsimp only [Act.put]); (go_simp; try go_bits; try go_simp)
      repeat (first | (refine E.plan_pure (by simp only [List.getElem?_toArray, List.getElem?_cons_succ, List.getElem?_cons_zero]; rfl) (by rfl) (fun K hK => ?_); (go_simp; try go_bits; try go_simp); refine hK _ ?_; clear hK K) | (refine E.plan_load (by simp only [List.getElem?_toArray, List.getElem?_cons_succ, List.getElem?_cons_zero]; rfl) (by rfl) (by rfl) (fun K hK => ?_); (go_simp; try go_bits; try go_simp); refine hK _ ?_; clear hK K) | (refine E.plan_skip (E.Ext.refl _) (by simp only [List.getElem?_toArray, List.getElem?_cons_succ, List.getElem?_cons_zero]; rfl) (by rfl) (fun K hK => ?_); (go_simp; try go_bits; try go_simp); refine hK _ ?_; clear hK K))
      refine E.plan_nil ?_
      have hslP : Sl w8 3 A p c (keyCells (x.keys.take p)) := ksl_take hSl8 hple
      have hslD := hSl8.cut (by decide) (k := p) (m := x.keys.length) (c' := c) hple (Nat.le_refl _) hml (Nat.le_refl _)
      rw [List.take_of_length_le (by rw [keyCells_len]; exact Nat.le_refl _), ← keyCells_drop] at hslD
      try rw [Option.map_some, addr_add] at hslD
      have hBd : w8.drew.heap.size = B := hB
      have hsd : Below B w8 w8.drew := (Below.refl _ _).drew
      have hB0 : B ≤ w8.heap.size := by omega
      have hB1 : w8.heap.size ≤ B := by omega
      have hwB : w.heap.size ≤ B := by omega
      clear hpci hpi hp0 hcl hp1 hp2
      constructor
      · refine E.plan_eff (by simp only [List.getElem?_toArray, List.getElem?_cons_succ, List.getElem?_cons_zero]; rfl) (by rfl) (fun K hK => ?_); (go_simp; try go_bits)
        refine hK _ _ ((Below.refl _ _).alloc (by simp; omega) _) ?_; clear hK K
        have hmk := own_ext (own_of_made (W := w8) (e := 28) (size := 3) (cap := 0)) (E.Ext.drew _)
        rw [hB] at hmk
        have hsa : Below B w8 ((w8.alloc (.cells #[] 28)).drew) := ((Below.refl _ _).alloc hB0 _).drew
        refine E.plan_nil ?_
        refine ET.fork_of ?_
        refine E.plan_nil ?_
        constructor
        · refine E.plan_eff (by simp only [List.getElem?_toArray, List.getElem?_cons_succ, List.getElem?_cons_zero]; rfl) (by rfl) (fun K hK => ?_)
          refine wp_append_sl st47 _ _ rfl B _ 0 [] rfl hmk A p c (keyCells (x.keys.take p)) rfl (hslP.below (B := B) hB1 hsa) (keyCells_one _) (by omega) (by decide) (by have := hsa.size; omega) ?_
          intro v1 w9 ho9 hb9 hg9
          go_simp
          refine hK _ _ hb9 ?_; clear hK K
          simp only [Nat.zero_add, List.nil_append] at ho9
          have hs9 := Below.trans hsa hb9
          refine E.plan_nil ?_
          refine ET.leaf_of ?_
          refine E.plan_eff (by simp only [List.getElem?_toArray, List.getElem?_cons_succ, List.getElem?_cons_zero]; rfl) (by rfl) (fun K hK => ?_); (go_simp; try go_bits)
          refine hK _ _ ((Below.refl _ _).alloc (by have := hs9.size; omega) _) ?_; clear hK K
          have HK := E.Blk.new w9 28 #[.int .i64 k.stamp, .int .i64 k.sensor, .int .i64 k.seq]
          have hsv := hs9.alloc (by have := hs9.size; omega) (.cells #[.int .i64 k.stamp, .int .i64 k.sensor, .int .i64 k.seq] 28)
          have hov := own_ext ho9 (E.Ext.alloc w9 (.cells #[.int .i64 k.stamp, .int .i64 k.sensor, .int .i64 k.seq] 28))
          refine E.plan_eff (by simp only [List.getElem?_toArray, List.getElem?_cons_succ, List.getElem?_cons_zero]; rfl) (by rfl) (fun K hK => ?_)
          refine wp_append_sl st47 _ _ rfl B v1 p _ rfl hov _ 1 1 (keyCells [k]) rfl (ksl_one HK) (keyCells_one [k]) (by omega) (by decide) (by have := hsv.size; omega) ?_
          intro v12 w12 ho12 hb12 hg12
          go_simp
          refine hK _ _ hb12 ?_; clear hK K
          have hs12 := Below.trans hsv hb12
          refine E.plan_eff (by simp only [List.getElem?_toArray, List.getElem?_cons_succ, List.getElem?_cons_zero]; rfl) (by rfl) (fun K hK => ?_)
          refine wp_append_sl st47 _ _ rfl B v12 (p + 1) _ rfl ho12 _ (x.keys.length - p) (c - p) _ rfl (hslD.below (B := B) hB1 hs12) (keyCells_one _) (by omega) (by decide) (by have := hs12.size; omega) ?_
          intro v14 w14 ho14 hb14 hg14
          have hnl : p + 1 + (x.keys.length - p) = (x.keys.take p ++ k :: x.keys.drop p).length := by rw [List.length_append, List.length_cons, List.length_take, List.length_drop, Nat.min_eq_left hple]; omega
          rw [hnl, show keyCells (x.keys.take p) ++ keyCells [k] ++ keyCells (x.keys.drop p) = keyCells (x.keys.take p ++ k :: x.keys.drop p) by simp [keyCells]] at ho14
          have hs14 := Below.trans hs12 hb14
          obtain ⟨A14, c14, rfl, hsl14⟩ := own_sl ho14
          go_simp
          refine hK _ _ hb14 ?_; clear hK K
          have X14 := E.Blk.below X7 hs14 hbx
          have R14 := E.Blk.below R7 hs14 hbr
          obtain ⟨co, fo⟩ := X14.facts
          obtain ⟨cr, fr⟩ := R14.facts
          have hobl := X14.lt
          have hrl := R14.lt
          have hx14 : E.Ext w8 w14 := by
            unfold E.Ext
            rw [hB]
            exact hs14
          have hext := hX8.trans hx14
          have hown14 := own_mono ho14 hwB
          clear hnl hsl14
          repeat (first | (refine E.plan_pure (by simp only [List.getElem?_toArray, List.getElem?_cons_succ, List.getElem?_cons_zero]; rfl) (by rfl) (fun K hK => ?_); (go_simp; try go_bits; try go_simp); refine hK _ ?_; clear hK K) | (refine E.plan_load (by simp only [List.getElem?_toArray, List.getElem?_cons_succ, List.getElem?_cons_zero]; rfl) (by rfl) (by rfl) (fun K hK => ?_); (go_simp; try go_bits; try go_simp); refine hK _ ?_; clear hK K) | (refine E.plan_skip (E.Ext.refl _) (by simp only [List.getElem?_toArray, List.getElem?_cons_succ, List.getElem?_cons_zero]; rfl) (by rfl) (fun K hK => ?_); (go_simp; try go_bits; try go_simp); refine hK _ ?_; clear hK K))
          refine E.plan_last (by simp only [List.getElem?_toArray, List.getElem?_cons_succ, List.getElem?_cons_zero]; rfl) (by rfl) (fun K hK => ?_); (go_simp; try go_bits); refine hK _ _ ?_; clear hK K
          refine E.plan_nil ?_
          go_wp2_with fail
          all_goals
            first
              | (have hn : min x.clean ((p : Nat) : Int) = x.clean := by omega
                 refine bodyPost_ret (v := .tuple #[(Shelf.mk x.base (x.keys.take p ++ k :: x.keys.drop p) (x.clean)).val A14 c14, .int .i64 p, .int .i64 0]) (by simp [results, Try.results16, go_sem, cr, fr, co, fo, Shelf.val, Nat.min_eq_left hple]) rfl ?_
                 rw [HP.out, HROOM.out]
                 unfold putAt
                 simp only [HPK.out]
                 rw [hn]
                 refine ⟨A14, c14, rfl, ?_, ?_⟩)
              | (have hn : min x.clean ((p : Nat) : Int) = ((p : Nat) : Int) := by omega
                 refine bodyPost_ret (v := .tuple #[(Shelf.mk x.base (x.keys.take p ++ k :: x.keys.drop p) ((p : Nat) : Int)).val A14 c14, .int .i64 p, .int .i64 0]) (by simp [results, Try.results16, go_sem, cr, fr, co, fo, Shelf.val, Nat.min_eq_left hple]) rfl ?_
                 rw [HP.out, HROOM.out]
                 unfold putAt
                 simp only [HPK.out]
                 rw [hn]
                 refine ⟨A14, c14, rfl, ?_, ?_⟩)
            · repeat (refine E.Ext.setCell ?_ (by first | (simp; done) | (simp; omega) | omega) _)
              exact hext
            · refine own_extS (S := fun k => k = w.heap.size + 1 ∨ k = w.heap.size + 1 + 1 + 1) hown14 ?_ (fun g cs hg e => ?_)
              · repeat (refine E.ExtS.set ?_ (by simp) _)
                exact E.ExtS.refl _ _
              · rcases e with e | e
                · exact hg.ne X14 (by decide) e
                · exact hg.ne R14 (by decide) e
        · refine E.plan_eff (by simp only [List.getElem?_toArray, List.getElem?_cons_succ, List.getElem?_cons_zero]; rfl) (by rfl) (fun K hK => ?_); (go_simp; try go_bits)
          refine hK _ _ ((Below.refl _ _).alloc (by simp; omega) _) ?_; clear hK K
          refine E.plan_nil ?_
          refine ET.leaf_of ?_
          have hsb : Below B w8 (((w8.alloc (.cells #[] 28)).alloc (.cells #[.int .i64 k.stamp, .int .i64 k.sensor, .int .i64 k.seq] 28)).drew) := (((Below.refl _ _).alloc hB0 _).alloc (by simp; omega) _).drew
          have hmk2 := own_ext (own_ext (own_of_made (W := w8) (e := 28) (size := 3) (cap := 0)) (E.Ext.alloc _ (.cells #[.int .i64 k.stamp, .int .i64 k.sensor, .int .i64 k.seq] 28))) (E.Ext.drew _)
          rw [hB] at hmk2
          have HK2 := (E.Blk.new (w8.alloc (.cells #[] 28)) 28 #[.int .i64 k.stamp, .int .i64 k.sensor, .int .i64 k.seq]).drew
          simp only [World.size_alloc, hB] at HK2
          refine E.plan_eff (by simp only [List.getElem?_toArray, List.getElem?_cons_succ, List.getElem?_cons_zero]; rfl) (by rfl) (fun K hK => ?_)
          refine wp_append_sl st47 _ _ rfl B (.slice (some ⟨B, 0, none⟩) 0 0) 0 [] rfl hmk2 A p c (keyCells (x.keys.take p)) rfl (hslP.below (B := B) hB1 hsb) (keyCells_one _) (by omega) (by decide) (by have := hsb.size; omega) ?_
          intro v1 w9 hov hb9 hg9
          go_simp
          refine hK _ _ hb9 ?_; clear hK K
          simp only [Nat.zero_add, List.nil_append] at hov
          have hsv := Below.trans hsb hb9
          have HK := HK2.grown hg9 (by simp [Value.ownBlock])
          refine E.plan_eff (by simp only [List.getElem?_toArray, List.getElem?_cons_succ, List.getElem?_cons_zero]; rfl) (by rfl) (fun K hK => ?_)
          refine wp_append_sl st47 _ _ rfl B v1 p _ rfl hov _ 1 1 (keyCells [k]) rfl (ksl_one HK) (keyCells_one [k]) (by omega) (by decide) (by have := hsv.size; omega) ?_
          intro v12 w12 ho12 hb12 hg12
          go_simp
          refine hK _ _ hb12 ?_; clear hK K
          have hs12 := Below.trans hsv hb12
          refine E.plan_eff (by simp only [List.getElem?_toArray, List.getElem?_cons_succ, List.getElem?_cons_zero]; rfl) (by rfl) (fun K hK => ?_)
          refine wp_append_sl st47 _ _ rfl B v12 (p + 1) _ rfl ho12 _ (x.keys.length - p) (c - p) _ rfl (hslD.below (B := B) hB1 hs12) (keyCells_one _) (by omega) (by decide) (by have := hs12.size; omega) ?_
          intro v14 w14 ho14 hb14 hg14
          have hnl : p + 1 + (x.keys.length - p) = (x.keys.take p ++ k :: x.keys.drop p).length := by rw [List.length_append, List.length_cons, List.length_take, List.length_drop, Nat.min_eq_left hple]; omega
          rw [hnl, show keyCells (x.keys.take p) ++ keyCells [k] ++ keyCells (x.keys.drop p) = keyCells (x.keys.take p ++ k :: x.keys.drop p) by simp [keyCells]] at ho14
          have hs14 := Below.trans hs12 hb14
          obtain ⟨A14, c14, rfl, hsl14⟩ := own_sl ho14
          go_simp
          refine hK _ _ hb14 ?_; clear hK K
          have X14 := E.Blk.below X7 hs14 hbx
          have R14 := E.Blk.below R7 hs14 hbr
          obtain ⟨co, fo⟩ := X14.facts
          obtain ⟨cr, fr⟩ := R14.facts
          have hobl := X14.lt
          have hrl := R14.lt
          have hx14 : E.Ext w8 w14 := by
            unfold E.Ext
            rw [hB]
            exact hs14
          have hext := hX8.trans hx14
          have hown14 := own_mono ho14 hwB
          clear hnl hsl14
          repeat (first | (refine E.plan_pure (by simp only [List.getElem?_toArray, List.getElem?_cons_succ, List.getElem?_cons_zero]; rfl) (by rfl) (fun K hK => ?_); (go_simp; try go_bits; try go_simp); refine hK _ ?_; clear hK K) | (refine E.plan_load (by simp only [List.getElem?_toArray, List.getElem?_cons_succ, List.getElem?_cons_zero]; rfl) (by rfl) (by rfl) (fun K hK => ?_); (go_simp; try go_bits; try go_simp); refine hK _ ?_; clear hK K) | (refine E.plan_skip (E.Ext.refl _) (by simp only [List.getElem?_toArray, List.getElem?_cons_succ, List.getElem?_cons_zero]; rfl) (by rfl) (fun K hK => ?_); (go_simp; try go_bits; try go_simp); refine hK _ ?_; clear hK K))
          refine E.plan_last (by simp only [List.getElem?_toArray, List.getElem?_cons_succ, List.getElem?_cons_zero]; rfl) (by rfl) (fun K hK => ?_); (go_simp; try go_bits); refine hK _ _ ?_; clear hK K
          refine E.plan_nil ?_
          go_wp2_with fail
          all_goals
            first
              | (have hn : min x.clean ((p : Nat) : Int) = x.clean := by omega
                 refine bodyPost_ret (v := .tuple #[(Shelf.mk x.base (x.keys.take p ++ k :: x.keys.drop p) (x.clean)).val A14 c14, .int .i64 p, .int .i64 0]) (by simp [results, Try.results16, go_sem, cr, fr, co, fo, Shelf.val, Nat.min_eq_left hple]) rfl ?_
                 rw [HP.out, HROOM.out]
                 unfold putAt
                 simp only [HPK.out]
                 rw [hn]
                 refine ⟨A14, c14, rfl, ?_, ?_⟩)
              | (have hn : min x.clean ((p : Nat) : Int) = ((p : Nat) : Int) := by omega
                 refine bodyPost_ret (v := .tuple #[(Shelf.mk x.base (x.keys.take p ++ k :: x.keys.drop p) ((p : Nat) : Int)).val A14 c14, .int .i64 p, .int .i64 0]) (by simp [results, Try.results16, go_sem, cr, fr, co, fo, Shelf.val, Nat.min_eq_left hple]) rfl ?_
                 rw [HP.out, HROOM.out]
                 unfold putAt
                 simp only [HPK.out]
                 rw [hn]
                 refine ⟨A14, c14, rfl, ?_, ?_⟩)
            · repeat (refine E.Ext.setCell ?_ (by first | (simp; done) | (simp; omega) | omega) _)
              exact hext
            · refine own_extS (S := fun k => k = w.heap.size + 1 ∨ k = w.heap.size + 1 + 1 + 1) hown14 ?_ (fun g cs hg e => ?_)
              · repeat (refine E.ExtS.set ?_ (by simp) _)
                exact E.ExtS.refl _ _
              · rcases e with e | e
                · exact hg.ne X14 (by decide) e
                · exact hg.ne R14 (by decide) e
      · refine E.plan_eff (by simp only [List.getElem?_toArray, List.getElem?_cons_succ, List.getElem?_cons_zero]; rfl) (by rfl) (fun K hK => ?_); (go_simp; try go_bits)
        refine hK _ _ ((Below.refl _ _).alloc (by simp; omega) _) ?_; clear hK K
        refine E.plan_nil ?_
        refine ET.leaf_of ?_
        refine E.plan_eff (by simp only [List.getElem?_toArray, List.getElem?_cons_succ, List.getElem?_cons_zero]; rfl) (by rfl) (fun K hK => ?_); (go_simp; try go_bits)
        refine hK _ _ ((Below.refl _ _).alloc (by simp; omega) _) ?_; clear hK K
        have hsb : Below B w8 (((w8.alloc (.cells #[.int .i64 k.stamp, .int .i64 k.sensor, .int .i64 k.seq] 28)).alloc (.cells #[] 28)).drew) := (((Below.refl _ _).alloc hB0 _).alloc (by simp; omega) _).drew
        have hmk2 := own_mono (base' := w8.heap.size) (own_ext (own_of_made (W := w8.alloc (.cells #[.int .i64 k.stamp, .int .i64 k.sensor, .int .i64 k.seq] 28)) (e := 28) (size := 3) (cap := 0)) (E.Ext.drew _)) (by simp)
        simp only [World.size_alloc, hB] at hmk2
        have HK2 := ((E.Blk.new w8 28 #[.int .i64 k.stamp, .int .i64 k.sensor, .int .i64 k.seq]).alloc (.cells #[] 28)).drew
        rw [hB] at HK2
        refine E.plan_eff (by simp only [List.getElem?_toArray, List.getElem?_cons_succ, List.getElem?_cons_zero]; rfl) (by rfl) (fun K hK => ?_)
        refine wp_append_sl st47 _ _ rfl B (.slice (some ⟨B + 1, 0, none⟩) 0 0) 0 [] rfl hmk2 A p c (keyCells (x.keys.take p)) rfl (hslP.below (B := B) hB1 hsb) (keyCells_one _) (by omega) (by decide) (by have := hsb.size; omega) ?_
        intro v1 w9 hov hb9 hg9
        go_simp
        refine hK _ _ hb9 ?_; clear hK K
        simp only [Nat.zero_add, List.nil_append] at hov
        have hsv := Below.trans hsb hb9
        have HK := HK2.grown hg9 (by simp [Value.ownBlock])
        refine E.plan_eff (by simp only [List.getElem?_toArray, List.getElem?_cons_succ, List.getElem?_cons_zero]; rfl) (by rfl) (fun K hK => ?_)
        refine wp_append_sl st47 _ _ rfl B v1 p _ rfl hov _ 1 1 (keyCells [k]) rfl (ksl_one HK) (keyCells_one [k]) (by omega) (by decide) (by have := hsv.size; omega) ?_
        intro v12 w12 ho12 hb12 hg12
        go_simp
        refine hK _ _ hb12 ?_; clear hK K
        have hs12 := Below.trans hsv hb12
        refine E.plan_eff (by simp only [List.getElem?_toArray, List.getElem?_cons_succ, List.getElem?_cons_zero]; rfl) (by rfl) (fun K hK => ?_)
        refine wp_append_sl st47 _ _ rfl B v12 (p + 1) _ rfl ho12 _ (x.keys.length - p) (c - p) _ rfl (hslD.below (B := B) hB1 hs12) (keyCells_one _) (by omega) (by decide) (by have := hs12.size; omega) ?_
        intro v14 w14 ho14 hb14 hg14
        have hnl : p + 1 + (x.keys.length - p) = (x.keys.take p ++ k :: x.keys.drop p).length := by rw [List.length_append, List.length_cons, List.length_take, List.length_drop, Nat.min_eq_left hple]; omega
        rw [hnl, show keyCells (x.keys.take p) ++ keyCells [k] ++ keyCells (x.keys.drop p) = keyCells (x.keys.take p ++ k :: x.keys.drop p) by simp [keyCells]] at ho14
        have hs14 := Below.trans hs12 hb14
        obtain ⟨A14, c14, rfl, hsl14⟩ := own_sl ho14
        go_simp
        refine hK _ _ hb14 ?_; clear hK K
        have X14 := E.Blk.below X7 hs14 hbx
        have R14 := E.Blk.below R7 hs14 hbr
        obtain ⟨co, fo⟩ := X14.facts
        obtain ⟨cr, fr⟩ := R14.facts
        have hobl := X14.lt
        have hrl := R14.lt
        have hx14 : E.Ext w8 w14 := by
          unfold E.Ext
          rw [hB]
          exact hs14
        have hext := hX8.trans hx14
        have hown14 := own_mono ho14 hwB
        clear hnl hsl14
        repeat (first | (refine E.plan_pure (by simp only [List.getElem?_toArray, List.getElem?_cons_succ, List.getElem?_cons_zero]; rfl) (by rfl) (fun K hK => ?_); (go_simp; try go_bits; try go_simp); refine hK _ ?_; clear hK K) | (refine E.plan_load (by simp only [List.getElem?_toArray, List.getElem?_cons_succ, List.getElem?_cons_zero]; rfl) (by rfl) (by rfl) (fun K hK => ?_); (go_simp; try go_bits; try go_simp); refine hK _ ?_; clear hK K) | (refine E.plan_skip (E.Ext.refl _) (by simp only [List.getElem?_toArray, List.getElem?_cons_succ, List.getElem?_cons_zero]; rfl) (by rfl) (fun K hK => ?_); (go_simp; try go_bits; try go_simp); refine hK _ ?_; clear hK K))
        refine E.plan_last (by simp only [List.getElem?_toArray, List.getElem?_cons_succ, List.getElem?_cons_zero]; rfl) (by rfl) (fun K hK => ?_); (go_simp; try go_bits); refine hK _ _ ?_; clear hK K
        refine E.plan_nil ?_
        go_wp2_with fail
        all_goals
          first
            | (have hn : min x.clean ((p : Nat) : Int) = x.clean := by omega
               refine bodyPost_ret (v := .tuple #[(Shelf.mk x.base (x.keys.take p ++ k :: x.keys.drop p) (x.clean)).val A14 c14, .int .i64 p, .int .i64 0]) (by simp [results, Try.results16, go_sem, cr, fr, co, fo, Shelf.val, Nat.min_eq_left hple]) rfl ?_
               rw [HP.out, HROOM.out]
               unfold putAt
               simp only [HPK.out]
               rw [hn]
               refine ⟨A14, c14, rfl, ?_, ?_⟩)
            | (have hn : min x.clean ((p : Nat) : Int) = ((p : Nat) : Int) := by omega
               refine bodyPost_ret (v := .tuple #[(Shelf.mk x.base (x.keys.take p ++ k :: x.keys.drop p) ((p : Nat) : Int)).val A14 c14, .int .i64 p, .int .i64 0]) (by simp [results, Try.results16, go_sem, cr, fr, co, fo, Shelf.val, Nat.min_eq_left hple]) rfl ?_
               rw [HP.out, HROOM.out]
               unfold putAt
               simp only [HPK.out]
               rw [hn]
               refine ⟨A14, c14, rfl, ?_, ?_⟩)
          · repeat (refine E.Ext.setCell ?_ (by first | (simp; done) | (simp; omega) | omega) _)
            exact hext
          · refine own_extS (S := fun k => k = w.heap.size + 1 ∨ k = w.heap.size + 1 + 1 + 1) hown14 ?_ (fun g cs hg e => ?_)
            · repeat (refine E.ExtS.set ?_ (by simp) _)
              exact E.ExtS.refl _ _
            · rcases e with e | e
              · exact hg.ne X14 (by decide) e
              · exact hg.ne R14 (by decide) e
    | true =>
      have hlen : 0 < x.keys.length := full_len (judge_fits HJ.out) hfu
      have hcl1 := judge_clean HJ.out hfu
      have HROOM := Lib.hid (room_full hfu hlen)
      rw [hfu] at hbe
      clear hfu
      have hSl1 := hS.ext hx01
      have hcA := hSl1.cap
      have hcM := hSl1.max
      obtain ⟨b, o, rfl, k0, k1, k2⟩ := key_at hSl1 (k := 0) hlen
      simp only [Nat.zero_mul, Nat.add_zero] at k0 k1 k2
      have htl : x.keys.tail.length = x.keys.length - 1 := List.length_tail
      have hl1 : 1 ≤ x.keys.length := hlen
      have hl2 : (1 : Int) ≤ (x.keys.length : Int) := by omega
      have hl3 : ¬ x.keys = [] := fun e => by rw [e] at hlen; cases hlen
      have hl4 : x.keys ≠ [] := hl3
      have hl5 : (0 : Int) < (x.keys.length : Int) := by omega
      have hlx : w.heap.size + 1 < w1.heap.size := E.Blk.lt X1
      have hxb : ¬ b = w.heap.size + 1 := by
        obtain ⟨b', o', he, hbl, _⟩ := hS.cells (by intro e; have := congrArg List.length e; rw [keyCells_len] at this; simp only [List.length_nil] at this; omega)
        cases he
        omega
      by_cases hn1 : c = 1
      · have hif : (c = 1) = True := by simp [hn1]
        have HN1 := Lib.hid hn1
        clear hn1
        go_wp2_with fail
        have X7 : E.Blk (((w1.setCell ⟨w.heap.size + 1, 0, none⟩ (.int .i64 (x.keys[0]'hlen).stamp)).setCell ⟨w.heap.size + 1, 1, none⟩ (.slice (some ⟨b, o, none⟩) (x.keys.length - 1) (c - 1))).setCell ⟨w.heap.size + 1, 2, none⟩ (.int .i64 (x.clean - 1))) (w.heap.size + 1) 26 #[.int .i64 (x.keys[0]'hlen).stamp, .slice (some ⟨b, o, none⟩) (x.keys.length - 1) (c - 1), .int .i64 (x.clean - 1)] :=
          (((E.Blk.set X1 0 (.int .i64 (x.keys[0]'hlen).stamp)).set 1 (.slice (some ⟨b, o, none⟩) (x.keys.length - 1) (c - 1))).set 2 (.int .i64 (x.clean - 1)))
        have hxS : E.ExtS (fun i => i = w.heap.size + 1) w1 (((w1.setCell ⟨w.heap.size + 1, 0, none⟩ (.int .i64 (x.keys[0]'hlen).stamp)).setCell ⟨w.heap.size + 1, 1, none⟩ (.slice (some ⟨b, o, none⟩) (x.keys.length - 1) (c - 1))).setCell ⟨w.heap.size + 1, 2, none⟩ (.int .i64 (x.clean - 1))) := by
          repeat (refine E.ExtS.set ?_ (by simp) _)
          exact E.ExtS.refl _ _
        generalize hW7 : ((w1.setCell ⟨w.heap.size + 1, 0, none⟩ (.int .i64 (x.keys[0]'hlen).stamp)).setCell ⟨w.heap.size + 1, 1, none⟩ (.slice (some ⟨b, o, none⟩) (x.keys.length - 1) (c - 1))).setCell ⟨w.heap.size + 1, 2, none⟩ (.int .i64 (x.clean - 1)) = W7 at *
        clear hW7 c1 f1 c2 f2 c3 f3 k0 k1 k2
        have K7 : KeyB W7 _ k := E.Blk.extS K1 hxS (fun e => by omega)
        have R7 := R1.extS hxS (fun e => by omega)
        have hxW7 := hx01.thenS hxS (fun i hi e => by have e' : i = w.heap.size + 1 := e; omega)
        have hSl7 : Sl W7 3 (some ⟨b, o, none⟩) (x.keys.length - 1) (c - 1) (keyCells x.keys.tail) := by
          have h1 := (hS.ext hxW7).cut (by decide) (k := 1) (m := x.keys.length) (c' := c) hl1 (Nat.le_refl _) hcA (Nat.le_refl _)
          rw [List.take_of_length_le (by rw [keyCells_len]; exact Nat.le_refl _), ← keyCells_drop] at h1
          have hi := HN1.out
          have e : ∀ B : Option Addr, (if c = 1 then some ⟨b, o, none⟩ else (some (⟨b, o, none⟩ : Addr)).map (·.add (1 * 3))) = B → B = (some ⟨b, o, none⟩) := by
            intro B hB
            rw [← hB]
            first
              | rw [if_pos hi]
              | (rw [if_neg hi, Option.map_some, addr_add])
          rw [e _ rfl, List.drop_one] at h1
          exact h1
        have hUPt := up_tail HUP.out
        have HRT := HROOM.out
        rw [← htl] at hSl7 X7
        try rw [← htl]
        generalize hkt : x.keys.tail = kt at *
        have HUP7 := Lib.hid hUPt
        have hm200 : kt.length ≤ 200 := by omega
        clear HROOM
        have HROOM := Lib.hid HRT
        clear HRT hUPt htl hkt hl1 hl2 hl3 hl4 hl5 hif
        refine (findR_up kt (some ⟨b, o, none⟩) (c - 1) k _ hSl7 (by omega) HUP7.out).mono ?_
        rintro e w8 ⟨rfl, hx8⟩
        obtain ⟨p, hp⟩ : ∃ p, kpos kt k = p := ⟨_, rfl⟩
        have hple : p ≤ kt.length := by rw [← hp]; exact kpos_le _ _
        have HPK := Lib.hid hp
        rw [hp]
        clear hp
        replace K7 := E.Blk.ext K7 hx8
        replace R7 := R7.ext hx8
        replace X7 := E.Blk.ext X7 hx8
        have hSl8 := hSl7.ext hx8
        have hml := hSl8.cap
        have hmx := hSl8.max
        have hX8 := hxW7.trans hx8
        have hbx : w.heap.size + 1 < w8.heap.size := E.Blk.lt X7
        have hbk : w.heap.size + 1 + 1 < w8.heap.size := E.Blk.lt K7
        have hbr : w.heap.size + 1 + 1 + 1 < w8.heap.size := E.Blk.lt R7
        generalize hB : w8.heap.size = B at *
        have hpc : p ≤ (c - 1) := by omega
        have hpci : (p : Int) ≤ ((c - 1) : Int) := by omega
        have hpi : (p : Int) ≤ (kt.length : Int) := by omega
        have hp0 : (0 : Int) ≤ (p : Int) := by omega
        have hcl : kt.length ≤ (c - 1) := hml
        have hp1 : ¬ ((c - 1) : Int) < (p : Int) := by omega
        have hp2 : ¬ (c - 1) < p := by omega
        go_wp2_with fail
        refine ET.wp_tree (below_pre B) 15 (.fork [(1, true), (2, true), (3, true), (4, true), (6, true), (9, true), (10, true), (11, true), (12, true)] 0 7 (.fork [] 5 7 (.leaf [(7, false), (8, false), (13, false), (14, true), (15, false)]) (.leaf [(5, false), (8, false), (13, false), (14, true), (15, false)])) (.leaf [(0, false), (5, false), (8, false), (13, false), (14, true), (15, false)])) (by kernel_rfl) (by kernel_rfl) ?_
        refine ET.fork_of ?_
        repeat (first | (refine E.plan_pure (by simp only [List.getElem?_toArray, List.getElem?_cons_succ, List.getElem?_cons_zero]; rfl) (by rfl) (fun K hK => ?_); (go_simp; try go_bits; try go_simp); refine hK _ ?_; clear hK K) | (refine E.plan_load (by simp only [List.getElem?_toArray, List.getElem?_cons_succ, List.getElem?_cons_zero]; rfl) (by rfl) (by rfl) (fun K hK => ?_); (go_simp; try go_bits; try go_simp); refine hK _ ?_; clear hK K) | (refine E.plan_skip (E.Ext.refl _) (by simp only [List.getElem?_toArray, List.getElem?_cons_succ, List.getElem?_cons_zero]; rfl) (by rfl) (fun K hK => ?_); (go_simp; try go_bits; try go_simp); refine hK _ ?_; clear hK K))
        refine plan_load_b (by simp only [List.getElem?_toArray, List.getElem?_cons_succ, List.getElem?_cons_zero]; rfl) (by rfl) (by rfl) (_) (fun w' hw' => load_keys ((E.Blk.drew X7).below hw' hbx)) ?_; (try dsimp only [Act.put]); (go_simp; try go_bits; try go_simp)
        repeat (first | (refine E.plan_pure (by simp only [List.getElem?_toArray, List.getElem?_cons_succ, List.getElem?_cons_zero]; rfl) (by rfl) (fun K hK => ?_); (go_simp; try go_bits; try go_simp); refine hK _ ?_; clear hK K) | (refine E.plan_load (by simp only [List.getElem?_toArray, List.getElem?_cons_succ, List.getElem?_cons_zero]; rfl) (by rfl) (by rfl) (fun K hK => ?_); (go_simp; try go_bits; try go_simp); refine hK _ ?_; clear hK K) | (refine E.plan_skip (E.Ext.refl _) (by simp only [List.getElem?_toArray, List.getElem?_cons_succ, List.getElem?_cons_zero]; rfl) (by rfl) (fun K hK => ?_); (go_simp; try go_bits; try go_simp); refine hK _ ?_; clear hK K))
        refine plan_load_b (by simp only [List.getElem?_toArray, List.getElem?_cons_succ, List.getElem?_cons_zero]; rfl) (by rfl) (by rfl) (_) (fun w' hw' => load_key ((E.Blk.drew K7).below hw' hbk)) ?_; (try dsimp only [Act.put]); (go_simp; try go_bits; try go_simp)
        repeat (first | (refine E.plan_pure (by simp only [List.getElem?_toArray, List.getElem?_cons_succ, List.getElem?_cons_zero]; rfl) (by rfl) (fun K hK => ?_); (go_simp; try go_bits; try go_simp); refine hK _ ?_; clear hK K) | (refine E.plan_load (by simp only [List.getElem?_toArray, List.getElem?_cons_succ, List.getElem?_cons_zero]; rfl) (by rfl) (by rfl) (fun K hK => ?_); (go_simp; try go_bits; try go_simp); refine hK _ ?_; clear hK K) | (refine E.plan_skip (E.Ext.refl _) (by simp only [List.getElem?_toArray, List.getElem?_cons_succ, List.getElem?_cons_zero]; rfl) (by rfl) (fun K hK => ?_); (go_simp; try go_bits; try go_simp); refine hK _ ?_; clear hK K))
        refine plan_load_b (by simp only [List.getElem?_toArray, List.getElem?_cons_succ, List.getElem?_cons_zero]; rfl) (by rfl) (by rfl) (_) (fun w' hw' => load_keys ((E.Blk.drew X7).below hw' hbx)) ?_; (try dsimp only [Act.put]); (go_simp; try go_bits; try go_simp)
        repeat (first | (refine E.plan_pure (by simp only [List.getElem?_toArray, List.getElem?_cons_succ, List.getElem?_cons_zero]; rfl) (by rfl) (fun K hK => ?_); (go_simp; try go_bits; try go_simp); refine hK _ ?_; clear hK K) | (refine E.plan_load (by simp only [List.getElem?_toArray, List.getElem?_cons_succ, List.getElem?_cons_zero]; rfl) (by rfl) (by rfl) (fun K hK => ?_); (go_simp; try go_bits; try go_simp); refine hK _ ?_; clear hK K) | (refine E.plan_skip (E.Ext.refl _) (by simp only [List.getElem?_toArray, List.getElem?_cons_succ, List.getElem?_cons_zero]; rfl) (by rfl) (fun K hK => ?_); (go_simp; try go_bits; try go_simp); refine hK _ ?_; clear hK K))
        refine E.plan_nil ?_
        have hslP : Sl w8 3 (some ⟨b, o, none⟩) p (c - 1) (keyCells (kt.take p)) := ksl_take hSl8 hple
        have hslD := hSl8.cut (by decide) (k := p) (m := kt.length) (c' := (c - 1)) hple (Nat.le_refl _) hml (Nat.le_refl _)
        rw [List.take_of_length_le (by rw [keyCells_len]; exact Nat.le_refl _), ← keyCells_drop] at hslD
        try rw [Option.map_some, addr_add] at hslD
        have hBd : w8.drew.heap.size = B := hB
        have hsd : Below B w8 w8.drew := (Below.refl _ _).drew
        have hB0 : B ≤ w8.heap.size := by omega
        have hB1 : w8.heap.size ≤ B := by omega
        have hwB : w.heap.size ≤ B := by omega
        clear hpci hpi hp0 hcl hp1 hp2
        constructor
        · refine E.plan_eff (by simp only [List.getElem?_toArray, List.getElem?_cons_succ, List.getElem?_cons_zero]; rfl) (by rfl) (fun K hK => ?_); (go_simp; try go_bits)
          refine hK _ _ ((Below.refl _ _).alloc (by simp; omega) _) ?_; clear hK K
          have hmk := own_ext (own_of_made (W := w8) (e := 28) (size := 3) (cap := 0)) (E.Ext.drew _)
          rw [hB] at hmk
          have hsa : Below B w8 ((w8.alloc (.cells #[] 28)).drew) := ((Below.refl _ _).alloc hB0 _).drew
          refine E.plan_nil ?_
          refine ET.fork_of ?_
          refine E.plan_nil ?_
          constructor
          · refine E.plan_eff (by simp only [List.getElem?_toArray, List.getElem?_cons_succ, List.getElem?_cons_zero]; rfl) (by rfl) (fun K hK => ?_)
            refine wp_append_sl st47 _ _ rfl B _ 0 [] rfl hmk (some ⟨b, o, none⟩) p (c - 1) (keyCells (kt.take p)) rfl (hslP.below (B := B) hB1 hsa) (keyCells_one _) (by omega) (by decide) (by have := hsa.size; omega) ?_
            intro v1 w9 ho9 hb9 hg9
            go_simp
            refine hK _ _ hb9 ?_; clear hK K
            simp only [Nat.zero_add, List.nil_append] at ho9
            have hs9 := Below.trans hsa hb9
            refine E.plan_nil ?_
            refine ET.leaf_of ?_
            refine E.plan_eff (by simp only [List.getElem?_toArray, List.getElem?_cons_succ, List.getElem?_cons_zero]; rfl) (by rfl) (fun K hK => ?_); (go_simp; try go_bits)
            refine hK _ _ ((Below.refl _ _).alloc (by have := hs9.size; omega) _) ?_; clear hK K
            have HK := E.Blk.new w9 28 #[.int .i64 k.stamp, .int .i64 k.sensor, .int .i64 k.seq]
            have hsv := hs9.alloc (by have := hs9.size; omega) (.cells #[.int .i64 k.stamp, .int .i64 k.sensor, .int .i64 k.seq] 28)
            have hov := own_ext ho9 (E.Ext.alloc w9 (.cells #[.int .i64 k.stamp, .int .i64 k.sensor, .int .i64 k.seq] 28))
            refine E.plan_eff (by simp only [List.getElem?_toArray, List.getElem?_cons_succ, List.getElem?_cons_zero]; rfl) (by rfl) (fun K hK => ?_)
            refine wp_append_sl st47 _ _ rfl B v1 p _ rfl hov _ 1 1 (keyCells [k]) rfl (ksl_one HK) (keyCells_one [k]) (by omega) (by decide) (by have := hsv.size; omega) ?_
            intro v12 w12 ho12 hb12 hg12
            go_simp
            refine hK _ _ hb12 ?_; clear hK K
            have hs12 := Below.trans hsv hb12
            refine E.plan_eff (by simp only [List.getElem?_toArray, List.getElem?_cons_succ, List.getElem?_cons_zero]; rfl) (by rfl) (fun K hK => ?_)
            refine wp_append_sl st47 _ _ rfl B v12 (p + 1) _ rfl ho12 _ (kt.length - p) ((c - 1) - p) _ rfl (hslD.below (B := B) hB1 hs12) (keyCells_one _) (by omega) (by decide) (by have := hs12.size; omega) ?_
            intro v14 w14 ho14 hb14 hg14
            have hnl : p + 1 + (kt.length - p) = (kt.take p ++ k :: kt.drop p).length := by rw [List.length_append, List.length_cons, List.length_take, List.length_drop, Nat.min_eq_left hple]; omega
            rw [hnl, show keyCells (kt.take p) ++ keyCells [k] ++ keyCells (kt.drop p) = keyCells (kt.take p ++ k :: kt.drop p) by simp [keyCells]] at ho14
            have hs14 := Below.trans hs12 hb14
            obtain ⟨A14, c14, rfl, hsl14⟩ := own_sl ho14
            go_simp
            refine hK _ _ hb14 ?_; clear hK K
            have X14 := E.Blk.below X7 hs14 hbx
            have R14 := E.Blk.below R7 hs14 hbr
            obtain ⟨co, fo⟩ := X14.facts
            obtain ⟨cr, fr⟩ := R14.facts
            have hobl := X14.lt
            have hrl := R14.lt
            have hx14 : E.Ext w8 w14 := by
              unfold E.Ext
              rw [hB]
              exact hs14
            have hext := hX8.trans hx14
            have hown14 := own_mono ho14 hwB
            clear hnl hsl14
            repeat (first | (refine E.plan_pure (by simp only [List.getElem?_toArray, List.getElem?_cons_succ, List.getElem?_cons_zero]; rfl) (by rfl) (fun K hK => ?_); (go_simp; try go_bits; try go_simp); refine hK _ ?_; clear hK K) | (refine E.plan_load (by simp only [List.getElem?_toArray, List.getElem?_cons_succ, List.getElem?_cons_zero]; rfl) (by rfl) (by rfl) (fun K hK => ?_); (go_simp; try go_bits; try go_simp); refine hK _ ?_; clear hK K) | (refine E.plan_skip (E.Ext.refl _) (by simp only [List.getElem?_toArray, List.getElem?_cons_succ, List.getElem?_cons_zero]; rfl) (by rfl) (fun K hK => ?_); (go_simp; try go_bits; try go_simp); refine hK _ ?_; clear hK K))
            refine E.plan_last (by simp only [List.getElem?_toArray, List.getElem?_cons_succ, List.getElem?_cons_zero]; rfl) (by rfl) (fun K hK => ?_); (go_simp; try go_bits); refine hK _ _ ?_; clear hK K
            refine E.plan_nil ?_
            go_wp2_with fail
            all_goals
              first
                | (have hn : min (x.clean - 1) ((p : Nat) : Int) = (x.clean - 1) := by omega
                   refine bodyPost_ret (v := .tuple #[(Shelf.mk (x.keys[0]'hlen).stamp (kt.take p ++ k :: kt.drop p) ((x.clean - 1))).val A14 c14, .int .i64 p, .int .i64 0]) (by simp [results, Try.results16, go_sem, cr, fr, co, fo, Shelf.val, Nat.min_eq_left hple]) rfl ?_
                   rw [HP.out, HROOM.out]
                   unfold putAt
                   simp only [HPK.out]
                   rw [hn]
                   refine ⟨A14, c14, rfl, ?_, ?_⟩)
                | (have hn : min (x.clean - 1) ((p : Nat) : Int) = ((p : Nat) : Int) := by omega
                   refine bodyPost_ret (v := .tuple #[(Shelf.mk (x.keys[0]'hlen).stamp (kt.take p ++ k :: kt.drop p) ((p : Nat) : Int)).val A14 c14, .int .i64 p, .int .i64 0]) (by simp [results, Try.results16, go_sem, cr, fr, co, fo, Shelf.val, Nat.min_eq_left hple]) rfl ?_
                   rw [HP.out, HROOM.out]
                   unfold putAt
                   simp only [HPK.out]
                   rw [hn]
                   refine ⟨A14, c14, rfl, ?_, ?_⟩)
              · repeat (refine E.Ext.setCell ?_ (by first | (simp; done) | (simp; omega) | omega) _)
                exact hext
              · refine own_extS (S := fun k => k = w.heap.size + 1 ∨ k = w.heap.size + 1 + 1 + 1) hown14 ?_ (fun g cs hg e => ?_)
                · repeat (refine E.ExtS.set ?_ (by simp) _)
                  exact E.ExtS.refl _ _
                · rcases e with e | e
                  · exact hg.ne X14 (by decide) e
                  · exact hg.ne R14 (by decide) e
          · refine E.plan_eff (by simp only [List.getElem?_toArray, List.getElem?_cons_succ, List.getElem?_cons_zero]; rfl) (by rfl) (fun K hK => ?_); (go_simp; try go_bits)
            refine hK _ _ ((Below.refl _ _).alloc (by simp; omega) _) ?_; clear hK K
            refine E.plan_nil ?_
            refine ET.leaf_of ?_
            have hsb : Below B w8 (((w8.alloc (.cells #[] 28)).alloc (.cells #[.int .i64 k.stamp, .int .i64 k.sensor, .int .i64 k.seq] 28)).drew) := (((Below.refl _ _).alloc hB0 _).alloc (by simp; omega) _).drew
            have hmk2 := own_ext (own_ext (own_of_made (W := w8) (e := 28) (size := 3) (cap := 0)) (E.Ext.alloc _ (.cells #[.int .i64 k.stamp, .int .i64 k.sensor, .int .i64 k.seq] 28))) (E.Ext.drew _)
            rw [hB] at hmk2
            have HK2 := (E.Blk.new (w8.alloc (.cells #[] 28)) 28 #[.int .i64 k.stamp, .int .i64 k.sensor, .int .i64 k.seq]).drew
            simp only [World.size_alloc, hB] at HK2
            refine E.plan_eff (by simp only [List.getElem?_toArray, List.getElem?_cons_succ, List.getElem?_cons_zero]; rfl) (by rfl) (fun K hK => ?_)
            refine wp_append_sl st47 _ _ rfl B (.slice (some ⟨B, 0, none⟩) 0 0) 0 [] rfl hmk2 (some ⟨b, o, none⟩) p (c - 1) (keyCells (kt.take p)) rfl (hslP.below (B := B) hB1 hsb) (keyCells_one _) (by omega) (by decide) (by have := hsb.size; omega) ?_
            intro v1 w9 hov hb9 hg9
            go_simp
            refine hK _ _ hb9 ?_; clear hK K
            simp only [Nat.zero_add, List.nil_append] at hov
            have hsv := Below.trans hsb hb9
            have HK := HK2.grown hg9 (by simp [Value.ownBlock])
            refine E.plan_eff (by simp only [List.getElem?_toArray, List.getElem?_cons_succ, List.getElem?_cons_zero]; rfl) (by rfl) (fun K hK => ?_)
            refine wp_append_sl st47 _ _ rfl B v1 p _ rfl hov _ 1 1 (keyCells [k]) rfl (ksl_one HK) (keyCells_one [k]) (by omega) (by decide) (by have := hsv.size; omega) ?_
            intro v12 w12 ho12 hb12 hg12
            go_simp
            refine hK _ _ hb12 ?_; clear hK K
            have hs12 := Below.trans hsv hb12
            refine E.plan_eff (by simp only [List.getElem?_toArray, List.getElem?_cons_succ, List.getElem?_cons_zero]; rfl) (by rfl) (fun K hK => ?_)
            refine wp_append_sl st47 _ _ rfl B v12 (p + 1) _ rfl ho12 _ (kt.length - p) ((c - 1) - p) _ rfl (hslD.below (B := B) hB1 hs12) (keyCells_one _) (by omega) (by decide) (by have := hs12.size; omega) ?_
            intro v14 w14 ho14 hb14 hg14
            have hnl : p + 1 + (kt.length - p) = (kt.take p ++ k :: kt.drop p).length := by rw [List.length_append, List.length_cons, List.length_take, List.length_drop, Nat.min_eq_left hple]; omega
            rw [hnl, show keyCells (kt.take p) ++ keyCells [k] ++ keyCells (kt.drop p) = keyCells (kt.take p ++ k :: kt.drop p) by simp [keyCells]] at ho14
            have hs14 := Below.trans hs12 hb14
            obtain ⟨A14, c14, rfl, hsl14⟩ := own_sl ho14
            go_simp
            refine hK _ _ hb14 ?_; clear hK K
            have X14 := E.Blk.below X7 hs14 hbx
            have R14 := E.Blk.below R7 hs14 hbr
            obtain ⟨co, fo⟩ := X14.facts
            obtain ⟨cr, fr⟩ := R14.facts
            have hobl := X14.lt
            have hrl := R14.lt
            have hx14 : E.Ext w8 w14 := by
              unfold E.Ext
              rw [hB]
              exact hs14
            have hext := hX8.trans hx14
            have hown14 := own_mono ho14 hwB
            clear hnl hsl14
            repeat (first | (refine E.plan_pure (by simp only [List.getElem?_toArray, List.getElem?_cons_succ, List.getElem?_cons_zero]; rfl) (by rfl) (fun K hK => ?_); (go_simp; try go_bits; try go_simp); refine hK _ ?_; clear hK K) | (refine E.plan_load (by simp only [List.getElem?_toArray, List.getElem?_cons_succ, List.getElem?_cons_zero]; rfl) (by rfl) (by rfl) (fun K hK => ?_); (go_simp; try go_bits; try go_simp); refine hK _ ?_; clear hK K) | (refine E.plan_skip (E.Ext.refl _) (by simp only [List.getElem?_toArray, List.getElem?_cons_succ, List.getElem?_cons_zero]; rfl) (by rfl) (fun K hK => ?_); (go_simp; try go_bits; try go_simp); refine hK _ ?_; clear hK K))
            refine E.plan_last (by simp only [List.getElem?_toArray, List.getElem?_cons_succ, List.getElem?_cons_zero]; rfl) (by rfl) (fun K hK => ?_); (go_simp; try go_bits); refine hK _ _ ?_; clear hK K
            refine E.plan_nil ?_
            go_wp2_with fail
            all_goals
              first
                | (have hn : min (x.clean - 1) ((p : Nat) : Int) = (x.clean - 1) := by omega
                   refine bodyPost_ret (v := .tuple #[(Shelf.mk (x.keys[0]'hlen).stamp (kt.take p ++ k :: kt.drop p) ((x.clean - 1))).val A14 c14, .int .i64 p, .int .i64 0]) (by simp [results, Try.results16, go_sem, cr, fr, co, fo, Shelf.val, Nat.min_eq_left hple]) rfl ?_
                   rw [HP.out, HROOM.out]
                   unfold putAt
                   simp only [HPK.out]
                   rw [hn]
                   refine ⟨A14, c14, rfl, ?_, ?_⟩)
                | (have hn : min (x.clean - 1) ((p : Nat) : Int) = ((p : Nat) : Int) := by omega
                   refine bodyPost_ret (v := .tuple #[(Shelf.mk (x.keys[0]'hlen).stamp (kt.take p ++ k :: kt.drop p) ((p : Nat) : Int)).val A14 c14, .int .i64 p, .int .i64 0]) (by simp [results, Try.results16, go_sem, cr, fr, co, fo, Shelf.val, Nat.min_eq_left hple]) rfl ?_
                   rw [HP.out, HROOM.out]
                   unfold putAt
                   simp only [HPK.out]
                   rw [hn]
                   refine ⟨A14, c14, rfl, ?_, ?_⟩)
              · repeat (refine E.Ext.setCell ?_ (by first | (simp; done) | (simp; omega) | omega) _)
                exact hext
              · refine own_extS (S := fun k => k = w.heap.size + 1 ∨ k = w.heap.size + 1 + 1 + 1) hown14 ?_ (fun g cs hg e => ?_)
                · repeat (refine E.ExtS.set ?_ (by simp) _)
                  exact E.ExtS.refl _ _
                · rcases e with e | e
                  · exact hg.ne X14 (by decide) e
                  · exact hg.ne R14 (by decide) e
        · refine E.plan_eff (by simp only [List.getElem?_toArray, List.getElem?_cons_succ, List.getElem?_cons_zero]; rfl) (by rfl) (fun K hK => ?_); (go_simp; try go_bits)
          refine hK _ _ ((Below.refl _ _).alloc (by simp; omega) _) ?_; clear hK K
          refine E.plan_nil ?_
          refine ET.leaf_of ?_
          refine E.plan_eff (by simp only [List.getElem?_toArray, List.getElem?_cons_succ, List.getElem?_cons_zero]; rfl) (by rfl) (fun K hK => ?_); (go_simp; try go_bits)
          refine hK _ _ ((Below.refl _ _).alloc (by simp; omega) _) ?_; clear hK K
          have hsb : Below B w8 (((w8.alloc (.cells #[.int .i64 k.stamp, .int .i64 k.sensor, .int .i64 k.seq] 28)).alloc (.cells #[] 28)).drew) := (((Below.refl _ _).alloc hB0 _).alloc (by simp; omega) _).drew
          have hmk2 := own_mono (base' := w8.heap.size) (own_ext (own_of_made (W := w8.alloc (.cells #[.int .i64 k.stamp, .int .i64 k.sensor, .int .i64 k.seq] 28)) (e := 28) (size := 3) (cap := 0)) (E.Ext.drew _)) (by simp)
          simp only [World.size_alloc, hB] at hmk2
          have HK2 := ((E.Blk.new w8 28 #[.int .i64 k.stamp, .int .i64 k.sensor, .int .i64 k.seq]).alloc (.cells #[] 28)).drew
          rw [hB] at HK2
          refine E.plan_eff (by simp only [List.getElem?_toArray, List.getElem?_cons_succ, List.getElem?_cons_zero]; rfl) (by rfl) (fun K hK => ?_)
          refine wp_append_sl st47 _ _ rfl B (.slice (some ⟨B + 1, 0, none⟩) 0 0) 0 [] rfl hmk2 (some ⟨b, o, none⟩) p (c - 1) (keyCells (kt.take p)) rfl (hslP.below (B := B) hB1 hsb) (keyCells_one _) (by omega) (by decide) (by have := hsb.size; omega) ?_
          intro v1 w9 hov hb9 hg9
          go_simp
          refine hK _ _ hb9 ?_; clear hK K
          simp only [Nat.zero_add, List.nil_append] at hov
          have hsv := Below.trans hsb hb9
          have HK := HK2.grown hg9 (by simp [Value.ownBlock])
          refine E.plan_eff (by simp only [List.getElem?_toArray, List.getElem?_cons_succ, List.getElem?_cons_zero]; rfl) (by rfl) (fun K hK => ?_)
          refine wp_append_sl st47 _ _ rfl B v1 p _ rfl hov _ 1 1 (keyCells [k]) rfl (ksl_one HK) (keyCells_one [k]) (by omega) (by decide) (by have := hsv.size; omega) ?_
          intro v12 w12 ho12 hb12 hg12
          go_simp
          refine hK _ _ hb12 ?_; clear hK K
          have hs12 := Below.trans hsv hb12
          refine E.plan_eff (by simp only [List.getElem?_toArray, List.getElem?_cons_succ, List.getElem?_cons_zero]; rfl) (by rfl) (fun K hK => ?_)
          refine wp_append_sl st47 _ _ rfl B v12 (p + 1) _ rfl ho12 _ (kt.length - p) ((c - 1) - p) _ rfl (hslD.below (B := B) hB1 hs12) (keyCells_one _) (by omega) (by decide) (by have := hs12.size; omega) ?_
          intro v14 w14 ho14 hb14 hg14
          have hnl : p + 1 + (kt.length - p) = (kt.take p ++ k :: kt.drop p).length := by rw [List.length_append, List.length_cons, List.length_take, List.length_drop, Nat.min_eq_left hple]; omega
          rw [hnl, show keyCells (kt.take p) ++ keyCells [k] ++ keyCells (kt.drop p) = keyCells (kt.take p ++ k :: kt.drop p) by simp [keyCells]] at ho14
          have hs14 := Below.trans hs12 hb14
          obtain ⟨A14, c14, rfl, hsl14⟩ := own_sl ho14
          go_simp
          refine hK _ _ hb14 ?_; clear hK K
          have X14 := E.Blk.below X7 hs14 hbx
          have R14 := E.Blk.below R7 hs14 hbr
          obtain ⟨co, fo⟩ := X14.facts
          obtain ⟨cr, fr⟩ := R14.facts
          have hobl := X14.lt
          have hrl := R14.lt
          have hx14 : E.Ext w8 w14 := by
            unfold E.Ext
            rw [hB]
            exact hs14
          have hext := hX8.trans hx14
          have hown14 := own_mono ho14 hwB
          clear hnl hsl14
          repeat (first | (refine E.plan_pure (by simp only [List.getElem?_toArray, List.getElem?_cons_succ, List.getElem?_cons_zero]; rfl) (by rfl) (fun K hK => ?_); (go_simp; try go_bits; try go_simp); refine hK _ ?_; clear hK K) | (refine E.plan_load (by simp only [List.getElem?_toArray, List.getElem?_cons_succ, List.getElem?_cons_zero]; rfl) (by rfl) (by rfl) (fun K hK => ?_); (go_simp; try go_bits; try go_simp); refine hK _ ?_; clear hK K) | (refine E.plan_skip (E.Ext.refl _) (by simp only [List.getElem?_toArray, List.getElem?_cons_succ, List.getElem?_cons_zero]; rfl) (by rfl) (fun K hK => ?_); (go_simp; try go_bits; try go_simp); refine hK _ ?_; clear hK K))
          refine E.plan_last (by simp only [List.getElem?_toArray, List.getElem?_cons_succ, List.getElem?_cons_zero]; rfl) (by rfl) (fun K hK => ?_); (go_simp; try go_bits); refine hK _ _ ?_; clear hK K
          refine E.plan_nil ?_
          go_wp2_with fail
          all_goals
            first
              | (have hn : min (x.clean - 1) ((p : Nat) : Int) = (x.clean - 1) := by omega
                 refine bodyPost_ret (v := .tuple #[(Shelf.mk (x.keys[0]'hlen).stamp (kt.take p ++ k :: kt.drop p) ((x.clean - 1))).val A14 c14, .int .i64 p, .int .i64 0]) (by simp [results, Try.results16, go_sem, cr, fr, co, fo, Shelf.val, Nat.min_eq_left hple]) rfl ?_
                 rw [HP.out, HROOM.out]
                 unfold putAt
                 simp only [HPK.out]
                 rw [hn]
                 refine ⟨A14, c14, rfl, ?_, ?_⟩)
              | (have hn : min (x.clean - 1) ((p : Nat) : Int) = ((p : Nat) : Int) := by omega
                 refine bodyPost_ret (v := .tuple #[(Shelf.mk (x.keys[0]'hlen).stamp (kt.take p ++ k :: kt.drop p) ((p : Nat) : Int)).val A14 c14, .int .i64 p, .int .i64 0]) (by simp [results, Try.results16, go_sem, cr, fr, co, fo, Shelf.val, Nat.min_eq_left hple]) rfl ?_
                 rw [HP.out, HROOM.out]
                 unfold putAt
                 simp only [HPK.out]
                 rw [hn]
                 refine ⟨A14, c14, rfl, ?_, ?_⟩)
            · repeat (refine E.Ext.setCell ?_ (by first | (simp; done) | (simp; omega) | omega) _)
              exact hext
            · refine own_extS (S := fun k => k = w.heap.size + 1 ∨ k = w.heap.size + 1 + 1 + 1) hown14 ?_ (fun g cs hg e => ?_)
              · repeat (refine E.ExtS.set ?_ (by simp) _)
                exact E.ExtS.refl _ _
              · rcases e with e | e
                · exact hg.ne X14 (by decide) e
                · exact hg.ne R14 (by decide) e
      · have hif : (c = 1) = False := by simp [hn1]
        have HN1 := Lib.hid hn1
        clear hn1
        go_wp2_with fail
        have X7 : E.Blk (((w1.setCell ⟨w.heap.size + 1, 0, none⟩ (.int .i64 (x.keys[0]'hlen).stamp)).setCell ⟨w.heap.size + 1, 1, none⟩ (.slice (some ⟨b, o + 3, none⟩) (x.keys.length - 1) (c - 1))).setCell ⟨w.heap.size + 1, 2, none⟩ (.int .i64 (x.clean - 1))) (w.heap.size + 1) 26 #[.int .i64 (x.keys[0]'hlen).stamp, .slice (some ⟨b, o + 3, none⟩) (x.keys.length - 1) (c - 1), .int .i64 (x.clean - 1)] :=
          (((E.Blk.set X1 0 (.int .i64 (x.keys[0]'hlen).stamp)).set 1 (.slice (some ⟨b, o + 3, none⟩) (x.keys.length - 1) (c - 1))).set 2 (.int .i64 (x.clean - 1)))
        have hxS : E.ExtS (fun i => i = w.heap.size + 1) w1 (((w1.setCell ⟨w.heap.size + 1, 0, none⟩ (.int .i64 (x.keys[0]'hlen).stamp)).setCell ⟨w.heap.size + 1, 1, none⟩ (.slice (some ⟨b, o + 3, none⟩) (x.keys.length - 1) (c - 1))).setCell ⟨w.heap.size + 1, 2, none⟩ (.int .i64 (x.clean - 1))) := by
          repeat (refine E.ExtS.set ?_ (by simp) _)
          exact E.ExtS.refl _ _
        generalize hW7 : ((w1.setCell ⟨w.heap.size + 1, 0, none⟩ (.int .i64 (x.keys[0]'hlen).stamp)).setCell ⟨w.heap.size + 1, 1, none⟩ (.slice (some ⟨b, o + 3, none⟩) (x.keys.length - 1) (c - 1))).setCell ⟨w.heap.size + 1, 2, none⟩ (.int .i64 (x.clean - 1)) = W7 at *
        clear hW7 c1 f1 c2 f2 c3 f3 k0 k1 k2
        have K7 : KeyB W7 _ k := E.Blk.extS K1 hxS (fun e => by omega)
        have R7 := R1.extS hxS (fun e => by omega)
        have hxW7 := hx01.thenS hxS (fun i hi e => by have e' : i = w.heap.size + 1 := e; omega)
        have hSl7 : Sl W7 3 (some ⟨b, o + 3, none⟩) (x.keys.length - 1) (c - 1) (keyCells x.keys.tail) := by
          have h1 := (hS.ext hxW7).cut (by decide) (k := 1) (m := x.keys.length) (c' := c) hl1 (Nat.le_refl _) hcA (Nat.le_refl _)
          rw [List.take_of_length_le (by rw [keyCells_len]; exact Nat.le_refl _), ← keyCells_drop] at h1
          have hi := HN1.out
          have e : ∀ B : Option Addr, (if c = 1 then some ⟨b, o, none⟩ else (some (⟨b, o, none⟩ : Addr)).map (·.add (1 * 3))) = B → B = (some ⟨b, o + 3, none⟩) := by
            intro B hB
            rw [← hB]
            first
              | rw [if_pos hi]
              | (rw [if_neg hi, Option.map_some, addr_add])
          rw [e _ rfl, List.drop_one] at h1
          exact h1
        have hUPt := up_tail HUP.out
        have HRT := HROOM.out
        rw [← htl] at hSl7 X7
        try rw [← htl]
        generalize hkt : x.keys.tail = kt at *
        have HUP7 := Lib.hid hUPt
        have hm200 : kt.length ≤ 200 := by omega
        clear HROOM
        have HROOM := Lib.hid HRT
        clear HRT hUPt htl hkt hl1 hl2 hl3 hl4 hl5 hif
        refine (findR_up kt (some ⟨b, o + 3, none⟩) (c - 1) k _ hSl7 (by omega) HUP7.out).mono ?_
        rintro e w8 ⟨rfl, hx8⟩
        obtain ⟨p, hp⟩ : ∃ p, kpos kt k = p := ⟨_, rfl⟩
        have hple : p ≤ kt.length := by rw [← hp]; exact kpos_le _ _
        have HPK := Lib.hid hp
        rw [hp]
        clear hp
        replace K7 := E.Blk.ext K7 hx8
        replace R7 := R7.ext hx8
        replace X7 := E.Blk.ext X7 hx8
        have hSl8 := hSl7.ext hx8
        have hml := hSl8.cap
        have hmx := hSl8.max
        have hX8 := hxW7.trans hx8
        have hbx : w.heap.size + 1 < w8.heap.size := E.Blk.lt X7
        have hbk : w.heap.size + 1 + 1 < w8.heap.size := E.Blk.lt K7
        have hbr : w.heap.size + 1 + 1 + 1 < w8.heap.size := E.Blk.lt R7
        generalize hB : w8.heap.size = B at *
        have hpc : p ≤ (c - 1) := by omega
        have hpci : (p : Int) ≤ ((c - 1) : Int) := by omega
        have hpi : (p : Int) ≤ (kt.length : Int) := by omega
        have hp0 : (0 : Int) ≤ (p : Int) := by omega
        have hcl : kt.length ≤ (c - 1) := hml
        have hp1 : ¬ ((c - 1) : Int) < (p : Int) := by omega
        have hp2 : ¬ (c - 1) < p := by omega
        go_wp2_with fail
        refine ET.wp_tree (below_pre B) 15 (.fork [(1, true), (2, true), (3, true), (4, true), (6, true), (9, true), (10, true), (11, true), (12, true)] 0 7 (.fork [] 5 7 (.leaf [(7, false), (8, false), (13, false), (14, true), (15, false)]) (.leaf [(5, false), (8, false), (13, false), (14, true), (15, false)])) (.leaf [(0, false), (5, false), (8, false), (13, false), (14, true), (15, false)])) (by kernel_rfl) (by kernel_rfl) ?_
        refine ET.fork_of ?_
        repeat (first | (refine E.plan_pure (by simp only [List.getElem?_toArray, List.getElem?_cons_succ, List.getElem?_cons_zero]; rfl) (by rfl) (fun K hK => ?_); (go_simp; try go_bits; try go_simp); refine hK _ ?_; clear hK K) | (refine E.plan_load (by simp only [List.getElem?_toArray, List.getElem?_cons_succ, List.getElem?_cons_zero]; rfl) (by rfl) (by rfl) (fun K hK => ?_); (go_simp; try go_bits; try go_simp); refine hK _ ?_; clear hK K) | (refine E.plan_skip (E.Ext.refl _) (by simp only [List.getElem?_toArray, List.getElem?_cons_succ, List.getElem?_cons_zero]; rfl) (by rfl) (fun K hK => ?_); (go_simp; try go_bits; try go_simp); refine hK _ ?_; clear hK K))
        refine plan_load_b (by simp only [List.getElem?_toArray, List.getElem?_cons_succ, List.getElem?_cons_zero]; rfl) (by rfl) (by rfl) (_) (fun w' hw' => load_keys ((E.Blk.drew X7).below hw' hbx)) ?_; (try dsimp only [Act.put]); (go_simp; try go_bits; try go_simp)
        repeat (first | (refine E.plan_pure (by simp only [List.getElem?_toArray, List.getElem?_cons_succ, List.getElem?_cons_zero]; rfl) (by rfl) (fun K hK => ?_); (go_simp; try go_bits; try go_simp); refine hK _ ?_; clear hK K) | (refine E.plan_load (by simp only [List.getElem?_toArray, List.getElem?_cons_succ, List.getElem?_cons_zero]; rfl) (by rfl) (by rfl) (fun K hK => ?_); (go_simp; try go_bits; try go_simp); refine hK _ ?_; clear hK K) | (refine E.plan_skip (E.Ext.refl _) (by simp only [List.getElem?_toArray, List.getElem?_cons_succ, List.getElem?_cons_zero]; rfl) (by rfl) (fun K hK => ?_); (go_simp; try go_bits; try go_simp); refine hK _ ?_; clear hK K))
        refine plan_load_b (by simp only [List.getElem?_toArray, List.getElem?_cons_succ, List.getElem?_cons_zero]; rfl) (by rfl) (by rfl) (_) (fun w' hw' => load_key ((E.Blk.drew K7).below hw' hbk)) ?_; (try dsimp only [Act.put]); (go_simp; try go_bits; try go_simp)
        repeat (first | (refine E.plan_pure (by simp only [List.getElem?_toArray, List.getElem?_cons_succ, List.getElem?_cons_zero]; rfl) (by rfl) (fun K hK => ?_); (go_simp; try go_bits; try go_simp); refine hK _ ?_; clear hK K) | (refine E.plan_load (by simp only [List.getElem?_toArray, List.getElem?_cons_succ, List.getElem?_cons_zero]; rfl) (by rfl) (by rfl) (fun K hK => ?_); (go_simp; try go_bits; try go_simp); refine hK _ ?_; clear hK K) | (refine E.plan_skip (E.Ext.refl _) (by simp only [List.getElem?_toArray, List.getElem?_cons_succ, List.getElem?_cons_zero]; rfl) (by rfl) (fun K hK => ?_); (go_simp; try go_bits; try go_simp); refine hK _ ?_; clear hK K))
        refine plan_load_b (by simp only [List.getElem?_toArray, List.getElem?_cons_succ, List.getElem?_cons_zero]; rfl) (by rfl) (by rfl) (_) (fun w' hw' => load_keys ((E.Blk.drew X7).below hw' hbx)) ?_; (try dsimp only [Act.put]); (go_simp; try go_bits; try go_simp)
        repeat (first | (refine E.plan_pure (by simp only [List.getElem?_toArray, List.getElem?_cons_succ, List.getElem?_cons_zero]; rfl) (by rfl) (fun K hK => ?_); (go_simp; try go_bits; try go_simp); refine hK _ ?_; clear hK K) | (refine E.plan_load (by simp only [List.getElem?_toArray, List.getElem?_cons_succ, List.getElem?_cons_zero]; rfl) (by rfl) (by rfl) (fun K hK => ?_); (go_simp; try go_bits; try go_simp); refine hK _ ?_; clear hK K) | (refine E.plan_skip (E.Ext.refl _) (by simp only [List.getElem?_toArray, List.getElem?_cons_succ, List.getElem?_cons_zero]; rfl) (by rfl) (fun K hK => ?_); (go_simp; try go_bits; try go_simp); refine hK _ ?_; clear hK K))
        refine E.plan_nil ?_
        have hslP : Sl w8 3 (some ⟨b, o + 3, none⟩) p (c - 1) (keyCells (kt.take p)) := ksl_take hSl8 hple
        have hslD := hSl8.cut (by decide) (k := p) (m := kt.length) (c' := (c - 1)) hple (Nat.le_refl _) hml (Nat.le_refl _)
        rw [List.take_of_length_le (by rw [keyCells_len]; exact Nat.le_refl _), ← keyCells_drop] at hslD
        try rw [Option.map_some, addr_add] at hslD
        have hBd : w8.drew.heap.size = B := hB
        have hsd : Below B w8 w8.drew := (Below.refl _ _).drew
        have hB0 : B ≤ w8.heap.size := by omega
        have hB1 : w8.heap.size ≤ B := by omega
        have hwB : w.heap.size ≤ B := by omega
        clear hpci hpi hp0 hcl hp1 hp2
        constructor
        · refine E.plan_eff (by simp only [List.getElem?_toArray, List.getElem?_cons_succ, List.getElem?_cons_zero]; rfl) (by rfl) (fun K hK => ?_); (go_simp; try go_bits)
          refine hK _ _ ((Below.refl _ _).alloc (by simp; omega) _) ?_; clear hK K
          have hmk := own_ext (own_of_made (W := w8) (e := 28) (size := 3) (cap := 0)) (E.Ext.drew _)
          rw [hB] at hmk
          have hsa : Below B w8 ((w8.alloc (.cells #[] 28)).drew) := ((Below.refl _ _).alloc hB0 _).drew
          refine E.plan_nil ?_
          refine ET.fork_of ?_
          refine E.plan_nil ?_
          constructor
          · refine E.plan_eff (by simp only [List.getElem?_toArray, List.getElem?_cons_succ, List.getElem?_cons_zero]; rfl) (by rfl) (fun K hK => ?_)
            refine wp_append_sl st47 _ _ rfl B _ 0 [] rfl hmk (some ⟨b, o + 3, none⟩) p (c - 1) (keyCells (kt.take p)) rfl (hslP.below (B := B) hB1 hsa) (keyCells_one _) (by omega) (by decide) (by have := hsa.size; omega) ?_
            intro v1 w9 ho9 hb9 hg9
            go_simp
            refine hK _ _ hb9 ?_; clear hK K
            simp only [Nat.zero_add, List.nil_append] at ho9
            have hs9 := Below.trans hsa hb9
            refine E.plan_nil ?_
            refine ET.leaf_of ?_
            refine E.plan_eff (by simp only [List.getElem?_toArray, List.getElem?_cons_succ, List.getElem?_cons_zero]; rfl) (by rfl) (fun K hK => ?_); (go_simp; try go_bits)
            refine hK _ _ ((Below.refl _ _).alloc (by have := hs9.size; omega) _) ?_; clear hK K
            have HK := E.Blk.new w9 28 #[.int .i64 k.stamp, .int .i64 k.sensor, .int .i64 k.seq]
            have hsv := hs9.alloc (by have := hs9.size; omega) (.cells #[.int .i64 k.stamp, .int .i64 k.sensor, .int .i64 k.seq] 28)
            have hov := own_ext ho9 (E.Ext.alloc w9 (.cells #[.int .i64 k.stamp, .int .i64 k.sensor, .int .i64 k.seq] 28))
            refine E.plan_eff (by simp only [List.getElem?_toArray, List.getElem?_cons_succ, List.getElem?_cons_zero]; rfl) (by rfl) (fun K hK => ?_)
            refine wp_append_sl st47 _ _ rfl B v1 p _ rfl hov _ 1 1 (keyCells [k]) rfl (ksl_one HK) (keyCells_one [k]) (by omega) (by decide) (by have := hsv.size; omega) ?_
            intro v12 w12 ho12 hb12 hg12
            go_simp
            refine hK _ _ hb12 ?_; clear hK K
            have hs12 := Below.trans hsv hb12
            refine E.plan_eff (by simp only [List.getElem?_toArray, List.getElem?_cons_succ, List.getElem?_cons_zero]; rfl) (by rfl) (fun K hK => ?_)
            refine wp_append_sl st47 _ _ rfl B v12 (p + 1) _ rfl ho12 _ (kt.length - p) ((c - 1) - p) _ rfl (hslD.below (B := B) hB1 hs12) (keyCells_one _) (by omega) (by decide) (by have := hs12.size; omega) ?_
            intro v14 w14 ho14 hb14 hg14
            have hnl : p + 1 + (kt.length - p) = (kt.take p ++ k :: kt.drop p).length := by rw [List.length_append, List.length_cons, List.length_take, List.length_drop, Nat.min_eq_left hple]; omega
            rw [hnl, show keyCells (kt.take p) ++ keyCells [k] ++ keyCells (kt.drop p) = keyCells (kt.take p ++ k :: kt.drop p) by simp [keyCells]] at ho14
            have hs14 := Below.trans hs12 hb14
            obtain ⟨A14, c14, rfl, hsl14⟩ := own_sl ho14
            go_simp
            refine hK _ _ hb14 ?_; clear hK K
            have X14 := E.Blk.below X7 hs14 hbx
            have R14 := E.Blk.below R7 hs14 hbr
            obtain ⟨co, fo⟩ := X14.facts
            obtain ⟨cr, fr⟩ := R14.facts
            have hobl := X14.lt
            have hrl := R14.lt
            have hx14 : E.Ext w8 w14 := by
              unfold E.Ext
              rw [hB]
              exact hs14
            have hext := hX8.trans hx14
            have hown14 := own_mono ho14 hwB
            clear hnl hsl14
            repeat (first | (refine E.plan_pure (by simp only [List.getElem?_toArray, List.getElem?_cons_succ, List.getElem?_cons_zero]; rfl) (by rfl) (fun K hK => ?_); (go_simp; try go_bits; try go_simp); refine hK _ ?_; clear hK K) | (refine E.plan_load (by simp only [List.getElem?_toArray, List.getElem?_cons_succ, List.getElem?_cons_zero]; rfl) (by rfl) (by rfl) (fun K hK => ?_); (go_simp; try go_bits; try go_simp); refine hK _ ?_; clear hK K) | (refine E.plan_skip (E.Ext.refl _) (by simp only [List.getElem?_toArray, List.getElem?_cons_succ, List.getElem?_cons_zero]; rfl) (by rfl) (fun K hK => ?_); (go_simp; try go_bits; try go_simp); refine hK _ ?_; clear hK K))
            refine E.plan_last (by simp only [List.getElem?_toArray, List.getElem?_cons_succ, List.getElem?_cons_zero]; rfl) (by rfl) (fun K hK => ?_); (go_simp; try go_bits); refine hK _ _ ?_; clear hK K
            refine E.plan_nil ?_
            go_wp2_with fail
            all_goals
              first
                | (have hn : min (x.clean - 1) ((p : Nat) : Int) = (x.clean - 1) := by omega
                   refine bodyPost_ret (v := .tuple #[(Shelf.mk (x.keys[0]'hlen).stamp (kt.take p ++ k :: kt.drop p) ((x.clean - 1))).val A14 c14, .int .i64 p, .int .i64 0]) (by simp [results, Try.results16, go_sem, cr, fr, co, fo, Shelf.val, Nat.min_eq_left hple]) rfl ?_
                   rw [HP.out, HROOM.out]
                   unfold putAt
                   simp only [HPK.out]
                   rw [hn]
                   refine ⟨A14, c14, rfl, ?_, ?_⟩)
                | (have hn : min (x.clean - 1) ((p : Nat) : Int) = ((p : Nat) : Int) := by omega
                   refine bodyPost_ret (v := .tuple #[(Shelf.mk (x.keys[0]'hlen).stamp (kt.take p ++ k :: kt.drop p) ((p : Nat) : Int)).val A14 c14, .int .i64 p, .int .i64 0]) (by simp [results, Try.results16, go_sem, cr, fr, co, fo, Shelf.val, Nat.min_eq_left hple]) rfl ?_
                   rw [HP.out, HROOM.out]
                   unfold putAt
                   simp only [HPK.out]
                   rw [hn]
                   refine ⟨A14, c14, rfl, ?_, ?_⟩)
              · repeat (refine E.Ext.setCell ?_ (by first | (simp; done) | (simp; omega) | omega) _)
                exact hext
              · refine own_extS (S := fun k => k = w.heap.size + 1 ∨ k = w.heap.size + 1 + 1 + 1) hown14 ?_ (fun g cs hg e => ?_)
                · repeat (refine E.ExtS.set ?_ (by simp) _)
                  exact E.ExtS.refl _ _
                · rcases e with e | e
                  · exact hg.ne X14 (by decide) e
                  · exact hg.ne R14 (by decide) e
          · refine E.plan_eff (by simp only [List.getElem?_toArray, List.getElem?_cons_succ, List.getElem?_cons_zero]; rfl) (by rfl) (fun K hK => ?_); (go_simp; try go_bits)
            refine hK _ _ ((Below.refl _ _).alloc (by simp; omega) _) ?_; clear hK K
            refine E.plan_nil ?_
            refine ET.leaf_of ?_
            have hsb : Below B w8 (((w8.alloc (.cells #[] 28)).alloc (.cells #[.int .i64 k.stamp, .int .i64 k.sensor, .int .i64 k.seq] 28)).drew) := (((Below.refl _ _).alloc hB0 _).alloc (by simp; omega) _).drew
            have hmk2 := own_ext (own_ext (own_of_made (W := w8) (e := 28) (size := 3) (cap := 0)) (E.Ext.alloc _ (.cells #[.int .i64 k.stamp, .int .i64 k.sensor, .int .i64 k.seq] 28))) (E.Ext.drew _)
            rw [hB] at hmk2
            have HK2 := (E.Blk.new (w8.alloc (.cells #[] 28)) 28 #[.int .i64 k.stamp, .int .i64 k.sensor, .int .i64 k.seq]).drew
            simp only [World.size_alloc, hB] at HK2
            refine E.plan_eff (by simp only [List.getElem?_toArray, List.getElem?_cons_succ, List.getElem?_cons_zero]; rfl) (by rfl) (fun K hK => ?_)
            refine wp_append_sl st47 _ _ rfl B (.slice (some ⟨B, 0, none⟩) 0 0) 0 [] rfl hmk2 (some ⟨b, o + 3, none⟩) p (c - 1) (keyCells (kt.take p)) rfl (hslP.below (B := B) hB1 hsb) (keyCells_one _) (by omega) (by decide) (by have := hsb.size; omega) ?_
            intro v1 w9 hov hb9 hg9
            go_simp
            refine hK _ _ hb9 ?_; clear hK K
            simp only [Nat.zero_add, List.nil_append] at hov
            have hsv := Below.trans hsb hb9
            have HK := HK2.grown hg9 (by simp [Value.ownBlock])
            refine E.plan_eff (by simp only [List.getElem?_toArray, List.getElem?_cons_succ, List.getElem?_cons_zero]; rfl) (by rfl) (fun K hK => ?_)
            refine wp_append_sl st47 _ _ rfl B v1 p _ rfl hov _ 1 1 (keyCells [k]) rfl (ksl_one HK) (keyCells_one [k]) (by omega) (by decide) (by have := hsv.size; omega) ?_
            intro v12 w12 ho12 hb12 hg12
            go_simp
            refine hK _ _ hb12 ?_; clear hK K
            have hs12 := Below.trans hsv hb12
            refine E.plan_eff (by simp only [List.getElem?_toArray, List.getElem?_cons_succ, List.getElem?_cons_zero]; rfl) (by rfl) (fun K hK => ?_)
            refine wp_append_sl st47 _ _ rfl B v12 (p + 1) _ rfl ho12 _ (kt.length - p) ((c - 1) - p) _ rfl (hslD.below (B := B) hB1 hs12) (keyCells_one _) (by omega) (by decide) (by have := hs12.size; omega) ?_
            intro v14 w14 ho14 hb14 hg14
            have hnl : p + 1 + (kt.length - p) = (kt.take p ++ k :: kt.drop p).length := by rw [List.length_append, List.length_cons, List.length_take, List.length_drop, Nat.min_eq_left hple]; omega
            rw [hnl, show keyCells (kt.take p) ++ keyCells [k] ++ keyCells (kt.drop p) = keyCells (kt.take p ++ k :: kt.drop p) by simp [keyCells]] at ho14
            have hs14 := Below.trans hs12 hb14
            obtain ⟨A14, c14, rfl, hsl14⟩ := own_sl ho14
            go_simp
            refine hK _ _ hb14 ?_; clear hK K
            have X14 := E.Blk.below X7 hs14 hbx
            have R14 := E.Blk.below R7 hs14 hbr
            obtain ⟨co, fo⟩ := X14.facts
            obtain ⟨cr, fr⟩ := R14.facts
            have hobl := X14.lt
            have hrl := R14.lt
            have hx14 : E.Ext w8 w14 := by
              unfold E.Ext
              rw [hB]
              exact hs14
            have hext := hX8.trans hx14
            have hown14 := own_mono ho14 hwB
            clear hnl hsl14
            repeat (first | (refine E.plan_pure (by simp only [List.getElem?_toArray, List.getElem?_cons_succ, List.getElem?_cons_zero]; rfl) (by rfl) (fun K hK => ?_); (go_simp; try go_bits; try go_simp); refine hK _ ?_; clear hK K) | (refine E.plan_load (by simp only [List.getElem?_toArray, List.getElem?_cons_succ, List.getElem?_cons_zero]; rfl) (by rfl) (by rfl) (fun K hK => ?_); (go_simp; try go_bits; try go_simp); refine hK _ ?_; clear hK K) | (refine E.plan_skip (E.Ext.refl _) (by simp only [List.getElem?_toArray, List.getElem?_cons_succ, List.getElem?_cons_zero]; rfl) (by rfl) (fun K hK => ?_); (go_simp; try go_bits; try go_simp); refine hK _ ?_; clear hK K))
            refine E.plan_last (by simp only [List.getElem?_toArray, List.getElem?_cons_succ, List.getElem?_cons_zero]; rfl) (by rfl) (fun K hK => ?_); (go_simp; try go_bits); refine hK _ _ ?_; clear hK K
            refine E.plan_nil ?_
            go_wp2_with fail
            all_goals
              first
                | (have hn : min (x.clean - 1) ((p : Nat) : Int) = (x.clean - 1) := by omega
                   refine bodyPost_ret (v := .tuple #[(Shelf.mk (x.keys[0]'hlen).stamp (kt.take p ++ k :: kt.drop p) ((x.clean - 1))).val A14 c14, .int .i64 p, .int .i64 0]) (by simp [results, Try.results16, go_sem, cr, fr, co, fo, Shelf.val, Nat.min_eq_left hple]) rfl ?_
                   rw [HP.out, HROOM.out]
                   unfold putAt
                   simp only [HPK.out]
                   rw [hn]
                   refine ⟨A14, c14, rfl, ?_, ?_⟩)
                | (have hn : min (x.clean - 1) ((p : Nat) : Int) = ((p : Nat) : Int) := by omega
                   refine bodyPost_ret (v := .tuple #[(Shelf.mk (x.keys[0]'hlen).stamp (kt.take p ++ k :: kt.drop p) ((p : Nat) : Int)).val A14 c14, .int .i64 p, .int .i64 0]) (by simp [results, Try.results16, go_sem, cr, fr, co, fo, Shelf.val, Nat.min_eq_left hple]) rfl ?_
                   rw [HP.out, HROOM.out]
                   unfold putAt
                   simp only [HPK.out]
                   rw [hn]
                   refine ⟨A14, c14, rfl, ?_, ?_⟩)
              · repeat (refine E.Ext.setCell ?_ (by first | (simp; done) | (simp; omega) | omega) _)
                exact hext
              · refine own_extS (S := fun k => k = w.heap.size + 1 ∨ k = w.heap.size + 1 + 1 + 1) hown14 ?_ (fun g cs hg e => ?_)
                · repeat (refine E.ExtS.set ?_ (by simp) _)
                  exact E.ExtS.refl _ _
                · rcases e with e | e
                  · exact hg.ne X14 (by decide) e
                  · exact hg.ne R14 (by decide) e
        · refine E.plan_eff (by simp only [List.getElem?_toArray, List.getElem?_cons_succ, List.getElem?_cons_zero]; rfl) (by rfl) (fun K hK => ?_); (go_simp; try go_bits)
          refine hK _ _ ((Below.refl _ _).alloc (by simp; omega) _) ?_; clear hK K
          refine E.plan_nil ?_
          refine ET.leaf_of ?_
          refine E.plan_eff (by simp only [List.getElem?_toArray, List.getElem?_cons_succ, List.getElem?_cons_zero]; rfl) (by rfl) (fun K hK => ?_); (go_simp; try go_bits)
          refine hK _ _ ((Below.refl _ _).alloc (by simp; omega) _) ?_; clear hK K
          have hsb : Below B w8 (((w8.alloc (.cells #[.int .i64 k.stamp, .int .i64 k.sensor, .int .i64 k.seq] 28)).alloc (.cells #[] 28)).drew) := (((Below.refl _ _).alloc hB0 _).alloc (by simp; omega) _).drew
          have hmk2 := own_mono (base' := w8.heap.size) (own_ext (own_of_made (W := w8.alloc (.cells #[.int .i64 k.stamp, .int .i64 k.sensor, .int .i64 k.seq] 28)) (e := 28) (size := 3) (cap := 0)) (E.Ext.drew _)) (by simp)
          simp only [World.size_alloc, hB] at hmk2
          have HK2 := ((E.Blk.new w8 28 #[.int .i64 k.stamp, .int .i64 k.sensor, .int .i64 k.seq]).alloc (.cells #[] 28)).drew
          rw [hB] at HK2
          refine E.plan_eff (by simp only [List.getElem?_toArray, List.getElem?_cons_succ, List.getElem?_cons_zero]; rfl) (by rfl) (fun K hK => ?_)
          refine wp_append_sl st47 _ _ rfl B (.slice (some ⟨B + 1, 0, none⟩) 0 0) 0 [] rfl hmk2 (some ⟨b, o + 3, none⟩) p (c - 1) (keyCells (kt.take p)) rfl (hslP.below (B := B) hB1 hsb) (keyCells_one _) (by omega) (by decide) (by have := hsb.size; omega) ?_
          intro v1 w9 hov hb9 hg9
          go_simp
          refine hK _ _ hb9 ?_; clear hK K
          simp only [Nat.zero_add, List.nil_append] at hov
          have hsv := Below.trans hsb hb9
          have HK := HK2.grown hg9 (by simp [Value.ownBlock])
          refine E.plan_eff (by simp only [List.getElem?_toArray, List.getElem?_cons_succ, List.getElem?_cons_zero]; rfl) (by rfl) (fun K hK => ?_)
          refine wp_append_sl st47 _ _ rfl B v1 p _ rfl hov _ 1 1 (keyCells [k]) rfl (ksl_one HK) (keyCells_one [k]) (by omega) (by decide) (by have := hsv.size; omega) ?_
          intro v12 w12 ho12 hb12 hg12
          go_simp
          refine hK _ _ hb12 ?_; clear hK K
          have hs12 := Below.trans hsv hb12
          refine E.plan_eff (by simp only [List.getElem?_toArray, List.getElem?_cons_succ, List.getElem?_cons_zero]; rfl) (by rfl) (fun K hK => ?_)
          refine wp_append_sl st47 _ _ rfl B v12 (p + 1) _ rfl ho12 _ (kt.length - p) ((c - 1) - p) _ rfl (hslD.below (B := B) hB1 hs12) (keyCells_one _) (by omega) (by decide) (by have := hs12.size; omega) ?_
          intro v14 w14 ho14 hb14 hg14
          have hnl : p + 1 + (kt.length - p) = (kt.take p ++ k :: kt.drop p).length := by rw [List.length_append, List.length_cons, List.length_take, List.length_drop, Nat.min_eq_left hple]; omega
          rw [hnl, show keyCells (kt.take p) ++ keyCells [k] ++ keyCells (kt.drop p) = keyCells (kt.take p ++ k :: kt.drop p) by simp [keyCells]] at ho14
          have hs14 := Below.trans hs12 hb14
          obtain ⟨A14, c14, rfl, hsl14⟩ := own_sl ho14
          go_simp
          refine hK _ _ hb14 ?_; clear hK K
          have X14 := E.Blk.below X7 hs14 hbx
          have R14 := E.Blk.below R7 hs14 hbr
          obtain ⟨co, fo⟩ := X14.facts
          obtain ⟨cr, fr⟩ := R14.facts
          have hobl := X14.lt
          have hrl := R14.lt
          have hx14 : E.Ext w8 w14 := by
            unfold E.Ext
            rw [hB]
            exact hs14
          have hext := hX8.trans hx14
          have hown14 := own_mono ho14 hwB
          clear hnl hsl14
          repeat (first | (refine E.plan_pure (by simp only [List.getElem?_toArray, List.getElem?_cons_succ, List.getElem?_cons_zero]; rfl) (by rfl) (fun K hK => ?_); (go_simp; try go_bits; try go_simp); refine hK _ ?_; clear hK K) | (refine E.plan_load (by simp only [List.getElem?_toArray, List.getElem?_cons_succ, List.getElem?_cons_zero]; rfl) (by rfl) (by rfl) (fun K hK => ?_); (go_simp; try go_bits; try go_simp); refine hK _ ?_; clear hK K) | (refine E.plan_skip (E.Ext.refl _) (by simp only [List.getElem?_toArray, List.getElem?_cons_succ, List.getElem?_cons_zero]; rfl) (by rfl) (fun K hK => ?_); (go_simp; try go_bits; try go_simp); refine hK _ ?_; clear hK K))
          refine E.plan_last (by simp only [List.getElem?_toArray, List.getElem?_cons_succ, List.getElem?_cons_zero]; rfl) (by rfl) (fun K hK => ?_); (go_simp; try go_bits); refine hK _ _ ?_; clear hK K
          refine E.plan_nil ?_
          go_wp2_with fail
          all_goals
            first
              | (have hn : min (x.clean - 1) ((p : Nat) : Int) = (x.clean - 1) := by omega
                 refine bodyPost_ret (v := .tuple #[(Shelf.mk (x.keys[0]'hlen).stamp (kt.take p ++ k :: kt.drop p) ((x.clean - 1))).val A14 c14, .int .i64 p, .int .i64 0]) (by simp [results, Try.results16, go_sem, cr, fr, co, fo, Shelf.val, Nat.min_eq_left hple]) rfl ?_
                 rw [HP.out, HROOM.out]
                 unfold putAt
                 simp only [HPK.out]
                 rw [hn]
                 refine ⟨A14, c14, rfl, ?_, ?_⟩)
              | (have hn : min (x.clean - 1) ((p : Nat) : Int) = ((p : Nat) : Int) := by omega
                 refine bodyPost_ret (v := .tuple #[(Shelf.mk (x.keys[0]'hlen).stamp (kt.take p ++ k :: kt.drop p) ((p : Nat) : Int)).val A14 c14, .int .i64 p, .int .i64 0]) (by simp [results, Try.results16, go_sem, cr, fr, co, fo, Shelf.val, Nat.min_eq_left hple]) rfl ?_
                 rw [HP.out, HROOM.out]
                 unfold putAt
                 simp only [HPK.out]
                 rw [hn]
                 refine ⟨A14, c14, rfl, ?_, ?_⟩)
            · repeat (refine E.Ext.setCell ?_ (by first | (simp; done) | (simp; omega) | omega) _)
              exact hext
            · refine own_extS (S := fun k => k = w.heap.size + 1 ∨ k = w.heap.size + 1 + 1 + 1) hown14 ?_ (fun g cs hg e => ?_)
              · repeat (refine E.ExtS.set ?_ (by simp) _)
                exact E.ExtS.refl _ _
              · rcases e with e | e
                · exact hg.ne X14 (by decide) e
                · exact hg.ne R14 (by decide) e
  · have HP := Lib.hid (put_err HJ.out hj0)
    have hjb : (j != 0) = true := by simpa using hj0
    obtain ⟨c1, f1⟩ := R1.facts
    have hrlt := R1.lt
    clear hj0
    go_wp2_with fail
    refine bodyPost_ret (v := .tuple #[noShelf.val none 0, .int .i64 0, .int .i64 j]) (by simp [results, Try.results16, go_sem, c1, f1, Shelf.val, noShelf]) rfl ?_
    rw [HP.out]
    refine ⟨none, 0, rfl, ?_, ?_⟩
    · repeat (refine E.Ext.setCell ?_ (by simp <;> omega) _)
      exact hx01
    · exact World.ownsRow_nil _ _ _ _
end Go.Proofs.Ytedpkficechjnaa.BI
