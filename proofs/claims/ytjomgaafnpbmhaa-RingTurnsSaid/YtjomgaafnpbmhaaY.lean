/- The document's ring: Insert. -/
import Derived.Test.YtjomgaafnpbmhaaX
namespace Go.Proofs.Ytjomgaafnpbmhaa.Y
open Go.RowKit
open Go.Proofs.Ytjomgaafnpbmhaa
open Go.Proofs.Ytjomgaafnpbmhaa.A Go.Proofs.Ytjomgaafnpbmhaa.K Go.Proofs.Ytjomgaafnpbmhaa.B Go.Proofs.Ytjomgaafnpbmhaa.C Go.Proofs.Ytjomgaafnpbmhaa.D Go.Proofs.Ytjomgaafnpbmhaa.F Go.Proofs.Ytjomgaafnpbmhaa.G Go.Proofs.Ytjomgaafnpbmhaa.H Go.Proofs.Ytjomgaafnpbmhaa.I Go.Proofs.Ytjomgaafnpbmhaa.J Go.Proofs.Ytjomgaafnpbmhaa.O Go.Proofs.Ytjomgaafnpbmhaa.P Go.Proofs.Ytjomgaafnpbmhaa.R Go.Proofs.Ytjomgaafnpbmhaa.V Go.Proofs.Ytjomgaafnpbmhaa.W
set_option linter.unusedVariables false
set_option linter.unusedSimpArgs false
variable {F : Nat → Prop}

/-- A load that yields the same wherever blocks below B stay. -/
theorem plan_load_b {P : Program} {ops : Array Oper} {R : Act → World → Prop} {z i B : Nat} {p : List (Nat × Bool)} {a : Act} {w : World} {o : Oper} {t : TypeId} {x : Operand} (ho : ops[i]? = some o) (hl : o.op = .load t x) (hw : Region.wanted o (yielded ops a.tmps) = true)
    (v : Value) (hv : ∀ w', Below B w w' → (Instr.loadAt t (a.eval x)).run P w' = .ok v w') (h : E.wpPlan P ops z (Below B) R p (a.put o.dst v) w) :
    E.wpPlan P ops z (Below B) R ((i, true) :: p) a w :=
  E.plan_at ho hw fun K hK => by
    refine ⟨v, fun w' hx => ?_, hK _ h⟩
    simp only [execOp, hl]
    simp [Sem.run_bind, hv w' hx]
theorem below_pre (B : Nat) : (∀ w, Below B w w) ∧ (∀ a b c, Below B a b → Below B b c → Below B a c) := ⟨fun _ => Below.refl _ _, fun _ _ _ => Below.trans⟩

theorem Try_info30 : (Try.prog.info? 30).map (fun i => (i.zero, i.size, i.bytes)) = some (some (.agg #[.int .i64 0, .int .i64 0, .int .i64 0, .bool false, .slice none 0 0]), 5, 56) := by kernel_rfl
theorem st22 : ST Try.prog 22 30 5 56 := by
  obtain ⟨i, hi, h1, h2, h3⟩ := info_parts Try_info30
  exact ⟨i, _, Try.underlying22, hi, h1, h2, h3, rfl, by decide⟩

theorem load_field {w' : World} {rb : Nat} {u : Value} {A : Option Addr} {n c : Nat} (h : E.Blk w' rb 51 #[u, .slice A n c]) : (Instr.loadAt 22 (.pointer (some ⟨rb, 1, none⟩))).run Try.prog w' = .ok (.slice A n c) w' := by
  have c1 := h.cell 1
  simp [go_sem, c1]
theorem load_box {w' : World} {g : Nat} {u0 u1 u2 u3 u4 : Value} (h : E.Blk w' g 30 #[u0, u1, u2, u3, u4]) : (Instr.loadAt 30 (.pointer (some ⟨g, 0, none⟩))).run Try.prog w' = .ok (.agg #[u0, u1, u2, u3, u4]) w' := by
  have c0 := h.cell 0
  have c1 := h.cell 1
  have c2 := h.cell 2
  have c3 := h.cell 3
  have c4 := h.cell 4
  simp [go_sem, c0, c1, c2, c3, c4]

theorem grown_extS {w w' : World} {ob : Option Nat} (h : w.grownBy w' ob) : E.ExtS (fun k => ob = some k) w w' :=
  ⟨h.os, h.tape, h.output, h.size, fun k hk hn => h.block k hk (fun e => hn e.symm)⟩
theorem own_type {w : World} {base size n g : Nat} {e : TypeId} {v : Value} {xs : List Value} (h : w.ownsRow base e size v n xs) (hg : v.ownBlock = some g) : ∃ cs, E.Blk w g e cs := by
  rcases h.2 with ⟨rfl, _⟩ | ⟨g', cap, cur, rfl, _, h5, _⟩
  · cases hg
  · cases hg
    exact ⟨cur, h5⟩
theorem ref_inserted {w wT w7 w8 w10 w12 w14 : World} {o : Obj} {rb K k c0 B : Nat} {l : List Entry} {x : Entry} {rs : List Rec} {A0 A10 A14 : Option Addr} {c10 c14 : Nat} {v8 v12 : Value} {xs8 xs12 : List Value} {n8 n12 : Nat}
    (q1 : l = rs.map Rec.e) (q4 : ∀ r, r ∈ rs → RecOk F wT r) (hk : k ≤ l.length) (hET : E.Ext w wT) (hx9 : E.Ext wT w7) (p2 : E.Blk w7 rb 51 #[.int .i64 K, .slice A0 l.length c0]) (hB : w7.heap.size = B)
    (hB78 : Below B w7 w8) (hx10 : E.Ext w8 w10) (ho10 : w10.ownsRow w8.heap.size 3 1 (.slice A10 x.data.length c10) x.data.length (ints x.data)) (ho8 : (w10.alloc o).ownsRow B 30 5 v8 n8 xs8) (hg12 : (w10.alloc o).grownBy w12 v8.ownBlock)
    (ho12 : w12.ownsRow B 30 5 v12 n12 xs12) (hg14 : w12.grownBy w14 v12.ownBlock) (hB714 : Below B w7 w14)
    (ho14 : w14.ownsRow B 30 5 (.slice A14 (k + 1 + (l.length - k)) c14) (k + 1 + (l.length - k)) (rcells (rs.take k) ++ rcells [⟨x, A10, c10⟩] ++ rcells (rs.drop k))) :
    RefAt (fun k => F k ∨ w.heap.size ≤ k) (w14.setCell ⟨rb, 1, none⟩ (.slice A14 (k + 1 + (l.length - k)) c14)) rb K (l.take k ++ x :: l.drop k) ∧
      E.ExtS (fun k => k = rb) w (w14.setCell ⟨rb, 1, none⟩ (.slice A14 (k + 1 + (l.length - k)) c14)) := by
  have hX : E.Ext w7 w14 := by unfold E.Ext; rw [hB]; exact hB714
  have hX8 : E.Ext w7 w8 := by unfold E.Ext; rw [hB]; exact hB78
  have hw7 : E.Ext w w7 := hET.trans hx9
  have hll : (l.take k ++ x :: l.drop k).length = k + 1 + (l.length - k) := by
    rw [List.length_append, List.length_take, List.length_cons, List.length_drop, Nat.min_eq_left hk]
    omega
  have pb := p2.ext hX
  have hset : E.ExtS (fun k => k = rb) w14 (w14.setCell ⟨rb, 1, none⟩ (.slice A14 (k + 1 + (l.length - k)) c14)) := E.ExtS.set (S := fun k => k = rb) (p := ⟨rb, 1, none⟩) (E.ExtS.refl _ _) (Or.inl rfl) _
  have hrec : ∀ r G, RecOk G w14 r → RecOk G (w14.setCell ⟨rb, 1, none⟩ (.slice A14 (k + 1 + (l.length - k)) c14)) r := fun r G h =>
    ⟨own_extS h.1 hset (fun g cs hg e => hg.ne pb (by decide) e), h.2⟩
  refine ⟨⟨rs.take k ++ ⟨x, A10, c10⟩ :: rs.drop k, A14, c14, ?_, ?_, ?_, fun r hr => ?_⟩, ((hw7.trans hX).toS _).trans hset⟩
  · rw [q1, List.map_append, List.map_cons, List.map_take, List.map_drop]
  · rw [hll]
    exact pb.set 1 _
  · rw [hll]
    have h := RowB.own ho14
    have e : rcells (rs.take k ++ ⟨x, A10, c10⟩ :: rs.drop k) = rcells (rs.take k) ++ rcells [⟨x, A10, c10⟩] ++ rcells (rs.drop k) := by
      rw [show rs.take k ++ (⟨x, A10, c10⟩ : Rec) :: rs.drop k = rs.take k ++ [⟨x, A10, c10⟩] ++ rs.drop k by simp, rcells_append, rcells_append]
    rw [e]
    exact h.extS hset (fun g cs hg e => hg.ne pb (by decide) e)
  · refine hrec r _ ?_
    have old : r ∈ rs → RecOk (fun k => F k ∨ w.heap.size ≤ k) w14 r := fun h => (((q4 r h).ext hx9).ext hX).mono (fun _ _ h => Or.inl h)
    simp only [List.mem_append, List.mem_cons] at hr
    rcases hr with hr | hr | hr
    · exact old (List.mem_of_mem_take hr)
    · subst hr
      refine ⟨?_, fun k' hk' => Or.inr ?_⟩
      · have h1 := own_extS (own_ext ho10 (E.Ext.alloc w10 o)) (grown_extS hg12) (fun g cs hg e => by
          obtain ⟨cs', h'⟩ := own_type ho8 e
          exact hg.ne h' (by decide) rfl)
        have h2 := own_extS h1 (grown_extS hg14) (fun g cs hg e => by
          obtain ⟨cs', h'⟩ := own_type ho12 e
          exact hg.ne h' (by decide) rfl)
        exact own_mono h2 (Nat.zero_le _)
      · have h1 := (ho10.lt k' hk').1
        have h2 := hw7.size
        have h3 := hX8.size
        omega
    · exact old (List.mem_of_mem_drop hr)

def RefInserted (F : Nat → Prop) (w : World) (rb K : Nat) (l : List Entry) (x : Entry) (e : Ending) (w' : World) : Prop :=
  e = .returned (.tuple #[.int .i64 (insert_ K l x).1, .int .i64 (insert_ K l x).2.1, .int .i64 (insert_ K l x).2.2.1]) ∧
    RefAt (fun k => F k ∨ w.heap.size ≤ k) w' rb K (insert_ K l x).2.2.2 ∧ E.ExtS (fun k => k = rb) w w'

set_option maxHeartbeats 800000 in
theorem refInsert_any (rb K : Nat) (l : List Entry) (x : Entry) (A : Option Addr) (c : Nat) (w : World) (hr : RefAt F w rb K l) (hlK : l.length ≤ K) (hK200 : K ≤ 200)
    (hx : Sl w 1 A x.data.length c (ints x.data)) (hl : x.data.length ≤ 1099511627776) :
    Calls Try.prog 35 #[.pointer (some ⟨rb, 0, none⟩), x.val A c] w (RefInserted F w rb K l x) := by
  unfold Entry.val
  go_enter Try.func35, Try.ntmps35
  go_wp2_with (go_at_call 41; refine (of14_any x A c _).mono ?_; rintro e w1 ⟨rfl, hx1⟩; dsimp only [Key.val, Entry.key]; have H1 := E.blk0 hx1 rfl; try simp only [World.size_alloc, World.size_drew] at H1; obtain ⟨cH1, fH1⟩ := H1.facts)
  have hsz1 := H1.lt
  have hE1 : E.Ext w (w1.alloc (.cells #[.int .i64 x.stamp, .int .i64 x.sensor, .int .i64 x.seq] 57)) := ((E.Ext.alloc _ _).trans hx1).trans (E.Ext.alloc _ _)
  have H2 := E.Blk.new w1 57 #[.int .i64 x.stamp, .int .i64 x.sensor, .int .i64 x.seq]
  replace H1 := H1.alloc (.cells #[.int .i64 x.stamp, .int .i64 x.sensor, .int .i64 x.seq] 57)
  try clear cH1 fH1
  generalize hw2 : w1.alloc (.cells #[.int .i64 x.stamp, .int .i64 x.sensor, .int .i64 x.seq] 57) = w2 at *
  clear hw2 hx1
  generalize hg : w1.heap.size = gk at *
  clear hg
  go_loopw [8] (fun v wr => ∃ k : Nat, v = .int .i64 k ∧ k ≤ l.length ∧ E.Ext w2 wr ∧ ∀ (j : Nat) y, j < k → l[j]? = some y → y.key.lt x.key = true) (fun v _ => l.length - (intOf v).toNat)
  case atStart => exact ⟨0, rfl, Nat.zero_le _, E.Ext.refl _, fun j y h => by omega⟩
  case round =>
    obtain ⟨k, rfl, hk, hx2, hno⟩ := hrel
    have HNO := Lib.hid hno
    clear hno
    have hxr := hE1.trans hx2
    have hrr := hr.ext hxr
    by_cases hlt : k < l.length
    · obtain ⟨y, hy⟩ : ∃ y, l[k]? = some y := ⟨l[k], List.getElem?_eq_getElem hlt⟩
      obtain ⟨A0, c0', b, o, A', c', hB, hcap, hmax, rfl, c0, c1, c2, c3, c4, hsl'⟩ := hrr.at_ hy
      obtain ⟨cb, fb⟩ := hB.facts
      have HY := Lib.hid hy
      clear hy
      have cH2 := ((H2.ext hx2).drew).cell
      go_wp2_with fail
      refine E.wp_plan E.ext_pre 1000000 [(0, true), (1, true), (2, true), (3, true), (4, true), (5, true), (6, true), (7, true), (8, true), (9, true), (10, true), (11, true), (12, true), (13, true), (14, true), (16, true), (15, false), (17, false), (18, true)] (by kernel_rfl) (by kernel_rfl) ?_
      repeat (first | (refine E.plan_pure (by simp only [List.getElem?_toArray, List.getElem?_cons_succ, List.getElem?_cons_zero]; rfl) (by rfl) (fun K hK => ?_); (go_simp; try go_bits; try go_simp); refine hK _ ?_; clear hK K) | (refine E.plan_load (by simp only [List.getElem?_toArray, List.getElem?_cons_succ, List.getElem?_cons_zero]; rfl) (by rfl) (by rfl) (fun K hK => ?_); (go_simp; try go_bits; try go_simp); refine hK _ ?_; clear hK K) | (refine E.plan_skip (E.Ext.refl _) (by simp only [List.getElem?_toArray, List.getElem?_cons_succ, List.getElem?_cons_zero]; rfl) (by rfl) (fun K hK => ?_); (go_simp; try go_bits; try go_simp); refine hK _ ?_; clear hK K))
      refine E.plan_eff (by simp only [List.getElem?_toArray, List.getElem?_cons_succ, List.getElem?_cons_zero]; rfl) (by rfl) (fun K hK => ?_); (go_simp; try go_bits)
      refine (of14_any y A' c' _).mono ?_; rintro e w3 ⟨rfl, hx3⟩; refine hK _ _ hx3 ?_; clear hK K
      dsimp only [Key.val, Entry.key]
      repeat (first | (refine E.plan_pure (by simp only [List.getElem?_toArray, List.getElem?_cons_succ, List.getElem?_cons_zero]; rfl) (by rfl) (fun K hK => ?_); (go_simp; try go_bits; try go_simp); refine hK _ ?_; clear hK K) | (refine E.plan_load (by simp only [List.getElem?_toArray, List.getElem?_cons_succ, List.getElem?_cons_zero]; rfl) (by rfl) (by rfl) (fun K hK => ?_); (go_simp; try go_bits; try go_simp); refine hK _ ?_; clear hK K) | (refine E.plan_skip (E.Ext.refl _) (by simp only [List.getElem?_toArray, List.getElem?_cons_succ, List.getElem?_cons_zero]; rfl) (by rfl) (fun K hK => ?_); (go_simp; try go_bits; try go_simp); refine hK _ ?_; clear hK K))
      refine E.plan_eff (by simp only [List.getElem?_toArray, List.getElem?_cons_succ, List.getElem?_cons_zero]; rfl) (by rfl) (fun K hK => ?_); (go_simp; try go_bits)
      refine (less14_any y.key x.key _).mono ?_; rintro e w4 ⟨rfl, hx4⟩; refine hK _ _ hx4 ?_; clear hK K
      have hx04 := ((E.Ext.drew _).trans hx3).trans hx4
      cases hb1 : y.key.lt x.key with
      | true =>
        repeat (first | (refine E.plan_pure (by simp only [List.getElem?_toArray, List.getElem?_cons_succ, List.getElem?_cons_zero]; rfl) (by rfl) (fun K hK => ?_); (go_simp; try go_bits; try go_simp); refine hK _ ?_; clear hK K) | (refine E.plan_load (by simp only [List.getElem?_toArray, List.getElem?_cons_succ, List.getElem?_cons_zero]; rfl) (by rfl) (by rfl) (fun K hK => ?_); (go_simp; try go_bits; try go_simp); refine hK _ ?_; clear hK K) | (refine E.plan_skip (E.Ext.refl _) (by simp only [List.getElem?_toArray, List.getElem?_cons_succ, List.getElem?_cons_zero]; rfl) (by rfl) (fun K hK => ?_); (go_simp; try go_bits; try go_simp); refine hK _ ?_; clear hK K))
        refine E.plan_nil ?_
        go_wp2_with fail
        go_roundw
        case rel => exact ⟨k + 1, by go_num, by omega, hx2.trans hx04, fun j z hj hz => by
          by_cases hjk : j = k
          · subst hjk
            rw [HY.out] at hz
            cases hz
            exact hb1
          · exact HNO.out j z (by omega) hz⟩
        case measure => simp [intOf]; omega
      | false =>
        have hp : pos l x.key = k := cnt_succ HNO.out (Or.inr ⟨y, HY.out, hb1⟩) hk
        have HP := Lib.hid hp
        clear hp hb1
        repeat (first | (refine E.plan_pure (by simp only [List.getElem?_toArray, List.getElem?_cons_succ, List.getElem?_cons_zero]; rfl) (by rfl) (fun K hK => ?_); (go_simp; try go_bits; try go_simp); refine hK _ ?_; clear hK K) | (refine E.plan_load (by simp only [List.getElem?_toArray, List.getElem?_cons_succ, List.getElem?_cons_zero]; rfl) (by rfl) (by rfl) (fun K hK => ?_); (go_simp; try go_bits; try go_simp); refine hK _ ?_; clear hK K) | (refine E.plan_skip (E.Ext.refl _) (by simp only [List.getElem?_toArray, List.getElem?_cons_succ, List.getElem?_cons_zero]; rfl) (by rfl) (fun K hK => ?_); (go_simp; try go_bits; try go_simp); refine hK _ ?_; clear hK K))
        refine E.plan_nil ?_
        go_wp2_with fail
        clear hlt
        have hlt : k < l.length := (List.getElem?_eq_some_iff.1 HY.out).1
        have hx05 := hx2.trans hx04
        have hE5 := hE1.trans hx05
        clear c0 c1 c2 c3 c4 hsl' cb fb hB
        obtain ⟨A0, c0', b, o, A', c', hB, hcap, hmax, hAe, c0, c1, c2, c3, c4, hsl'⟩ := (hr.ext hE5).at_ HY.out
        cases hAe
        obtain ⟨cb, fb⟩ := hB.facts
        have cH5 := (((H2.ext hx05).drew)).cell
        refine E.wp_plan E.ext_pre 1000000 [(0, true), (1, true), (2, true), (3, true), (4, true), (5, true), (6, true), (7, true), (8, true), (9, true), (10, true), (11, true), (12, true), (13, true), (14, true), (16, true), (15, false), (17, true), (18, true)] (by kernel_rfl) (by kernel_rfl) ?_
        repeat (first | (refine E.plan_pure (by simp only [List.getElem?_toArray, List.getElem?_cons_succ, List.getElem?_cons_zero]; rfl) (by rfl) (fun K hK => ?_); (go_simp; try go_bits; try go_simp); refine hK _ ?_; clear hK K) | (refine E.plan_load (by simp only [List.getElem?_toArray, List.getElem?_cons_succ, List.getElem?_cons_zero]; rfl) (by rfl) (by rfl) (fun K hK => ?_); (go_simp; try go_bits; try go_simp); refine hK _ ?_; clear hK K) | (refine E.plan_skip (E.Ext.refl _) (by simp only [List.getElem?_toArray, List.getElem?_cons_succ, List.getElem?_cons_zero]; rfl) (by rfl) (fun K hK => ?_); (go_simp; try go_bits; try go_simp); refine hK _ ?_; clear hK K))
        refine E.plan_eff (by simp only [List.getElem?_toArray, List.getElem?_cons_succ, List.getElem?_cons_zero]; rfl) (by rfl) (fun K hK => ?_); (go_simp; try go_bits)
        refine (of14_any y A' c' _).mono ?_; rintro e w6 ⟨rfl, hx6⟩; refine hK _ _ hx6 ?_; clear hK K
        dsimp only [Key.val, Entry.key]
        have cH6 := (((H2.ext hx05).drew).ext hx6).cell
        have hk1 := fun w' x y xs ys => guardKey w' x y xs ys
        have hE6 : E.Ext w w6 := (hE5.trans (E.Ext.drew _)).trans hx6
        by_cases hkey : y.key = x.key
        · have hk2 := eqKey_yes hkey
          dsimp only [Key.val, Entry.key] at hk2
          repeat (first | (refine E.plan_pure (by simp only [List.getElem?_toArray, List.getElem?_cons_succ, List.getElem?_cons_zero]; rfl) (by rfl) (fun K hK => ?_); (go_simp; try go_bits; try go_simp); refine hK _ ?_; clear hK K) | (refine E.plan_load (by simp only [List.getElem?_toArray, List.getElem?_cons_succ, List.getElem?_cons_zero]; rfl) (by rfl) (by rfl) (fun K hK => ?_); (go_simp; try go_bits; try go_simp); refine hK _ ?_; clear hK K) | (refine E.plan_skip (E.Ext.refl _) (by simp only [List.getElem?_toArray, List.getElem?_cons_succ, List.getElem?_cons_zero]; rfl) (by rfl) (fun K hK => ?_); (go_simp; try go_bits; try go_simp); refine hK _ ?_; clear hK K))
          refine E.plan_nil ?_
          go_wp2_with fail
          go_ret3
          have hi : insert_ K l x = (0, 0, 7, l) := by
            unfold insert_
            rw [HP.out, HY.out, if_pos (by simp [hkey])]
          exact ⟨by rw [hi]; rfl, by rw [hi]; exact (hr.ext hE6).mono (fun _ _ h => Or.inl h), hE6.toS _⟩
        · have hk2 := eqKey_no hkey
          dsimp only [Key.val, Entry.key] at hk2
          repeat (first | (refine E.plan_pure (by simp only [List.getElem?_toArray, List.getElem?_cons_succ, List.getElem?_cons_zero]; rfl) (by rfl) (fun K hK => ?_); (go_simp; try go_bits; try go_simp); refine hK _ ?_; clear hK K) | (refine E.plan_load (by simp only [List.getElem?_toArray, List.getElem?_cons_succ, List.getElem?_cons_zero]; rfl) (by rfl) (by rfl) (fun K hK => ?_); (go_simp; try go_bits; try go_simp); refine hK _ ?_; clear hK K) | (refine E.plan_skip (E.Ext.refl _) (by simp only [List.getElem?_toArray, List.getElem?_cons_succ, List.getElem?_cons_zero]; rfl) (by rfl) (fun K hK => ?_); (go_simp; try go_bits; try go_simp); refine hK _ ?_; clear hK K))
          refine E.plan_nil ?_
          have hno : ¬ (l[pos l x.key]?).map Entry.key = some x.key := by rw [HP.out, HY.out]; simpa using hkey
          have hET := hE6
          have HT1 := ((H1.ext hx05).drew).ext hx6
          clear hk2 hk1 cH6 cH5 c0 c1 c2 c3 c4 hsl' cb fb hB hcap hmax
          obtain ⟨rs, A0, c0, q1, q2, q3, q4⟩ := hr.ext hET
          have hcap := q3.cap
          have hmax := q3.max
          have hrl : rs.length = l.length := by rw [q1]; simp
          obtain ⟨ab, ao, rfl⟩ : ∃ ab ao, A0 = some ⟨ab, ao, none⟩ := by
            obtain ⟨b', o', _, e, _⟩ := q3.blk (by
              intro e
              have := congrArg List.length e
              rw [rcells_len, hrl] at this
              simp only [List.length_nil] at this
              omega)
            exact ⟨b', o', e⟩
          have hck : ¬ c0 = k := by omega
          have hck2 : ¬ c0 - k = 0 := by omega
          have hsl0 : Sl w6 5 (some ⟨ab, ao + k * 5, none⟩) (l.length - k) (c0 - k) (rcells (rs.drop k)) := by
            have h := q3.sl.cut (by decide) (k := k) (m := l.length) (c' := c0) hk (Nat.le_refl _) hcap (Nat.le_refl _)
            rw [if_neg hck, Option.map_some, addr_add, List.take_of_length_le (by rw [rcells_len, hrl]; exact Nat.le_refl _), ← rcells_drop] at h
            exact h
          have hkc : k ≤ c0 := by omega
          have hsl1 : Sl w6 5 (some ⟨ab, ao, none⟩) k c0 (rcells (rs.take k)) := by
            have h := q3.sl.cut (by decide) (k := 0) (m := k) (c' := c0) (Nat.zero_le _) hk hkc (Nat.le_refl _)
            simp only [Nat.zero_mul, Nat.sub_zero, List.drop_zero, Option.map_some, addr_add, Nat.add_zero, ite_self, ← rcells_take] at h
            exact h
          generalize hwT : w6 = wT at *
          have HT := Lib.hid hno
          clear hno
          obtain ⟨cT1, fT1⟩ := HT1.facts
          obtain ⟨cb, fb⟩ := q2.facts
          by_cases hfull : l.length = K
          · have hfb : (K : Int) ≤ (l.length : Int) := by omega
            have HF := Lib.hid hfull
            have HK1 := Lib.hid q1
            have HK4 := Lib.hid q4
            clear hfull q1 q4
            go_wp2_with fail
            refine E.wp_plan E.ext_pre 1000000 [(0, true), (1, true), (2, true), (3, true), (4, true), (5, true), (6, true), (7, true), (8, true), (9, true)] (by kernel_rfl) (by kernel_rfl) ?_
            repeat (first | (refine E.plan_pure (by simp only [List.getElem?_toArray, List.getElem?_cons_succ, List.getElem?_cons_zero]; rfl) (by rfl) (fun K hK => ?_); (go_simp; try go_bits; try go_simp); refine hK _ ?_; clear hK K) | (refine E.plan_load (by simp only [List.getElem?_toArray, List.getElem?_cons_succ, List.getElem?_cons_zero]; rfl) (by rfl) (by rfl) (fun K hK => ?_); (go_simp; try go_bits; try go_simp); refine hK _ ?_; clear hK K) | (refine E.plan_skip (E.Ext.refl _) (by simp only [List.getElem?_toArray, List.getElem?_cons_succ, List.getElem?_cons_zero]; rfl) (by rfl) (fun K hK => ?_); (go_simp; try go_bits; try go_simp); refine hK _ ?_; clear hK K))
            refine E.plan_nil ?_
            go_wp2_with fail
            go_ret3
            have hi : insert_ K l x = (0, 0, 13, l) := by
              unfold insert_
              rw [HP.out]
              rw [HP.out] at HT
              rw [if_neg HT.out, if_pos HF.out]
            have hfin : RefAt F (_ : World).drew rb K l := RefAt.ext ⟨rs, _, _, HK1.out, q2, q3, HK4.out⟩ (E.Ext.drew _)
            exact ⟨by rw [hi]; rfl, by rw [hi]; exact hfin.mono (fun _ _ h => Or.inl h), (hET.trans (E.Ext.drew _)).toS _⟩
          · have hfb : ¬ (K : Int) ≤ (l.length : Int) := by omega
            have hflt : l.length < K := by omega
            have HF := Lib.hid hfull
            have HK1 := Lib.hid q1
            have HK4 := Lib.hid q4
            clear hfull q1 q4
            go_wp2_with fail
            refine E.wp_plan E.ext_pre 1000000 [(0, true), (1, true), (2, true), (3, true), (4, true), (5, true), (6, true), (7, true), (8, true), (9, true)] (by kernel_rfl) (by kernel_rfl) ?_
            repeat (first | (refine E.plan_pure (by simp only [List.getElem?_toArray, List.getElem?_cons_succ, List.getElem?_cons_zero]; rfl) (by rfl) (fun K hK => ?_); (go_simp; try go_bits; try go_simp); refine hK _ ?_; clear hK K) | (refine E.plan_load (by simp only [List.getElem?_toArray, List.getElem?_cons_succ, List.getElem?_cons_zero]; rfl) (by rfl) (by rfl) (fun K hK => ?_); (go_simp; try go_bits; try go_simp); refine hK _ ?_; clear hK K) | (refine E.plan_skip (E.Ext.refl _) (by simp only [List.getElem?_toArray, List.getElem?_cons_succ, List.getElem?_cons_zero]; rfl) (by rfl) (fun K hK => ?_); (go_simp; try go_bits; try go_simp); refine hK _ ?_; clear hK K))
            refine E.plan_nil ?_
            have cb9 := ((q2.drew).alloc (.cells #[] 30)).cell
            have cb9' := ((q2.alloc (.cells #[] 30)).drew).cell
            have hsl9 := fun o => Sl.ext (Sl.ext hsl0 (E.Ext.alloc _ o)) (E.Ext.drew _)
            have hmade := own_ext (own_of_made (W := wT) (e := 30) (size := 5) (cap := 0)) (E.Ext.drew _)
            go_wp2_with (at_builtin; go_must (refine wpList_append_sl st22 rfl _ _ rfl wT.heap.size _ 0 [] rfl hmade _ _ _ _ rfl (hsl9 _) (rcells_one _) (by omega) (by decide) (by simp) ?_; intro v' w7 hown9 hb9 _; obtain ⟨A9, c9, hv9, _⟩ := own_sl hown9; rw [hv9] at hown9 ⊢))
            have hx9 : E.Ext wT w7 := ((E.Ext.alloc _ _).trans (E.Ext.drew _)).then (Below.mono hb9 (Nat.le_refl _))
            have p2 := q2.ext hx9
            have p3 := q3.ext hx9
            have HTB := HT1.ext hx9
            generalize hB : w7.heap.size = B at *
            have hBr : rb < B := by rw [← hB]; exact p2.lt
            have hBb : w.heap.size < B := by rw [← hB]; exact HTB.lt
            refine E.wp_plan (below_pre B) 17 [(0, true), (2, true), (3, true), (4, true), (5, true), (6, true), (7, true), (9, true), (13, true), (1, false), (8, false), (10, false), (11, false), (12, false), (14, false), (15, false), (16, true), (17, false)] (by kernel_rfl) (by kernel_rfl) ?_
            repeat (first | (refine E.plan_pure (by simp only [List.getElem?_toArray, List.getElem?_cons_succ, List.getElem?_cons_zero]; rfl) (by rfl) (fun K hK => ?_); (go_simp; try go_bits; try go_simp); refine hK _ ?_; clear hK K) | (refine E.plan_load (by simp only [List.getElem?_toArray, List.getElem?_cons_succ, List.getElem?_cons_zero]; rfl) (by rfl) (by rfl) (fun K hK => ?_); (go_simp; try go_bits; try go_simp); refine hK _ ?_; clear hK K) | (refine E.plan_skip (E.Ext.refl _) (by simp only [List.getElem?_toArray, List.getElem?_cons_succ, List.getElem?_cons_zero]; rfl) (by rfl) (fun K hK => ?_); (go_simp; try go_bits; try go_simp); refine hK _ ?_; clear hK K))
            refine plan_load_b (by simp only [List.getElem?_toArray, List.getElem?_cons_succ, List.getElem?_cons_zero]; rfl) (by rfl) (by rfl) (_) (fun w' hw' => load_field ((p2.drew).below hw' hBr)) ?_; (try dsimp only [Act.put]); (go_simp; try go_bits; try go_simp)
            repeat (first | (refine E.plan_pure (by simp only [List.getElem?_toArray, List.getElem?_cons_succ, List.getElem?_cons_zero]; rfl) (by rfl) (fun K hK => ?_); (go_simp; try go_bits; try go_simp); refine hK _ ?_; clear hK K) | (refine E.plan_load (by simp only [List.getElem?_toArray, List.getElem?_cons_succ, List.getElem?_cons_zero]; rfl) (by rfl) (by rfl) (fun K hK => ?_); (go_simp; try go_bits; try go_simp); refine hK _ ?_; clear hK K) | (refine E.plan_skip (E.Ext.refl _) (by simp only [List.getElem?_toArray, List.getElem?_cons_succ, List.getElem?_cons_zero]; rfl) (by rfl) (fun K hK => ?_); (go_simp; try go_bits; try go_simp); refine hK _ ?_; clear hK K))
            refine plan_load_b (by simp only [List.getElem?_toArray, List.getElem?_cons_succ, List.getElem?_cons_zero]; rfl) (by rfl) (by rfl) (_) (fun w' hw' => load_box ((HTB.drew).below hw' hBb)) ?_; (try dsimp only [Act.put]); (go_simp; try go_bits; try go_simp)
            repeat (first | (refine E.plan_pure (by simp only [List.getElem?_toArray, List.getElem?_cons_succ, List.getElem?_cons_zero]; rfl) (by rfl) (fun K hK => ?_); (go_simp; try go_bits; try go_simp); refine hK _ ?_; clear hK K) | (refine E.plan_load (by simp only [List.getElem?_toArray, List.getElem?_cons_succ, List.getElem?_cons_zero]; rfl) (by rfl) (by rfl) (fun K hK => ?_); (go_simp; try go_bits; try go_simp); refine hK _ ?_; clear hK K) | (refine E.plan_skip (E.Ext.refl _) (by simp only [List.getElem?_toArray, List.getElem?_cons_succ, List.getElem?_cons_zero]; rfl) (by rfl) (fun K hK => ?_); (go_simp; try go_bits; try go_simp); refine hK _ ?_; clear hK K))
            have hr0 : B ≤ w7.heap.size := by omega
            refine E.plan_eff (by simp only [List.getElem?_toArray, List.getElem?_cons_succ, List.getElem?_cons_zero]; rfl) (by rfl) (fun K hK => ?_); (go_simp; try go_bits)
            refine hK _ _ ((Below.refl _ _).alloc (by simp; omega) _) ?_; clear hK K
            refine E.plan_eff (by simp only [List.getElem?_toArray, List.getElem?_cons_succ, List.getElem?_cons_zero]; rfl) (by rfl) (fun K hK => ?_)
            refine wp_append_sl st22 _ _ rfl B _ 0 [] rfl (by first | exact (hB ▸ own_ext (own_of_made (W := w7) (e := 30) (size := 5) (cap := 0)) (E.Ext.drew _)) | exact (hB ▸ own_of_made (W := w7.drew) (e := 30) (size := 5) (cap := 0))) _ k _ (rcells (rs.take k)) rfl ((hsl1.ext hx9).ext (by first | exact (E.Ext.alloc _ _).trans (E.Ext.drew _) | exact (E.Ext.drew _).trans (E.Ext.alloc _ _))) (rcells_one _) (by omega) (by decide) (by simp; omega) ?_
            intro v8 w8 ho8 hb8 _
            go_simp
            refine hK _ _ hb8 ?_; clear hK K
            simp only [Nat.zero_add, List.nil_append] at ho8
            have hB78 : Below B w7 w8 := by
              first
                | exact Below.trans (((Below.refl _ _).alloc (by omega) _).drew) hb8
                | exact Below.trans (((Below.refl _ _).drew).alloc (by simp; omega) _) hb8
            have hs8 := hB78.size
            refine E.plan_eff (by simp only [List.getElem?_toArray, List.getElem?_cons_succ, List.getElem?_cons_zero]; rfl) (by rfl) (fun K hK => ?_); (go_simp; try go_bits)
            refine (own_any x A c _ ((hx.ext (hET.trans hx9)).below (B := B) (by omega) hB78) hl).mono ?_
            rintro e w10 ⟨A10, c10, rfl, hx10, ho10⟩
            dsimp only [Entry.val]
            refine hK _ _ (Below.mono hx10 (by omega)) ?_; clear hK K
            have hB710 : Below B w7 w10 := Below.trans hB78 (Below.mono hx10 (by omega))
            refine E.plan_eff (by simp only [List.getElem?_toArray, List.getElem?_cons_succ, List.getElem?_cons_zero]; rfl) (by rfl) (fun K hK => ?_); (go_simp; try go_bits)
            refine hK _ _ ((Below.refl _ _).alloc (by have := hx10.size; omega) _) ?_; clear hK K
            refine E.plan_eff (by simp only [List.getElem?_toArray, List.getElem?_cons_succ, List.getElem?_cons_zero]; rfl) (by rfl) (fun K hK => ?_)
            refine wp_append_sl st22 _ _ rfl B v8 k _ rfl (own_ext (own_ext ho8 hx10) (E.Ext.alloc _ _)) _ 1 1 (rcells [⟨x, A10, c10⟩]) rfl (Sl.blk (size := 5) (n := 1) (c := 1) (E.Blk.new w10 30 #[.int .i64 x.stamp, .int .i64 x.sensor, .int .i64 x.seq, .bool x.input, .slice A10 x.data.length c10]) rfl (by omega) (by omega)) (rcells_one _) (by omega) (by decide) (by have := hx10.size; simp; omega) ?_
            intro v12 w12 ho12 hb12 hg12
            go_simp
            refine hK _ _ hb12 ?_; clear hK K
            have hB712 : Below B w7 w12 := Below.trans (Below.trans hB710 ((Below.refl _ _).alloc (by have := hx10.size; omega) _)) hb12
            have hs12 := hB712.size
            have hsl9' := (own_sl' hown9).below (B := B) (by omega) hB712
            refine E.plan_eff (by simp only [List.getElem?_toArray, List.getElem?_cons_succ, List.getElem?_cons_zero]; rfl) (by rfl) (fun K hK => ?_)
            refine wp_append_sl st22 _ _ rfl B v12 (k + 1) _ rfl ho12 _ (l.length - k) c9 _ rfl (by simpa using hsl9') (rcells_one _) (by omega) (by decide) (by omega) ?_
            intro v14 w14 ho14 hb14 hg14
            obtain ⟨A14, c14, rfl, hsl14⟩ := own_sl ho14
            go_simp
            refine hK _ _ hb14 ?_; clear hK K
            have hB714 : Below B w7 w14 := Below.trans hB712 hb14
            obtain ⟨cb14, fb14⟩ := (p2.below hB714 hBr).facts
            refine E.plan_eff (by simp only [List.getElem?_toArray, List.getElem?_cons_succ, List.getElem?_cons_zero]; rfl) (by rfl) (fun K hK => ?_); (go_simp; try go_bits)
            refine hK _ _ (Below.refl _ _) ?_; clear hK K
            repeat (first | (refine E.plan_pure (by simp only [List.getElem?_toArray, List.getElem?_cons_succ, List.getElem?_cons_zero]; rfl) (by rfl) (fun K hK => ?_); (go_simp; try go_bits; try go_simp); refine hK _ ?_; clear hK K) | (refine E.plan_load (by simp only [List.getElem?_toArray, List.getElem?_cons_succ, List.getElem?_cons_zero]; rfl) (by rfl) (by rfl) (fun K hK => ?_); (go_simp; try go_bits; try go_simp); refine hK _ ?_; clear hK K) | (refine E.plan_skip (E.Ext.refl _) (by simp only [List.getElem?_toArray, List.getElem?_cons_succ, List.getElem?_cons_zero]; rfl) (by rfl) (fun K hK => ?_); (go_simp; try go_bits; try go_simp); refine hK _ ?_; clear hK K))
            refine E.plan_last (by simp only [List.getElem?_toArray, List.getElem?_cons_succ, List.getElem?_cons_zero]; rfl) (by rfl) (fun K hK => ?_); (go_simp; try go_bits); refine hK _ _ ?_; clear hK K
            refine E.plan_nil ?_
            go_wp2_with fail
            go_ret3
            have hi : insert_ K l x = ((k : Int), (l.length : Int) - k, 0, l.take k ++ x :: l.drop k) := by
              unfold insert_
              rw [HP.out]
              rw [HP.out] at HT
              rw [if_neg HT.out, if_neg HF.out]
            have hcast : (((l.length - k : Nat) : Int)) = (l.length : Int) - k := by omega
            obtain ⟨g1, g2⟩ := ref_inserted (F := F) HK1.out HK4.out hk hET hx9 p2 hB hB78 hx10 ho10 (own_ext (own_ext ho8 hx10) (E.Ext.alloc _ _)) hg12 ho12 hg14 hB714 ho14
            exact ⟨by rw [hi]; show Ending.returned (.tuple #[.int .i64 (k : Int), .int .i64 ((l.length - k : Nat) : Int), .int .i64 0]) = _; rw [hcast], by rw [hi]; exact g1, g2⟩
    · have hkl : k = l.length := by omega
      have HKL := Lib.hid hkl
      obtain ⟨A0, c0', hB, hcap, hmax⟩ := hrr.blk
      obtain ⟨cb, fb⟩ := hB.facts
      have hp : pos l x.key = k := cnt_succ HNO.out (Or.inl (by omega)) hk
      have HP := Lib.hid hp
      clear hp hkl
      go_wp2_with fail
      refine E.wp_plan E.ext_pre 1000000 [(0, true), (1, true), (2, true), (3, true), (4, true), (5, true), (6, true), (7, true), (8, true), (9, true), (10, true), (11, true), (12, true), (13, true), (14, true), (16, true), (15, false), (17, false), (18, true)] (by kernel_rfl) (by kernel_rfl) ?_
      repeat (first | (refine E.plan_pure (by simp only [List.getElem?_toArray, List.getElem?_cons_succ, List.getElem?_cons_zero]; rfl) (by rfl) (fun K hK => ?_); (go_simp; try go_bits; try go_simp); refine hK _ ?_; clear hK K) | (refine E.plan_load (by simp only [List.getElem?_toArray, List.getElem?_cons_succ, List.getElem?_cons_zero]; rfl) (by rfl) (by rfl) (fun K hK => ?_); (go_simp; try go_bits; try go_simp); refine hK _ ?_; clear hK K) | (refine E.plan_skip (E.Ext.refl _) (by simp only [List.getElem?_toArray, List.getElem?_cons_succ, List.getElem?_cons_zero]; rfl) (by rfl) (fun K hK => ?_); (go_simp; try go_bits; try go_simp); refine hK _ ?_; clear hK K))
      refine E.plan_nil ?_
      go_wp2_with fail
      have cbd := (hB.drew).cell
      refine E.wp_plan E.ext_pre 1000000 [(0, true), (1, true), (2, true), (3, true), (4, true), (5, true), (6, true), (7, true), (8, true), (9, true), (10, true), (11, true), (12, true), (13, true), (14, true), (16, true), (15, false), (17, true), (18, true)] (by kernel_rfl) (by kernel_rfl) ?_
      repeat (first | (refine E.plan_pure (by simp only [List.getElem?_toArray, List.getElem?_cons_succ, List.getElem?_cons_zero]; rfl) (by rfl) (fun K hK => ?_); (go_simp; try go_bits; try go_simp); refine hK _ ?_; clear hK K) | (refine E.plan_load (by simp only [List.getElem?_toArray, List.getElem?_cons_succ, List.getElem?_cons_zero]; rfl) (by rfl) (by rfl) (fun K hK => ?_); (go_simp; try go_bits; try go_simp); refine hK _ ?_; clear hK K) | (refine E.plan_skip (E.Ext.refl _) (by simp only [List.getElem?_toArray, List.getElem?_cons_succ, List.getElem?_cons_zero]; rfl) (by rfl) (fun K hK => ?_); (go_simp; try go_bits; try go_simp); refine hK _ ?_; clear hK K))
      refine E.plan_nil ?_
      have hno : ¬ (l[pos l x.key]?).map Entry.key = some x.key := by rw [HP.out, List.getElem?_eq_none (by have := HKL.out; omega)]; simp
      have hET := (hxr.trans (E.Ext.drew _)).trans (E.Ext.drew _)
      have HT1 := ((H1.ext hx2).drew).drew
      clear cbd cb fb hB hcap hmax
      try clear hlt
      generalize hwT : wr.drew.drew = wT at *
      obtain ⟨rs, A0', c0, q1, q2, q3, q4⟩ := hr.ext hET
      have hcap := q3.cap
      have hmax := q3.max
      have hrl : rs.length = l.length := by rw [q1]; simp
      have hkc : k ≤ c0 := by omega
      have hsl1 : Sl wT 5 A0' k c0 (rcells (rs.take k)) := by
        have h := q3.sl.cut (by decide) (k := 0) (m := k) (c' := c0) (Nat.zero_le _) hk hkc (Nat.le_refl _)
        have e : ∀ A : Option Addr, (if c0 = 0 then A else A.map (·.add (0 * 5))) = A := by
          intro A
          cases A with
          | none => simp
          | some ad => simp [Addr.add]
        simp only [Nat.sub_zero, Nat.zero_mul, List.drop_zero, ← rcells_take] at h
        simp only [Nat.zero_mul] at e
        rw [e] at h
        exact h
      have hsl00 : Sl wT 5 (if c0 = k then A0' else A0'.map (·.add (k * 5))) (l.length - k) (c0 - k) (rcells (rs.drop k)) := by
        have h := q3.sl.cut (by decide) (k := k) (m := l.length) (c' := c0) hk (Nat.le_refl _) hcap (Nat.le_refl _)
        rw [List.take_of_length_le (by rw [rcells_len, hrl]; exact Nat.le_refl _), ← rcells_drop] at h
        exact h
      rcases q3.plain with ⟨rfl, rfl⟩ | ⟨ab, ao, rfl⟩
      · have hsl0 : Sl wT 5 none (l.length - k) 0 (rcells (rs.drop k)) := by simpa using hsl00
        obtain rfl : k = 0 := by omega
        clear hcap
        have HT := Lib.hid hno
        clear hno
        obtain ⟨cT1, fT1⟩ := HT1.facts
        obtain ⟨cb, fb⟩ := q2.facts
        by_cases hfull : l.length = K
        · have hfb : (K : Int) ≤ (l.length : Int) := by omega
          have HF := Lib.hid hfull
          have HK1 := Lib.hid q1
          have HK4 := Lib.hid q4
          clear hfull q1 q4
          go_wp2_with fail
          refine E.wp_plan E.ext_pre 1000000 [(0, true), (1, true), (2, true), (3, true), (4, true), (5, true), (6, true), (7, true), (8, true), (9, true)] (by kernel_rfl) (by kernel_rfl) ?_
          repeat (first | (refine E.plan_pure (by simp only [List.getElem?_toArray, List.getElem?_cons_succ, List.getElem?_cons_zero]; rfl) (by rfl) (fun K hK => ?_); (go_simp; try go_bits; try go_simp); refine hK _ ?_; clear hK K) | (refine E.plan_load (by simp only [List.getElem?_toArray, List.getElem?_cons_succ, List.getElem?_cons_zero]; rfl) (by rfl) (by rfl) (fun K hK => ?_); (go_simp; try go_bits; try go_simp); refine hK _ ?_; clear hK K) | (refine E.plan_skip (E.Ext.refl _) (by simp only [List.getElem?_toArray, List.getElem?_cons_succ, List.getElem?_cons_zero]; rfl) (by rfl) (fun K hK => ?_); (go_simp; try go_bits; try go_simp); refine hK _ ?_; clear hK K))
          refine E.plan_nil ?_
          go_wp2_with fail
          go_ret3
          have hi : insert_ K l x = (0, 0, 13, l) := by
            unfold insert_
            rw [HP.out]
            rw [HP.out] at HT
            rw [if_neg HT.out, if_pos HF.out]
          have hfin : RefAt F (_ : World).drew rb K l := RefAt.ext ⟨rs, _, _, HK1.out, q2, q3, HK4.out⟩ (E.Ext.drew _)
          exact ⟨by rw [hi]; rfl, by rw [hi]; exact hfin.mono (fun _ _ h => Or.inl h), (hET.trans (E.Ext.drew _)).toS _⟩
        · have hfb : ¬ (K : Int) ≤ (l.length : Int) := by omega
          have hflt : l.length < K := by omega
          have HF := Lib.hid hfull
          have HK1 := Lib.hid q1
          have HK4 := Lib.hid q4
          clear hfull q1 q4
          go_wp2_with fail
          refine E.wp_plan E.ext_pre 1000000 [(0, true), (1, true), (2, true), (3, true), (4, true), (5, true), (6, true), (7, true), (8, true), (9, true)] (by kernel_rfl) (by kernel_rfl) ?_
          repeat (first | (refine E.plan_pure (by simp only [List.getElem?_toArray, List.getElem?_cons_succ, List.getElem?_cons_zero]; rfl) (by rfl) (fun K hK => ?_); (go_simp; try go_bits; try go_simp); refine hK _ ?_; clear hK K) | (refine E.plan_load (by simp only [List.getElem?_toArray, List.getElem?_cons_succ, List.getElem?_cons_zero]; rfl) (by rfl) (by rfl) (fun K hK => ?_); (go_simp; try go_bits; try go_simp); refine hK _ ?_; clear hK K) | (refine E.plan_skip (E.Ext.refl _) (by simp only [List.getElem?_toArray, List.getElem?_cons_succ, List.getElem?_cons_zero]; rfl) (by rfl) (fun K hK => ?_); (go_simp; try go_bits; try go_simp); refine hK _ ?_; clear hK K))
          refine E.plan_nil ?_
          have cb9 := ((q2.drew).alloc (.cells #[] 30)).cell
          have cb9' := ((q2.alloc (.cells #[] 30)).drew).cell
          have hsl9 := fun o => Sl.ext (Sl.ext hsl0 (E.Ext.alloc _ o)) (E.Ext.drew _)
          have hmade := own_ext (own_of_made (W := wT) (e := 30) (size := 5) (cap := 0)) (E.Ext.drew _)
          go_wp2_with (at_builtin; go_must (refine wpList_append_sl st22 rfl _ _ rfl wT.heap.size _ 0 [] rfl hmade _ _ _ _ rfl (hsl9 _) (rcells_one _) (by omega) (by decide) (by simp) ?_; intro v' w7 hown9 hb9 _; obtain ⟨A9, c9, hv9, _⟩ := own_sl hown9; rw [hv9] at hown9 ⊢))
          have hx9 : E.Ext wT w7 := ((E.Ext.alloc _ _).trans (E.Ext.drew _)).then (Below.mono hb9 (Nat.le_refl _))
          have p2 := q2.ext hx9
          have p3 := q3.ext hx9
          have HTB := HT1.ext hx9
          generalize hB : w7.heap.size = B at *
          have hBr : rb < B := by rw [← hB]; exact p2.lt
          have hBb : w.heap.size < B := by rw [← hB]; exact HTB.lt
          refine E.wp_plan (below_pre B) 17 [(0, true), (2, true), (3, true), (4, true), (5, true), (6, true), (7, true), (9, true), (13, true), (1, false), (8, false), (10, false), (11, false), (12, false), (14, false), (15, false), (16, true), (17, false)] (by kernel_rfl) (by kernel_rfl) ?_
          repeat (first | (refine E.plan_pure (by simp only [List.getElem?_toArray, List.getElem?_cons_succ, List.getElem?_cons_zero]; rfl) (by rfl) (fun K hK => ?_); (go_simp; try go_bits; try go_simp); refine hK _ ?_; clear hK K) | (refine E.plan_load (by simp only [List.getElem?_toArray, List.getElem?_cons_succ, List.getElem?_cons_zero]; rfl) (by rfl) (by rfl) (fun K hK => ?_); (go_simp; try go_bits; try go_simp); refine hK _ ?_; clear hK K) | (refine E.plan_skip (E.Ext.refl _) (by simp only [List.getElem?_toArray, List.getElem?_cons_succ, List.getElem?_cons_zero]; rfl) (by rfl) (fun K hK => ?_); (go_simp; try go_bits; try go_simp); refine hK _ ?_; clear hK K))
          refine plan_load_b (by simp only [List.getElem?_toArray, List.getElem?_cons_succ, List.getElem?_cons_zero]; rfl) (by rfl) (by rfl) (_) (fun w' hw' => load_field ((p2.drew).below hw' hBr)) ?_; (try dsimp only [Act.put]); (go_simp; try go_bits; try go_simp)
          repeat (first | (refine E.plan_pure (by simp only [List.getElem?_toArray, List.getElem?_cons_succ, List.getElem?_cons_zero]; rfl) (by rfl) (fun K hK => ?_); (go_simp; try go_bits; try go_simp); refine hK _ ?_; clear hK K) | (refine E.plan_load (by simp only [List.getElem?_toArray, List.getElem?_cons_succ, List.getElem?_cons_zero]; rfl) (by rfl) (by rfl) (fun K hK => ?_); (go_simp; try go_bits; try go_simp); refine hK _ ?_; clear hK K) | (refine E.plan_skip (E.Ext.refl _) (by simp only [List.getElem?_toArray, List.getElem?_cons_succ, List.getElem?_cons_zero]; rfl) (by rfl) (fun K hK => ?_); (go_simp; try go_bits; try go_simp); refine hK _ ?_; clear hK K))
          refine plan_load_b (by simp only [List.getElem?_toArray, List.getElem?_cons_succ, List.getElem?_cons_zero]; rfl) (by rfl) (by rfl) (_) (fun w' hw' => load_box ((HTB.drew).below hw' hBb)) ?_; (try dsimp only [Act.put]); (go_simp; try go_bits; try go_simp)
          repeat (first | (refine E.plan_pure (by simp only [List.getElem?_toArray, List.getElem?_cons_succ, List.getElem?_cons_zero]; rfl) (by rfl) (fun K hK => ?_); (go_simp; try go_bits; try go_simp); refine hK _ ?_; clear hK K) | (refine E.plan_load (by simp only [List.getElem?_toArray, List.getElem?_cons_succ, List.getElem?_cons_zero]; rfl) (by rfl) (by rfl) (fun K hK => ?_); (go_simp; try go_bits; try go_simp); refine hK _ ?_; clear hK K) | (refine E.plan_skip (E.Ext.refl _) (by simp only [List.getElem?_toArray, List.getElem?_cons_succ, List.getElem?_cons_zero]; rfl) (by rfl) (fun K hK => ?_); (go_simp; try go_bits; try go_simp); refine hK _ ?_; clear hK K))
          have hr0 : B ≤ w7.heap.size := by omega
          refine E.plan_eff (by simp only [List.getElem?_toArray, List.getElem?_cons_succ, List.getElem?_cons_zero]; rfl) (by rfl) (fun K hK => ?_); (go_simp; try go_bits)
          refine hK _ _ ((Below.refl _ _).alloc (by simp; omega) _) ?_; clear hK K
          refine E.plan_eff (by simp only [List.getElem?_toArray, List.getElem?_cons_succ, List.getElem?_cons_zero]; rfl) (by rfl) (fun K hK => ?_)
          refine wp_append_sl st22 _ _ rfl B _ 0 [] rfl (by first | exact (hB ▸ own_ext (own_of_made (W := w7) (e := 30) (size := 5) (cap := 0)) (E.Ext.drew _)) | exact (hB ▸ own_of_made (W := w7.drew) (e := 30) (size := 5) (cap := 0))) _ (0 : Nat) _ (rcells (rs.take (0 : Nat))) rfl ((hsl1.ext hx9).ext (by first | exact (E.Ext.alloc _ _).trans (E.Ext.drew _) | exact (E.Ext.drew _).trans (E.Ext.alloc _ _))) (rcells_one _) (by omega) (by decide) (by simp; omega) ?_
          intro v8 w8 ho8 hb8 _
          go_simp
          refine hK _ _ hb8 ?_; clear hK K
          simp only [Nat.zero_add, List.nil_append] at ho8
          have hB78 : Below B w7 w8 := by
            first
              | exact Below.trans (((Below.refl _ _).alloc (by omega) _).drew) hb8
              | exact Below.trans (((Below.refl _ _).drew).alloc (by simp; omega) _) hb8
          have hs8 := hB78.size
          refine E.plan_eff (by simp only [List.getElem?_toArray, List.getElem?_cons_succ, List.getElem?_cons_zero]; rfl) (by rfl) (fun K hK => ?_); (go_simp; try go_bits)
          refine (own_any x A c _ ((hx.ext (hET.trans hx9)).below (B := B) (by omega) hB78) hl).mono ?_
          rintro e w10 ⟨A10, c10, rfl, hx10, ho10⟩
          dsimp only [Entry.val]
          refine hK _ _ (Below.mono hx10 (by omega)) ?_; clear hK K
          have hB710 : Below B w7 w10 := Below.trans hB78 (Below.mono hx10 (by omega))
          refine E.plan_eff (by simp only [List.getElem?_toArray, List.getElem?_cons_succ, List.getElem?_cons_zero]; rfl) (by rfl) (fun K hK => ?_); (go_simp; try go_bits)
          refine hK _ _ ((Below.refl _ _).alloc (by have := hx10.size; omega) _) ?_; clear hK K
          refine E.plan_eff (by simp only [List.getElem?_toArray, List.getElem?_cons_succ, List.getElem?_cons_zero]; rfl) (by rfl) (fun K hK => ?_)
          refine wp_append_sl st22 _ _ rfl B v8 (0 : Nat) _ rfl (own_ext (own_ext ho8 hx10) (E.Ext.alloc _ _)) _ 1 1 (rcells [⟨x, A10, c10⟩]) rfl (Sl.blk (size := 5) (n := 1) (c := 1) (E.Blk.new w10 30 #[.int .i64 x.stamp, .int .i64 x.sensor, .int .i64 x.seq, .bool x.input, .slice A10 x.data.length c10]) rfl (by omega) (by omega)) (rcells_one _) (by omega) (by decide) (by have := hx10.size; simp; omega) ?_
          intro v12 w12 ho12 hb12 hg12
          go_simp
          refine hK _ _ hb12 ?_; clear hK K
          have hB712 : Below B w7 w12 := Below.trans (Below.trans hB710 ((Below.refl _ _).alloc (by have := hx10.size; omega) _)) hb12
          have hs12 := hB712.size
          have hsl9' := (own_sl' hown9).below (B := B) (by omega) hB712
          refine E.plan_eff (by simp only [List.getElem?_toArray, List.getElem?_cons_succ, List.getElem?_cons_zero]; rfl) (by rfl) (fun K hK => ?_)
          refine wp_append_sl st22 _ _ rfl B v12 ((0 : Nat) + 1) _ rfl ho12 _ (l.length - (0 : Nat)) c9 _ rfl (by simpa using hsl9') (rcells_one _) (by omega) (by decide) (by omega) ?_
          intro v14 w14 ho14 hb14 hg14
          obtain ⟨A14, c14, rfl, hsl14⟩ := own_sl ho14
          go_simp
          refine hK _ _ hb14 ?_; clear hK K
          have hB714 : Below B w7 w14 := Below.trans hB712 hb14
          obtain ⟨cb14, fb14⟩ := (p2.below hB714 hBr).facts
          refine E.plan_eff (by simp only [List.getElem?_toArray, List.getElem?_cons_succ, List.getElem?_cons_zero]; rfl) (by rfl) (fun K hK => ?_); (go_simp; try go_bits)
          refine hK _ _ (Below.refl _ _) ?_; clear hK K
          repeat (first | (refine E.plan_pure (by simp only [List.getElem?_toArray, List.getElem?_cons_succ, List.getElem?_cons_zero]; rfl) (by rfl) (fun K hK => ?_); (go_simp; try go_bits; try go_simp); refine hK _ ?_; clear hK K) | (refine E.plan_load (by simp only [List.getElem?_toArray, List.getElem?_cons_succ, List.getElem?_cons_zero]; rfl) (by rfl) (by rfl) (fun K hK => ?_); (go_simp; try go_bits; try go_simp); refine hK _ ?_; clear hK K) | (refine E.plan_skip (E.Ext.refl _) (by simp only [List.getElem?_toArray, List.getElem?_cons_succ, List.getElem?_cons_zero]; rfl) (by rfl) (fun K hK => ?_); (go_simp; try go_bits; try go_simp); refine hK _ ?_; clear hK K))
          refine E.plan_last (by simp only [List.getElem?_toArray, List.getElem?_cons_succ, List.getElem?_cons_zero]; rfl) (by rfl) (fun K hK => ?_); (go_simp; try go_bits); refine hK _ _ ?_; clear hK K
          refine E.plan_nil ?_
          go_wp2_with fail
          go_ret3
          have hi : insert_ K l x = (((0 : Nat) : Int), (l.length : Int) - (0 : Nat), 0, l.take (0 : Nat) ++ x :: l.drop (0 : Nat)) := by
            unfold insert_
            rw [HP.out]
            rw [HP.out] at HT
            rw [if_neg HT.out, if_neg HF.out]
          have hcast : (((l.length - (0 : Nat) : Nat) : Int)) = (l.length : Int) - (0 : Nat) := by omega
          obtain ⟨g1, g2⟩ := ref_inserted (F := F) HK1.out HK4.out hk hET hx9 p2 hB hB78 hx10 ho10 (own_ext (own_ext ho8 hx10) (E.Ext.alloc _ _)) hg12 ho12 hg14 hB714 ho14
          exact ⟨by rw [hi]; show Ending.returned (.tuple #[.int .i64 ((0 : Nat) : Int), .int .i64 ((l.length - (0 : Nat) : Nat) : Int), .int .i64 0]) = _; rw [hcast], by rw [hi]; exact g1, g2⟩
      · by_cases hck : c0 = k
        · obtain rfl : k = c0 := hck.symm
          have hsl0 : Sl wT 5 (some ⟨ab, ao, none⟩) (l.length - k) 0 (rcells (rs.drop k)) := by simpa using hsl00
          clear hcap
          have HT := Lib.hid hno
          clear hno
          obtain ⟨cT1, fT1⟩ := HT1.facts
          obtain ⟨cb, fb⟩ := q2.facts
          by_cases hfull : l.length = K
          · have hfb : (K : Int) ≤ (l.length : Int) := by omega
            have HF := Lib.hid hfull
            have HK1 := Lib.hid q1
            have HK4 := Lib.hid q4
            clear hfull q1 q4
            go_wp2_with fail
            refine E.wp_plan E.ext_pre 1000000 [(0, true), (1, true), (2, true), (3, true), (4, true), (5, true), (6, true), (7, true), (8, true), (9, true)] (by kernel_rfl) (by kernel_rfl) ?_
            repeat (first | (refine E.plan_pure (by simp only [List.getElem?_toArray, List.getElem?_cons_succ, List.getElem?_cons_zero]; rfl) (by rfl) (fun K hK => ?_); (go_simp; try go_bits; try go_simp); refine hK _ ?_; clear hK K) | (refine E.plan_load (by simp only [List.getElem?_toArray, List.getElem?_cons_succ, List.getElem?_cons_zero]; rfl) (by rfl) (by rfl) (fun K hK => ?_); (go_simp; try go_bits; try go_simp); refine hK _ ?_; clear hK K) | (refine E.plan_skip (E.Ext.refl _) (by simp only [List.getElem?_toArray, List.getElem?_cons_succ, List.getElem?_cons_zero]; rfl) (by rfl) (fun K hK => ?_); (go_simp; try go_bits; try go_simp); refine hK _ ?_; clear hK K))
            refine E.plan_nil ?_
            go_wp2_with fail
            go_ret3
            have hi : insert_ K l x = (0, 0, 13, l) := by
              unfold insert_
              rw [HP.out]
              rw [HP.out] at HT
              rw [if_neg HT.out, if_pos HF.out]
            have hfin : RefAt F (_ : World).drew rb K l := RefAt.ext ⟨rs, _, _, HK1.out, q2, q3, HK4.out⟩ (E.Ext.drew _)
            exact ⟨by rw [hi]; rfl, by rw [hi]; exact hfin.mono (fun _ _ h => Or.inl h), (hET.trans (E.Ext.drew _)).toS _⟩
          · have hfb : ¬ (K : Int) ≤ (l.length : Int) := by omega
            have hflt : l.length < K := by omega
            have HF := Lib.hid hfull
            have HK1 := Lib.hid q1
            have HK4 := Lib.hid q4
            clear hfull q1 q4
            go_wp2_with fail
            refine E.wp_plan E.ext_pre 1000000 [(0, true), (1, true), (2, true), (3, true), (4, true), (5, true), (6, true), (7, true), (8, true), (9, true)] (by kernel_rfl) (by kernel_rfl) ?_
            repeat (first | (refine E.plan_pure (by simp only [List.getElem?_toArray, List.getElem?_cons_succ, List.getElem?_cons_zero]; rfl) (by rfl) (fun K hK => ?_); (go_simp; try go_bits; try go_simp); refine hK _ ?_; clear hK K) | (refine E.plan_load (by simp only [List.getElem?_toArray, List.getElem?_cons_succ, List.getElem?_cons_zero]; rfl) (by rfl) (by rfl) (fun K hK => ?_); (go_simp; try go_bits; try go_simp); refine hK _ ?_; clear hK K) | (refine E.plan_skip (E.Ext.refl _) (by simp only [List.getElem?_toArray, List.getElem?_cons_succ, List.getElem?_cons_zero]; rfl) (by rfl) (fun K hK => ?_); (go_simp; try go_bits; try go_simp); refine hK _ ?_; clear hK K))
            refine E.plan_nil ?_
            have cb9 := ((q2.drew).alloc (.cells #[] 30)).cell
            have cb9' := ((q2.alloc (.cells #[] 30)).drew).cell
            have hsl9 := fun o => Sl.ext (Sl.ext hsl0 (E.Ext.alloc _ o)) (E.Ext.drew _)
            have hmade := own_ext (own_of_made (W := wT) (e := 30) (size := 5) (cap := 0)) (E.Ext.drew _)
            go_wp2_with (at_builtin; go_must (refine wpList_append_sl st22 rfl _ _ rfl wT.heap.size _ 0 [] rfl hmade _ _ _ _ rfl (hsl9 _) (rcells_one _) (by omega) (by decide) (by simp) ?_; intro v' w7 hown9 hb9 _; obtain ⟨A9, c9, hv9, _⟩ := own_sl hown9; rw [hv9] at hown9 ⊢))
            have hx9 : E.Ext wT w7 := ((E.Ext.alloc _ _).trans (E.Ext.drew _)).then (Below.mono hb9 (Nat.le_refl _))
            have p2 := q2.ext hx9
            have p3 := q3.ext hx9
            have HTB := HT1.ext hx9
            generalize hB : w7.heap.size = B at *
            have hBr : rb < B := by rw [← hB]; exact p2.lt
            have hBb : w.heap.size < B := by rw [← hB]; exact HTB.lt
            refine E.wp_plan (below_pre B) 17 [(0, true), (2, true), (3, true), (4, true), (5, true), (6, true), (7, true), (9, true), (13, true), (1, false), (8, false), (10, false), (11, false), (12, false), (14, false), (15, false), (16, true), (17, false)] (by kernel_rfl) (by kernel_rfl) ?_
            repeat (first | (refine E.plan_pure (by simp only [List.getElem?_toArray, List.getElem?_cons_succ, List.getElem?_cons_zero]; rfl) (by rfl) (fun K hK => ?_); (go_simp; try go_bits; try go_simp); refine hK _ ?_; clear hK K) | (refine E.plan_load (by simp only [List.getElem?_toArray, List.getElem?_cons_succ, List.getElem?_cons_zero]; rfl) (by rfl) (by rfl) (fun K hK => ?_); (go_simp; try go_bits; try go_simp); refine hK _ ?_; clear hK K) | (refine E.plan_skip (E.Ext.refl _) (by simp only [List.getElem?_toArray, List.getElem?_cons_succ, List.getElem?_cons_zero]; rfl) (by rfl) (fun K hK => ?_); (go_simp; try go_bits; try go_simp); refine hK _ ?_; clear hK K))
            refine plan_load_b (by simp only [List.getElem?_toArray, List.getElem?_cons_succ, List.getElem?_cons_zero]; rfl) (by rfl) (by rfl) (_) (fun w' hw' => load_field ((p2.drew).below hw' hBr)) ?_; (try dsimp only [Act.put]); (go_simp; try go_bits; try go_simp)
            repeat (first | (refine E.plan_pure (by simp only [List.getElem?_toArray, List.getElem?_cons_succ, List.getElem?_cons_zero]; rfl) (by rfl) (fun K hK => ?_); (go_simp; try go_bits; try go_simp); refine hK _ ?_; clear hK K) | (refine E.plan_load (by simp only [List.getElem?_toArray, List.getElem?_cons_succ, List.getElem?_cons_zero]; rfl) (by rfl) (by rfl) (fun K hK => ?_); (go_simp; try go_bits; try go_simp); refine hK _ ?_; clear hK K) | (refine E.plan_skip (E.Ext.refl _) (by simp only [List.getElem?_toArray, List.getElem?_cons_succ, List.getElem?_cons_zero]; rfl) (by rfl) (fun K hK => ?_); (go_simp; try go_bits; try go_simp); refine hK _ ?_; clear hK K))
            refine plan_load_b (by simp only [List.getElem?_toArray, List.getElem?_cons_succ, List.getElem?_cons_zero]; rfl) (by rfl) (by rfl) (_) (fun w' hw' => load_box ((HTB.drew).below hw' hBb)) ?_; (try dsimp only [Act.put]); (go_simp; try go_bits; try go_simp)
            repeat (first | (refine E.plan_pure (by simp only [List.getElem?_toArray, List.getElem?_cons_succ, List.getElem?_cons_zero]; rfl) (by rfl) (fun K hK => ?_); (go_simp; try go_bits; try go_simp); refine hK _ ?_; clear hK K) | (refine E.plan_load (by simp only [List.getElem?_toArray, List.getElem?_cons_succ, List.getElem?_cons_zero]; rfl) (by rfl) (by rfl) (fun K hK => ?_); (go_simp; try go_bits; try go_simp); refine hK _ ?_; clear hK K) | (refine E.plan_skip (E.Ext.refl _) (by simp only [List.getElem?_toArray, List.getElem?_cons_succ, List.getElem?_cons_zero]; rfl) (by rfl) (fun K hK => ?_); (go_simp; try go_bits; try go_simp); refine hK _ ?_; clear hK K))
            have hr0 : B ≤ w7.heap.size := by omega
            refine E.plan_eff (by simp only [List.getElem?_toArray, List.getElem?_cons_succ, List.getElem?_cons_zero]; rfl) (by rfl) (fun K hK => ?_); (go_simp; try go_bits)
            refine hK _ _ ((Below.refl _ _).alloc (by simp; omega) _) ?_; clear hK K
            refine E.plan_eff (by simp only [List.getElem?_toArray, List.getElem?_cons_succ, List.getElem?_cons_zero]; rfl) (by rfl) (fun K hK => ?_)
            refine wp_append_sl st22 _ _ rfl B _ 0 [] rfl (by first | exact (hB ▸ own_ext (own_of_made (W := w7) (e := 30) (size := 5) (cap := 0)) (E.Ext.drew _)) | exact (hB ▸ own_of_made (W := w7.drew) (e := 30) (size := 5) (cap := 0))) _ k _ (rcells (rs.take k)) rfl ((hsl1.ext hx9).ext (by first | exact (E.Ext.alloc _ _).trans (E.Ext.drew _) | exact (E.Ext.drew _).trans (E.Ext.alloc _ _))) (rcells_one _) (by omega) (by decide) (by simp; omega) ?_
            intro v8 w8 ho8 hb8 _
            go_simp
            refine hK _ _ hb8 ?_; clear hK K
            simp only [Nat.zero_add, List.nil_append] at ho8
            have hB78 : Below B w7 w8 := by
              first
                | exact Below.trans (((Below.refl _ _).alloc (by omega) _).drew) hb8
                | exact Below.trans (((Below.refl _ _).drew).alloc (by simp; omega) _) hb8
            have hs8 := hB78.size
            refine E.plan_eff (by simp only [List.getElem?_toArray, List.getElem?_cons_succ, List.getElem?_cons_zero]; rfl) (by rfl) (fun K hK => ?_); (go_simp; try go_bits)
            refine (own_any x A c _ ((hx.ext (hET.trans hx9)).below (B := B) (by omega) hB78) hl).mono ?_
            rintro e w10 ⟨A10, c10, rfl, hx10, ho10⟩
            dsimp only [Entry.val]
            refine hK _ _ (Below.mono hx10 (by omega)) ?_; clear hK K
            have hB710 : Below B w7 w10 := Below.trans hB78 (Below.mono hx10 (by omega))
            refine E.plan_eff (by simp only [List.getElem?_toArray, List.getElem?_cons_succ, List.getElem?_cons_zero]; rfl) (by rfl) (fun K hK => ?_); (go_simp; try go_bits)
            refine hK _ _ ((Below.refl _ _).alloc (by have := hx10.size; omega) _) ?_; clear hK K
            refine E.plan_eff (by simp only [List.getElem?_toArray, List.getElem?_cons_succ, List.getElem?_cons_zero]; rfl) (by rfl) (fun K hK => ?_)
            refine wp_append_sl st22 _ _ rfl B v8 k _ rfl (own_ext (own_ext ho8 hx10) (E.Ext.alloc _ _)) _ 1 1 (rcells [⟨x, A10, c10⟩]) rfl (Sl.blk (size := 5) (n := 1) (c := 1) (E.Blk.new w10 30 #[.int .i64 x.stamp, .int .i64 x.sensor, .int .i64 x.seq, .bool x.input, .slice A10 x.data.length c10]) rfl (by omega) (by omega)) (rcells_one _) (by omega) (by decide) (by have := hx10.size; simp; omega) ?_
            intro v12 w12 ho12 hb12 hg12
            go_simp
            refine hK _ _ hb12 ?_; clear hK K
            have hB712 : Below B w7 w12 := Below.trans (Below.trans hB710 ((Below.refl _ _).alloc (by have := hx10.size; omega) _)) hb12
            have hs12 := hB712.size
            have hsl9' := (own_sl' hown9).below (B := B) (by omega) hB712
            refine E.plan_eff (by simp only [List.getElem?_toArray, List.getElem?_cons_succ, List.getElem?_cons_zero]; rfl) (by rfl) (fun K hK => ?_)
            refine wp_append_sl st22 _ _ rfl B v12 (k + 1) _ rfl ho12 _ (l.length - k) c9 _ rfl (by simpa using hsl9') (rcells_one _) (by omega) (by decide) (by omega) ?_
            intro v14 w14 ho14 hb14 hg14
            obtain ⟨A14, c14, rfl, hsl14⟩ := own_sl ho14
            go_simp
            refine hK _ _ hb14 ?_; clear hK K
            have hB714 : Below B w7 w14 := Below.trans hB712 hb14
            obtain ⟨cb14, fb14⟩ := (p2.below hB714 hBr).facts
            refine E.plan_eff (by simp only [List.getElem?_toArray, List.getElem?_cons_succ, List.getElem?_cons_zero]; rfl) (by rfl) (fun K hK => ?_); (go_simp; try go_bits)
            refine hK _ _ (Below.refl _ _) ?_; clear hK K
            repeat (first | (refine E.plan_pure (by simp only [List.getElem?_toArray, List.getElem?_cons_succ, List.getElem?_cons_zero]; rfl) (by rfl) (fun K hK => ?_); (go_simp; try go_bits; try go_simp); refine hK _ ?_; clear hK K) | (refine E.plan_load (by simp only [List.getElem?_toArray, List.getElem?_cons_succ, List.getElem?_cons_zero]; rfl) (by rfl) (by rfl) (fun K hK => ?_); (go_simp; try go_bits; try go_simp); refine hK _ ?_; clear hK K) | (refine E.plan_skip (E.Ext.refl _) (by simp only [List.getElem?_toArray, List.getElem?_cons_succ, List.getElem?_cons_zero]; rfl) (by rfl) (fun K hK => ?_); (go_simp; try go_bits; try go_simp); refine hK _ ?_; clear hK K))
            refine E.plan_last (by simp only [List.getElem?_toArray, List.getElem?_cons_succ, List.getElem?_cons_zero]; rfl) (by rfl) (fun K hK => ?_); (go_simp; try go_bits); refine hK _ _ ?_; clear hK K
            refine E.plan_nil ?_
            go_wp2_with fail
            go_ret3
            have hi : insert_ K l x = ((k : Int), (l.length : Int) - k, 0, l.take k ++ x :: l.drop k) := by
              unfold insert_
              rw [HP.out]
              rw [HP.out] at HT
              rw [if_neg HT.out, if_neg HF.out]
            have hcast : (((l.length - k : Nat) : Int)) = (l.length : Int) - k := by omega
            obtain ⟨g1, g2⟩ := ref_inserted (F := F) HK1.out HK4.out hk hET hx9 p2 hB hB78 hx10 ho10 (own_ext (own_ext ho8 hx10) (E.Ext.alloc _ _)) hg12 ho12 hg14 hB714 ho14
            exact ⟨by rw [hi]; show Ending.returned (.tuple #[.int .i64 (k : Int), .int .i64 ((l.length - k : Nat) : Int), .int .i64 0]) = _; rw [hcast], by rw [hi]; exact g1, g2⟩
        · have hck2 : ¬ c0 - k = 0 := by omega
          have hsl0 : Sl wT 5 (some ⟨ab, ao + k * 5, none⟩) (l.length - k) (c0 - k) (rcells (rs.drop k)) := by
            rw [if_neg hck, Option.map_some, addr_add] at hsl00
            exact hsl00
          have HT := Lib.hid hno
          clear hno
          obtain ⟨cT1, fT1⟩ := HT1.facts
          obtain ⟨cb, fb⟩ := q2.facts
          by_cases hfull : l.length = K
          · have hfb : (K : Int) ≤ (l.length : Int) := by omega
            have HF := Lib.hid hfull
            have HK1 := Lib.hid q1
            have HK4 := Lib.hid q4
            clear hfull q1 q4
            go_wp2_with fail
            refine E.wp_plan E.ext_pre 1000000 [(0, true), (1, true), (2, true), (3, true), (4, true), (5, true), (6, true), (7, true), (8, true), (9, true)] (by kernel_rfl) (by kernel_rfl) ?_
            repeat (first | (refine E.plan_pure (by simp only [List.getElem?_toArray, List.getElem?_cons_succ, List.getElem?_cons_zero]; rfl) (by rfl) (fun K hK => ?_); (go_simp; try go_bits; try go_simp); refine hK _ ?_; clear hK K) | (refine E.plan_load (by simp only [List.getElem?_toArray, List.getElem?_cons_succ, List.getElem?_cons_zero]; rfl) (by rfl) (by rfl) (fun K hK => ?_); (go_simp; try go_bits; try go_simp); refine hK _ ?_; clear hK K) | (refine E.plan_skip (E.Ext.refl _) (by simp only [List.getElem?_toArray, List.getElem?_cons_succ, List.getElem?_cons_zero]; rfl) (by rfl) (fun K hK => ?_); (go_simp; try go_bits; try go_simp); refine hK _ ?_; clear hK K))
            refine E.plan_nil ?_
            go_wp2_with fail
            go_ret3
            have hi : insert_ K l x = (0, 0, 13, l) := by
              unfold insert_
              rw [HP.out]
              rw [HP.out] at HT
              rw [if_neg HT.out, if_pos HF.out]
            have hfin : RefAt F (_ : World).drew rb K l := RefAt.ext ⟨rs, _, _, HK1.out, q2, q3, HK4.out⟩ (E.Ext.drew _)
            exact ⟨by rw [hi]; rfl, by rw [hi]; exact hfin.mono (fun _ _ h => Or.inl h), (hET.trans (E.Ext.drew _)).toS _⟩
          · have hfb : ¬ (K : Int) ≤ (l.length : Int) := by omega
            have hflt : l.length < K := by omega
            have HF := Lib.hid hfull
            have HK1 := Lib.hid q1
            have HK4 := Lib.hid q4
            clear hfull q1 q4
            go_wp2_with fail
            refine E.wp_plan E.ext_pre 1000000 [(0, true), (1, true), (2, true), (3, true), (4, true), (5, true), (6, true), (7, true), (8, true), (9, true)] (by kernel_rfl) (by kernel_rfl) ?_
            repeat (first | (refine E.plan_pure (by simp only [List.getElem?_toArray, List.getElem?_cons_succ, List.getElem?_cons_zero]; rfl) (by rfl) (fun K hK => ?_); (go_simp; try go_bits; try go_simp); refine hK _ ?_; clear hK K) | (refine E.plan_load (by simp only [List.getElem?_toArray, List.getElem?_cons_succ, List.getElem?_cons_zero]; rfl) (by rfl) (by rfl) (fun K hK => ?_); (go_simp; try go_bits; try go_simp); refine hK _ ?_; clear hK K) | (refine E.plan_skip (E.Ext.refl _) (by simp only [List.getElem?_toArray, List.getElem?_cons_succ, List.getElem?_cons_zero]; rfl) (by rfl) (fun K hK => ?_); (go_simp; try go_bits; try go_simp); refine hK _ ?_; clear hK K))
            refine E.plan_nil ?_
            have cb9 := ((q2.drew).alloc (.cells #[] 30)).cell
            have cb9' := ((q2.alloc (.cells #[] 30)).drew).cell
            have hsl9 := fun o => Sl.ext (Sl.ext hsl0 (E.Ext.alloc _ o)) (E.Ext.drew _)
            have hmade := own_ext (own_of_made (W := wT) (e := 30) (size := 5) (cap := 0)) (E.Ext.drew _)
            go_wp2_with (at_builtin; go_must (refine wpList_append_sl st22 rfl _ _ rfl wT.heap.size _ 0 [] rfl hmade _ _ _ _ rfl (hsl9 _) (rcells_one _) (by omega) (by decide) (by simp) ?_; intro v' w7 hown9 hb9 _; obtain ⟨A9, c9, hv9, _⟩ := own_sl hown9; rw [hv9] at hown9 ⊢))
            have hx9 : E.Ext wT w7 := ((E.Ext.alloc _ _).trans (E.Ext.drew _)).then (Below.mono hb9 (Nat.le_refl _))
            have p2 := q2.ext hx9
            have p3 := q3.ext hx9
            have HTB := HT1.ext hx9
            generalize hB : w7.heap.size = B at *
            have hBr : rb < B := by rw [← hB]; exact p2.lt
            have hBb : w.heap.size < B := by rw [← hB]; exact HTB.lt
            refine E.wp_plan (below_pre B) 17 [(0, true), (2, true), (3, true), (4, true), (5, true), (6, true), (7, true), (9, true), (13, true), (1, false), (8, false), (10, false), (11, false), (12, false), (14, false), (15, false), (16, true), (17, false)] (by kernel_rfl) (by kernel_rfl) ?_
            repeat (first | (refine E.plan_pure (by simp only [List.getElem?_toArray, List.getElem?_cons_succ, List.getElem?_cons_zero]; rfl) (by rfl) (fun K hK => ?_); (go_simp; try go_bits; try go_simp); refine hK _ ?_; clear hK K) | (refine E.plan_load (by simp only [List.getElem?_toArray, List.getElem?_cons_succ, List.getElem?_cons_zero]; rfl) (by rfl) (by rfl) (fun K hK => ?_); (go_simp; try go_bits; try go_simp); refine hK _ ?_; clear hK K) | (refine E.plan_skip (E.Ext.refl _) (by simp only [List.getElem?_toArray, List.getElem?_cons_succ, List.getElem?_cons_zero]; rfl) (by rfl) (fun K hK => ?_); (go_simp; try go_bits; try go_simp); refine hK _ ?_; clear hK K))
            refine plan_load_b (by simp only [List.getElem?_toArray, List.getElem?_cons_succ, List.getElem?_cons_zero]; rfl) (by rfl) (by rfl) (_) (fun w' hw' => load_field ((p2.drew).below hw' hBr)) ?_; (try dsimp only [Act.put]); (go_simp; try go_bits; try go_simp)
            repeat (first | (refine E.plan_pure (by simp only [List.getElem?_toArray, List.getElem?_cons_succ, List.getElem?_cons_zero]; rfl) (by rfl) (fun K hK => ?_); (go_simp; try go_bits; try go_simp); refine hK _ ?_; clear hK K) | (refine E.plan_load (by simp only [List.getElem?_toArray, List.getElem?_cons_succ, List.getElem?_cons_zero]; rfl) (by rfl) (by rfl) (fun K hK => ?_); (go_simp; try go_bits; try go_simp); refine hK _ ?_; clear hK K) | (refine E.plan_skip (E.Ext.refl _) (by simp only [List.getElem?_toArray, List.getElem?_cons_succ, List.getElem?_cons_zero]; rfl) (by rfl) (fun K hK => ?_); (go_simp; try go_bits; try go_simp); refine hK _ ?_; clear hK K))
            refine plan_load_b (by simp only [List.getElem?_toArray, List.getElem?_cons_succ, List.getElem?_cons_zero]; rfl) (by rfl) (by rfl) (_) (fun w' hw' => load_box ((HTB.drew).below hw' hBb)) ?_; (try dsimp only [Act.put]); (go_simp; try go_bits; try go_simp)
            repeat (first | (refine E.plan_pure (by simp only [List.getElem?_toArray, List.getElem?_cons_succ, List.getElem?_cons_zero]; rfl) (by rfl) (fun K hK => ?_); (go_simp; try go_bits; try go_simp); refine hK _ ?_; clear hK K) | (refine E.plan_load (by simp only [List.getElem?_toArray, List.getElem?_cons_succ, List.getElem?_cons_zero]; rfl) (by rfl) (by rfl) (fun K hK => ?_); (go_simp; try go_bits; try go_simp); refine hK _ ?_; clear hK K) | (refine E.plan_skip (E.Ext.refl _) (by simp only [List.getElem?_toArray, List.getElem?_cons_succ, List.getElem?_cons_zero]; rfl) (by rfl) (fun K hK => ?_); (go_simp; try go_bits; try go_simp); refine hK _ ?_; clear hK K))
            have hr0 : B ≤ w7.heap.size := by omega
            refine E.plan_eff (by simp only [List.getElem?_toArray, List.getElem?_cons_succ, List.getElem?_cons_zero]; rfl) (by rfl) (fun K hK => ?_); (go_simp; try go_bits)
            refine hK _ _ ((Below.refl _ _).alloc (by simp; omega) _) ?_; clear hK K
            refine E.plan_eff (by simp only [List.getElem?_toArray, List.getElem?_cons_succ, List.getElem?_cons_zero]; rfl) (by rfl) (fun K hK => ?_)
            refine wp_append_sl st22 _ _ rfl B _ 0 [] rfl (by first | exact (hB ▸ own_ext (own_of_made (W := w7) (e := 30) (size := 5) (cap := 0)) (E.Ext.drew _)) | exact (hB ▸ own_of_made (W := w7.drew) (e := 30) (size := 5) (cap := 0))) _ k _ (rcells (rs.take k)) rfl ((hsl1.ext hx9).ext (by first | exact (E.Ext.alloc _ _).trans (E.Ext.drew _) | exact (E.Ext.drew _).trans (E.Ext.alloc _ _))) (rcells_one _) (by omega) (by decide) (by simp; omega) ?_
            intro v8 w8 ho8 hb8 _
            go_simp
            refine hK _ _ hb8 ?_; clear hK K
            simp only [Nat.zero_add, List.nil_append] at ho8
            have hB78 : Below B w7 w8 := by
              first
                | exact Below.trans (((Below.refl _ _).alloc (by omega) _).drew) hb8
                | exact Below.trans (((Below.refl _ _).drew).alloc (by simp; omega) _) hb8
            have hs8 := hB78.size
            refine E.plan_eff (by simp only [List.getElem?_toArray, List.getElem?_cons_succ, List.getElem?_cons_zero]; rfl) (by rfl) (fun K hK => ?_); (go_simp; try go_bits)
            refine (own_any x A c _ ((hx.ext (hET.trans hx9)).below (B := B) (by omega) hB78) hl).mono ?_
            rintro e w10 ⟨A10, c10, rfl, hx10, ho10⟩
            dsimp only [Entry.val]
            refine hK _ _ (Below.mono hx10 (by omega)) ?_; clear hK K
            have hB710 : Below B w7 w10 := Below.trans hB78 (Below.mono hx10 (by omega))
            refine E.plan_eff (by simp only [List.getElem?_toArray, List.getElem?_cons_succ, List.getElem?_cons_zero]; rfl) (by rfl) (fun K hK => ?_); (go_simp; try go_bits)
            refine hK _ _ ((Below.refl _ _).alloc (by have := hx10.size; omega) _) ?_; clear hK K
            refine E.plan_eff (by simp only [List.getElem?_toArray, List.getElem?_cons_succ, List.getElem?_cons_zero]; rfl) (by rfl) (fun K hK => ?_)
            refine wp_append_sl st22 _ _ rfl B v8 k _ rfl (own_ext (own_ext ho8 hx10) (E.Ext.alloc _ _)) _ 1 1 (rcells [⟨x, A10, c10⟩]) rfl (Sl.blk (size := 5) (n := 1) (c := 1) (E.Blk.new w10 30 #[.int .i64 x.stamp, .int .i64 x.sensor, .int .i64 x.seq, .bool x.input, .slice A10 x.data.length c10]) rfl (by omega) (by omega)) (rcells_one _) (by omega) (by decide) (by have := hx10.size; simp; omega) ?_
            intro v12 w12 ho12 hb12 hg12
            go_simp
            refine hK _ _ hb12 ?_; clear hK K
            have hB712 : Below B w7 w12 := Below.trans (Below.trans hB710 ((Below.refl _ _).alloc (by have := hx10.size; omega) _)) hb12
            have hs12 := hB712.size
            have hsl9' := (own_sl' hown9).below (B := B) (by omega) hB712
            refine E.plan_eff (by simp only [List.getElem?_toArray, List.getElem?_cons_succ, List.getElem?_cons_zero]; rfl) (by rfl) (fun K hK => ?_)
            refine wp_append_sl st22 _ _ rfl B v12 (k + 1) _ rfl ho12 _ (l.length - k) c9 _ rfl (by simpa using hsl9') (rcells_one _) (by omega) (by decide) (by omega) ?_
            intro v14 w14 ho14 hb14 hg14
            obtain ⟨A14, c14, rfl, hsl14⟩ := own_sl ho14
            go_simp
            refine hK _ _ hb14 ?_; clear hK K
            have hB714 : Below B w7 w14 := Below.trans hB712 hb14
            obtain ⟨cb14, fb14⟩ := (p2.below hB714 hBr).facts
            refine E.plan_eff (by simp only [List.getElem?_toArray, List.getElem?_cons_succ, List.getElem?_cons_zero]; rfl) (by rfl) (fun K hK => ?_); (go_simp; try go_bits)
            refine hK _ _ (Below.refl _ _) ?_; clear hK K
            repeat (first | (refine E.plan_pure (by simp only [List.getElem?_toArray, List.getElem?_cons_succ, List.getElem?_cons_zero]; rfl) (by rfl) (fun K hK => ?_); (go_simp; try go_bits; try go_simp); refine hK _ ?_; clear hK K) | (refine E.plan_load (by simp only [List.getElem?_toArray, List.getElem?_cons_succ, List.getElem?_cons_zero]; rfl) (by rfl) (by rfl) (fun K hK => ?_); (go_simp; try go_bits; try go_simp); refine hK _ ?_; clear hK K) | (refine E.plan_skip (E.Ext.refl _) (by simp only [List.getElem?_toArray, List.getElem?_cons_succ, List.getElem?_cons_zero]; rfl) (by rfl) (fun K hK => ?_); (go_simp; try go_bits; try go_simp); refine hK _ ?_; clear hK K))
            refine E.plan_last (by simp only [List.getElem?_toArray, List.getElem?_cons_succ, List.getElem?_cons_zero]; rfl) (by rfl) (fun K hK => ?_); (go_simp; try go_bits); refine hK _ _ ?_; clear hK K
            refine E.plan_nil ?_
            go_wp2_with fail
            go_ret3
            have hi : insert_ K l x = ((k : Int), (l.length : Int) - k, 0, l.take k ++ x :: l.drop k) := by
              unfold insert_
              rw [HP.out]
              rw [HP.out] at HT
              rw [if_neg HT.out, if_neg HF.out]
            have hcast : (((l.length - k : Nat) : Int)) = (l.length : Int) - k := by omega
            obtain ⟨g1, g2⟩ := ref_inserted (F := F) HK1.out HK4.out hk hET hx9 p2 hB hB78 hx10 ho10 (own_ext (own_ext ho8 hx10) (E.Ext.alloc _ _)) hg12 ho12 hg14 hB714 ho14
            exact ⟨by rw [hi]; show Ending.returned (.tuple #[.int .i64 (k : Int), .int .i64 ((l.length - k : Nat) : Int), .int .i64 0]) = _; rw [hcast], by rw [hi]; exact g1, g2⟩
end Go.Proofs.Ytjomgaafnpbmhaa.Y
