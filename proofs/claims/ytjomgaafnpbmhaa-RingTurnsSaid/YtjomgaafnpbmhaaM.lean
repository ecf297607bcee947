/- Entries that come in; the law RingUntil, walked. -/
import Derived.Test.YtjomgaafnpbmhaaJ
import Derived.Test.YtjomgaafnpbmhaaL
namespace Go.Proofs.Ytjomgaafnpbmhaa.M
open Go.RowKit
open Go.Proofs.Ytjomgaafnpbmhaa
open Go.Proofs.Ytjomgaafnpbmhaa.A Go.Proofs.Ytjomgaafnpbmhaa.K Go.Proofs.Ytjomgaafnpbmhaa.B Go.Proofs.Ytjomgaafnpbmhaa.C Go.Proofs.Ytjomgaafnpbmhaa.D Go.Proofs.Ytjomgaafnpbmhaa.F Go.Proofs.Ytjomgaafnpbmhaa.G Go.Proofs.Ytjomgaafnpbmhaa.H Go.Proofs.Ytjomgaafnpbmhaa.I Go.Proofs.Ytjomgaafnpbmhaa.J
set_option linter.unusedVariables false
set_option linter.unusedSimpArgs false

/-- The five cells of an entry at p. -/
structure EntIn (w : World) (b p : Nat) (x : Entry) : Prop where
  c0 : w.cell? ⟨b, p, none⟩ = some (.int .i64 x.stamp)
  c1 : w.cell? ⟨b, p + 1, none⟩ = some (.int .i64 x.sensor)
  c2 : w.cell? ⟨b, p + 2, none⟩ = some (.int .i64 x.seq)
  c3 : w.cell? ⟨b, p + 3, none⟩ = some (.bool x.input)
  c4 : ∃ A c, w.cell? ⟨b, p + 4, none⟩ = some (.slice A x.data.length c) ∧ Sl w 1 A x.data.length c (ints x.data)

/-- A slice of entries. -/
structure Ents (w : World) (A : Option Addr) (c : Nat) (l : List Entry) : Prop where
  cap : l.length ≤ c
  max : c ≤ 9223372036854775807
  at_ : 0 < l.length → ∃ b o, A = some ⟨b, o, none⟩ ∧ b < w.heap.size ∧ ∀ (i : Nat) x, l[i]? = some x → EntIn w b (o + i * 5) x

theorem EntIn.ext {w w' : World} {b p : Nat} {x : Entry} (h : EntIn w b p x) (hx : E.Ext w w') (hb : b < w.heap.size) : EntIn w' b p x := by
  obtain ⟨A, c, h4, hs⟩ := h.c4
  exact ⟨(hx.cell (p := ⟨b, p, none⟩) hb).trans h.c0, (hx.cell (p := ⟨b, p + 1, none⟩) hb).trans h.c1, (hx.cell (p := ⟨b, p + 2, none⟩) hb).trans h.c2, (hx.cell (p := ⟨b, p + 3, none⟩) hb).trans h.c3, A, c, (hx.cell (p := ⟨b, p + 4, none⟩) hb).trans h4, hs.ext hx⟩
theorem Ents.ext {w w' : World} {A : Option Addr} {c : Nat} {l : List Entry} (h : Ents w A c l) (hx : E.Ext w w') : Ents w' A c l :=
  ⟨h.cap, h.max, fun h0 => by
    obtain ⟨b, o, e, hb, hi⟩ := h.at_ h0
    exact ⟨b, o, e, Nat.lt_of_lt_of_le hb hx.size, fun i x hx' => (hi i x hx').ext hx hb⟩⟩

/-! ### Twins over a beginning -/
def firstOf (s q : Int) (l : List Entry) (k : Nat) : Int := twinFrom s q (l.take k) 0
theorem twinFrom_append {s q : Int} : ∀ (l m : List Entry) (i : Nat), twinFrom s q (l ++ m) i = if twinFrom s q l i < 0 then twinFrom s q m (i + l.length) else twinFrom s q l i
  | [], m, i => by simp [twinFrom]
  | y :: l, m, i => by
    simp only [List.cons_append, twinFrom, List.length_cons]
    split
    · rw [if_neg (by omega)]
    · rw [twinFrom_append l m (i + 1)]
      congr 2
      omega
theorem firstOf_succ {s q : Int} {l : List Entry} {k : Nat} {y : Entry} (h : l[k]? = some y) : firstOf s q l (k + 1) = if firstOf s q l k < 0 then (if y.sensor = s ∧ y.seq = q then (k : Int) else -1) else firstOf s q l k := by
  obtain ⟨hk, rfl⟩ := List.getElem?_eq_some_iff.1 h
  unfold firstOf
  rw [List.take_succ_eq_append_getElem hk, twinFrom_append]
  congr 1
  simp only [twinFrom, List.length_take, Nat.min_eq_left (Nat.le_of_lt hk), Nat.zero_add]
theorem firstOf_ge {s q : Int} (l : List Entry) : ∀ i, -1 ≤ twinFrom s q l i := by
  induction l with
  | nil => intro i; simp [twinFrom]
  | cons y l ih =>
    intro i
    simp only [twinFrom]
    split
    · omega
    · exact ih _

set_option maxHeartbeats 1600000 in
theorem ringUntil_walk (l : List Entry) (A : Option Addr) (c : Nat) (t s q : Int) (w : World) (hl : Ents w A c l) :
    Calls Try.prog 3 #[.slice A l.length c, .int .i64 t, .int .i64 s, .int .i64 q] w fun e w' => e = .returned (.bool true) ∧ E.Ext w w' := by
  have hcap := hl.cap
  have hmax := hl.max
  by_cases h40 : 40 < l.length
  · go_enter Try.func3, Try.ntmps3
    go_wp2_with (go_at_call 6; refine (awake_any _).mono ?_; rintro e w1 ⟨rfl, hx1⟩)
    refine (new_any 40 _ (by decide) (by decide)).mono ?_
    rintro e w2 ⟨b, pb, rfl, hr2, hb, hpb, hx2⟩
    go_wp2_with fail
    go_ret
    exact ⟨rfl, hx1.trans hx2⟩
  · go_enter Try.func3, Try.ntmps3
    go_wp2_with (go_at_call 6; refine (awake_any _).mono ?_; rintro e w1 ⟨rfl, hx1⟩)
    refine (new_any 40 _ (by decide) (by decide)).mono ?_
    rintro e w2 ⟨b, pb, rfl, hr2, hb, hpb, hx2⟩
    have hx02 := hx1.trans hx2
    have hbw : w.heap.size ≤ b := Nat.le_trans hx1.size hb
    have hpbw : w.heap.size ≤ pb := Nat.le_trans hx1.size hpb
    have hS : ∀ k, k < w.heap.size → ¬ (k = b ∨ k = pb) := by intro k hk; omega
    have HS := Lib.hid hS
    clear hS
    go_wp2_with fail
    go_loopw [12] (fun v wr => ∃ (k : Nat) (m : List Entry), v = .int .i64 k ∧ k ≤ l.length ∧ E.Ext w wr ∧ Sorted m ∧ RingAt (fun _ => True) wr b pb ⟨40, 0, m⟩ ∧ ∀ y, y ∈ m → y.data.length ≤ 20) (fun v _ => l.length - (intOf v).toNat)
    case atStart => exact ⟨0, [], rfl, Nat.zero_le _, hx02, sorted_nil, hr2, fun y h => by cases h⟩
    case round =>
      obtain ⟨k, m, rfl, hk, hx, hsm, hr, hd⟩ := hrel
      have HD := Lib.hid hd
      have HSM := Lib.hid hsm
      clear hd hsm
      by_cases hlt : k < l.length
      · obtain ⟨y, hy⟩ : ∃ y, l[k]? = some y := ⟨l[k], List.getElem?_eq_getElem hlt⟩
        obtain ⟨b0, o0, rfl, hb0, hen⟩ := (hl.ext hx).at_ (by omega)
        obtain ⟨c0, c1, c2, c3, Ad, cd, c4, hsd⟩ := hen k y hy
        clear hen hy
        by_cases h20 : 20 < y.data.length
        · go_wp2_with fail
          go_ret
          exact ⟨rfl, hx⟩
        · go_wp2_with fail
          refine (insert_any b pb ⟨40, 0, m⟩ y Ad cd _ hr HSM.out hsd (by omega)).mono ?_
          rintro e w3 ⟨rfl, hr3, hx3, _⟩
          replace hr3 := hr3.mono (F' := fun _ => True) (fun _ _ _ => trivial)
          go_wp2_with fail
          go_roundw
          case rel => exact ⟨k + 1, _, by go_num, by omega, E.Ext.thenS hx hx3 HS.out, sorted_insert HSM.out, hr3, fun z hz => by
            rcases insert_mem hz with h | h
            · exact HD.out z h
            · subst h; omega⟩
          case measure => simp [intOf]; omega
      · go_wp2_with fail
        have htw := turns_stamp HSM.out t
        refine (until_any b pb ⟨40, 0, m⟩ t _ hr HSM.out).mono ?_
        rintro e w4 ⟨rfl, hx4⟩
        have hr4 := hr.ext hx4
        have hcl : cnt (fun y => decide (y.stamp ≤ t)) m ≤ m.length := cnt_le _ _
        have hcs : ∀ (i : Nat) y, m[i]? = some y → ((y.stamp ≤ t) ↔ i < cnt (fun y => decide (y.stamp ≤ t)) m) := by
          intro i y hy
          constructor
          · intro h
            rcases Nat.lt_or_ge i (cnt (fun y => decide (y.stamp ≤ t)) m) with h1 | h1
            · exact h1
            · have := cnt_ge htw hy h1
              simp only [decide_eq_false_iff_not] at this
              exact absurd h this
          · intro h
            have := cnt_lt hy h
            simpa using this
        have HCS := Lib.hid hcs
        clear hcs htw
        generalize hn : cnt (fun y => decide (y.stamp ≤ t)) m = n at *
        clear hn
        go_wp2_with fail
        refine (twin_any b pb ⟨40, 0, m⟩ s q _ hr4).mono ?_
        rintro e w5 ⟨rfl, hx5⟩
        have hx05 := (hx.trans hx4).trans hx5
        have hr5 := hr4.ext hx5
        have hm40 := hr.ok.many
        simp only at hm40
        have htf : twin m s q = firstOf s q m m.length := by unfold firstOf twin; rw [List.take_length]
        have HTF := Lib.hid htf
        clear htf
        go_wp2_with fail
        go_loopw [15, 16] (fun f v wr => ∃ (k : Nat), v = .int .i64 k ∧ f = .int .i64 (firstOf s q m k) ∧ k ≤ m.length ∧ E.Ext w5 wr) (fun _ v _ => m.length - (intOf v).toNat)
        case atStart => exact ⟨0, rfl, rfl, Nat.zero_le _, E.Ext.refl _⟩
        case round =>
          obtain ⟨k2, rfl, rfl, hk2, hx6⟩ := hrel
          have hr6 := hr5.ext hx6
          have hf1 : -1 ≤ firstOf s q m k2 := firstOf_ge _ _
          go_wp2_with fail
          refine (len_any b pb ⟨40, 0, m⟩ _ hr6).mono ?_
          rintro e w7 ⟨rfl, rfl⟩
          by_cases hlt2 : k2 < m.length
          · obtain ⟨y, hy⟩ : ∃ y, m[k2]? = some y := ⟨m[k2], List.getElem?_eq_getElem hlt2⟩
            have hyd := HD.out y (List.mem_of_getElem? hy)
            have hfs := firstOf_succ (s := s) (q := q) hy
            have HFS := Lib.hid hfs
            have hst := HCS.out k2 y hy
            have HY := Lib.hid hy
            clear hfs hy
            go_wp2_with fail
            refine (get_yes b pb ⟨40, 0, m⟩ k2 y _ hr6 HY.out (by omega)).mono ?_
            rintro e w8 ⟨A8, c8, rfl, hx8, ho8⟩
            dsimp only [Entry.val]
            by_cases h1 : y.stamp ≤ t
            · have h2 : k2 < n := hst.1 h1
              clear hst
              by_cases hf : firstOf s q m k2 < 0
              · by_cases hs1 : y.sensor = s
                · have hbs1 : (y.sensor == s) = true := by simpa using hs1
                  have HS1 := Lib.hid hs1
                  clear hs1
                  by_cases hs2 : y.seq = q
                  · have hbs2 : (y.seq == q) = true := by simpa using hs2
                    have HS2 := Lib.hid hs2
                    clear hs2
                    go_wp2_with fail
                    go_roundw
                    case rel => exact ⟨k2 + 1, by go_num, by rw [HFS.out, if_pos hf, if_pos ⟨HS1.out, HS2.out⟩], by omega, (hx6.trans hx8).trans (E.Ext.alloc _ _)⟩
                    case measure => simp [intOf]; omega
                  · have hbs2 : (y.seq == q) = false := by simpa using hs2
                    have HS2 := Lib.hid hs2
                    clear hs2
                    go_wp2_with fail
                    go_roundw
                    case rel => exact ⟨k2 + 1, by go_num, by rw [HFS.out, if_pos hf, if_neg (fun h => HS2.out h.2)]; congr 1; omega, by omega, (hx6.trans hx8).trans (E.Ext.alloc _ _)⟩
                    case measure => simp [intOf]; omega
                · have hbs1 : (y.sensor == s) = false := by simpa using hs1
                  have HS1 := Lib.hid hs1
                  clear hs1
                  go_wp2_with fail
                  go_roundw
                  case rel => exact ⟨k2 + 1, by go_num, by rw [HFS.out, if_pos hf, if_neg (fun h => HS1.out h.1)]; congr 1; omega, by omega, (hx6.trans hx8).trans (E.Ext.alloc _ _)⟩
                  case measure => simp [intOf]; omega
              · go_wp2_with fail
                go_roundw
                case rel => exact ⟨k2 + 1, by go_num, by rw [HFS.out, if_neg hf], by omega, (hx6.trans hx8).trans (E.Ext.alloc _ _)⟩
                case measure => simp [intOf]; omega
            · have h2 : ¬ k2 < n := fun h => h1 (hst.2 h)
              clear hst
              by_cases hf : firstOf s q m k2 < 0
              · by_cases hs1 : y.sensor = s
                · have hbs1 : (y.sensor == s) = true := by simpa using hs1
                  have HS1 := Lib.hid hs1
                  clear hs1
                  by_cases hs2 : y.seq = q
                  · have hbs2 : (y.seq == q) = true := by simpa using hs2
                    have HS2 := Lib.hid hs2
                    clear hs2
                    go_wp2_with fail
                    go_roundw
                    case rel => exact ⟨k2 + 1, by go_num, by rw [HFS.out, if_pos hf, if_pos ⟨HS1.out, HS2.out⟩], by omega, (hx6.trans hx8).trans (E.Ext.alloc _ _)⟩
                    case measure => simp [intOf]; omega
                  · have hbs2 : (y.seq == q) = false := by simpa using hs2
                    have HS2 := Lib.hid hs2
                    clear hs2
                    go_wp2_with fail
                    go_roundw
                    case rel => exact ⟨k2 + 1, by go_num, by rw [HFS.out, if_pos hf, if_neg (fun h => HS2.out h.2)]; congr 1; omega, by omega, (hx6.trans hx8).trans (E.Ext.alloc _ _)⟩
                    case measure => simp [intOf]; omega
                · have hbs1 : (y.sensor == s) = false := by simpa using hs1
                  have HS1 := Lib.hid hs1
                  clear hs1
                  go_wp2_with fail
                  go_roundw
                  case rel => exact ⟨k2 + 1, by go_num, by rw [HFS.out, if_pos hf, if_neg (fun h => HS1.out h.1)]; congr 1; omega, by omega, (hx6.trans hx8).trans (E.Ext.alloc _ _)⟩
                  case measure => simp [intOf]; omega
              · go_wp2_with fail
                go_roundw
                case rel => exact ⟨k2 + 1, by go_num, by rw [HFS.out, if_neg hf], by omega, (hx6.trans hx8).trans (E.Ext.alloc _ _)⟩
                case measure => simp [intOf]; omega
          · have hkk : k2 = m.length := by omega
            subst hkk
            have hee : (twin m s q == firstOf s q m m.length) = true := by rw [HTF.out]; simp
            go_wp2_with (go_at_call 11; refine (len_any b pb ⟨40, 0, m⟩ _ hr6).mono ?_; rintro e w7 ⟨rfl, rfl⟩)
            go_ret
            exact ⟨rfl, hx05.trans hx6⟩
end Go.Proofs.Ytjomgaafnpbmhaa.M
