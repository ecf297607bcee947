/- told: a turn of both is answered alike. -/
import Derived.Test.YtjomgaafnpbmhaaZ
namespace Go.Proofs.Ytjomgaafnpbmhaa.AA
open Go.RowKit
open Go.Proofs.Ytjomgaafnpbmhaa
open Go.Proofs.Ytjomgaafnpbmhaa.A Go.Proofs.Ytjomgaafnpbmhaa.K Go.Proofs.Ytjomgaafnpbmhaa.B Go.Proofs.Ytjomgaafnpbmhaa.C Go.Proofs.Ytjomgaafnpbmhaa.D Go.Proofs.Ytjomgaafnpbmhaa.F Go.Proofs.Ytjomgaafnpbmhaa.G Go.Proofs.Ytjomgaafnpbmhaa.H Go.Proofs.Ytjomgaafnpbmhaa.I Go.Proofs.Ytjomgaafnpbmhaa.J Go.Proofs.Ytjomgaafnpbmhaa.M Go.Proofs.Ytjomgaafnpbmhaa.O Go.Proofs.Ytjomgaafnpbmhaa.P Go.Proofs.Ytjomgaafnpbmhaa.R Go.Proofs.Ytjomgaafnpbmhaa.V Go.Proofs.Ytjomgaafnpbmhaa.W Go.Proofs.Ytjomgaafnpbmhaa.X Go.Proofs.Ytjomgaafnpbmhaa.Y Go.Proofs.Ytjomgaafnpbmhaa.Z
set_option linter.unusedVariables false
set_option linter.unusedSimpArgs false

/-- Both rings, side by side. -/
structure Both (w : World) (b pb rb K first : Nat) (l : List Entry) : Prop where
  ring : RingAt (fun _ => True) w b pb ⟨K, first, l⟩
  ref : RefAt (fun _ => True) w rb K l
  sorted : Sorted l
  short : ∀ y, y ∈ l → y.data.length ≤ 20

section
variable {w w' w9 w14 w15 w2 w3 w4 w5 : World} {b pb rb K first first' : Nat} {l l' : List Entry} {S : Nat → Prop}
theorem Both.ext (h : Both w b pb rb K first l) (hx : E.Ext w w') : Both w' b pb rb K first l := ⟨h.ring.ext hx, h.ref.ext hx, h.sorted, h.short⟩
theorem ring_blks {F : Nat → Prop} {r : RingD} (h : RingAt F w b pb r) : (∃ cs, E.Blk w b 66 cs) ∧ ∃ cs, E.Blk w pb 69 cs := by
  obtain ⟨h1, h2, ps, gp, h3, h4, h5⟩ := h
  exact ⟨⟨_, h2⟩, ⟨_, h4⟩⟩
theorem ref_blk {F : Nat → Prop} (h : RefAt F w rb K l) : ∃ cs, E.Blk w rb 51 cs := by
  obtain ⟨A, c, hB, _⟩ := h.blk
  exact ⟨_, hB⟩
theorem d3_lt {k : Nat} (h : D3 w k) : k < w.heap.size := by
  obtain ⟨cs, h⟩ := h
  exact h.lt
theorem d3_ext {k : Nat} (h : D3 w k) (hx : E.Ext w w') : D3 w' k := by
  obtain ⟨cs, h⟩ := h
  exact ⟨cs, h.ext hx⟩
/-- Numbers of the call's own are written over. -/
theorem both_over (h : Both w9 b pb rb K first l) (hx : E.Ext w9 w14) (hS : ∀ k, S k → D3 w14 k ∧ w9.heap.size ≤ k) (h15 : E.ExtS S w14 w15) : Both w15 b pb rb K first l := by
  obtain ⟨⟨c1, hb⟩, ⟨c2, hpb⟩⟩ := ring_blks h.ring
  obtain ⟨c3, hrb⟩ := ref_blk h.ref
  have far : ∀ k t cs, E.Blk w14 k t cs → (3 : Nat) ≠ t → ¬ S k := fun k t cs hk ht hs => by
    obtain ⟨⟨cs', h'⟩, _⟩ := hS k hs
    exact h'.ne hk ht rfl
  have hD : ∀ k, D3 w9 k → ¬ S k := fun k hk hs => by
    have := d3_lt hk
    have := (hS k hs).2
    omega
  refine ⟨((((ringAt_D3 h.ring).ext hx).extS h15 ?_ ?_ ?_ hD).mono (fun _ _ _ => trivial)), ((((refAt_D3 h.ref).ext hx).extS h15 ?_ ?_ hD).mono (fun _ _ _ => trivial)), h.sorted, h.short⟩
  · exact far _ _ _ (hb.ext hx) (by decide)
  · exact far _ _ _ (hpb.ext hx) (by decide)
  · exact fun k cs hk => far _ _ _ hk (by decide)
  · exact far _ _ _ (hrb.ext hx) (by decide)
  · exact fun k cs hk => far _ _ _ hk (by decide)
/-- What Insert needs of the document's ring behind the other one's Insert. -/
theorem ref_mid (h : Both w b pb rb K first l) (hx : E.Ext w w2) (h23 : E.ExtS (fun k => k = b ∨ k = pb) w2 w3) : RefAt (D3 w) w3 rb K l := by
  obtain ⟨⟨c1, hb⟩, ⟨c2, hpb⟩⟩ := ring_blks h.ring
  obtain ⟨c3, hrb⟩ := ref_blk h.ref
  refine ((refAt_D3 h.ref).ext hx).extS h23 ?_ ?_ ?_
  · rintro (e | e)
    · exact (hrb.ne hb (by decide) e)
    · exact (hrb.ne hpb (by decide) e)
  · rintro k cs hk (e | e)
    · exact hk.ne (hb.ext hx) (by decide) e
    · exact hk.ne (hpb.ext hx) (by decide) e
  · rintro k ⟨cs, hk⟩ (e | e)
    · exact hk.ne hb (by decide) e
    · exact hk.ne hpb (by decide) e
/-- Behind both Inserts, and what was handed in written over. -/
theorem both_mid (h : Both w b pb rb K first l) (hx : E.Ext w w2) (hring : RingAt (fun k => D3 w k ∨ w2.heap.size ≤ k) w3 b pb ⟨K, first, l'⟩) (h23 : E.ExtS (fun k => k = b ∨ k = pb) w2 w3)
    (href : RefAt (fun k => D3 w k ∨ w3.heap.size ≤ k) w4 rb K l') (h34 : E.ExtS (fun k => k = rb) w3 w4) (hS : ∀ k, S k → D3 w4 k ∧ w.heap.size ≤ k ∧ k < w2.heap.size) (h45 : E.ExtS S w4 w5)
    (hs : Sorted l') (hd : ∀ y, y ∈ l' → y.data.length ≤ 20) : Both w5 b pb rb K first l' := by
  obtain ⟨⟨c1, hb⟩, ⟨c2, hpb⟩⟩ := ring_blks hring
  obtain ⟨c3, hrb⟩ := ref_blk href
  obtain ⟨c4, hrb0⟩ := ref_blk h.ref
  obtain ⟨c5, hrb3⟩ := ref_blk (ref_mid h hx h23)
  have hb4 := hb.extS h34 (fun e => hb.ne hrb3 (by decide) e)
  have hpb4 := hpb.extS h34 (fun e => hpb.ne hrb3 (by decide) e)
  have far : ∀ k t cs, E.Blk w4 k t cs → (3 : Nat) ≠ t → ¬ S k := fun k t cs hk ht hs => by
    obtain ⟨⟨cs', h'⟩, _⟩ := hS k hs
    exact h'.ne hk ht rfl
  have hD : ∀ k, (D3 w k ∨ w2.heap.size ≤ k) → ¬ S k := fun k hk hs => by
    have h1 := (hS k hs).2
    rcases hk with hk | hk
    · have := d3_lt hk
      omega
    · omega
  have hr4 : RingAt (fun k => D3 w k ∨ w2.heap.size ≤ k) w4 b pb ⟨K, first, l'⟩ := by
    refine hring.extS h34 ?_ ?_ ?_ ?_
    · exact fun e => hb.ne hrb3 (by decide) e
    · exact fun e => hpb.ne hrb3 (by decide) e
    · exact fun k cs hk e => hk.ne hrb3 (by decide) e
    · rintro k (⟨cs, hk⟩ | hk) e
      · exact hk.ne hrb0 (by decide) e
      · have := (hrb0.ext hx).lt
        have e' : k = rb := e
        omega
  have hle := h23.size
  refine ⟨(hr4.extS h45 ?_ ?_ ?_ hD).mono (fun _ _ _ => trivial), (href.extS h45 ?_ ?_ (fun k hk => hD k (hk.imp id (fun h => by omega)))).mono (fun _ _ _ => trivial), hs, hd⟩
  · exact far _ _ _ hb4 (by decide)
  · exact far _ _ _ hpb4 (by decide)
  · exact fun k cs hk => far _ _ _ hk (by decide)
  · exact far _ _ _ hrb (by decide)
  · exact fun k cs hk => far _ _ _ hk (by decide)
/-- Behind both Drops. -/
theorem both_drop {wd wd' wq : World} {y : Entry} {m : List Entry} {F : Nat → Prop} (h : Both w b pb rb K first (y :: m)) (hrd : RingAt (fun _ => True) wd b pb ⟨K, first', m⟩) (hsd : E.ExtS (fun k => k = b ∨ k = pb) w wd) (hx : E.Ext wd wd')
    (hrq : RefAt F wq rb K m) (hsq : E.ExtS (fun k => k = rb) wd' wq) : Both wq b pb rb K first' m := by
  obtain ⟨⟨c1, hb⟩, ⟨c2, hpb⟩⟩ := ring_blks hrd
  obtain ⟨c3, hrb⟩ := ref_blk (ref_mid h (E.Ext.refl _) hsd)
  refine ⟨((((ringAt_D3 hrd).ext hx).extS hsq ?_ ?_ ?_ ?_).mono (fun _ _ _ => trivial)), hrq.mono (fun _ _ _ => trivial), ?_, fun z hz => h.short z (List.mem_cons_of_mem _ hz)⟩
  · exact fun e => hb.ne hrb (by decide) e
  · exact fun e => hpb.ne hrb (by decide) e
  · exact fun k cs hk e => hk.ne (hrb.ext hx) (by decide) e
  · rintro k ⟨cs, hk⟩ e
    exact hk.ne hrb (by decide) e
  · exact fun i j x z hij hx hz => h.sorted (i + 1) (j + 1) x z (by omega) (by simpa using hx) (by simpa using hz)
end
end Go.Proofs.Ytjomgaafnpbmhaa.AA
