/- The ring in memory; its places; the search. -/
import Derived.Test.YtjomgaafnpbmhaaC
namespace Go.Proofs.Ytjomgaafnpbmhaa.D
open Go.RowKit
open Go.Proofs.Ytjomgaafnpbmhaa
open Go.Proofs.Ytjomgaafnpbmhaa.A Go.Proofs.Ytjomgaafnpbmhaa.K Go.Proofs.Ytjomgaafnpbmhaa.B Go.Proofs.Ytjomgaafnpbmhaa.C
set_option linter.unusedVariables false
set_option linter.unusedSimpArgs false

/-- A ring: how many places, where the first is, and what it holds. -/
structure RingD where
  K : Nat
  first : Nat
  l : List Entry

structure RingD.Ok (r : RingD) : Prop where
  pos : 1 ≤ r.K
  most : r.K ≤ 200
  first : r.first < r.K
  many : r.l.length ≤ r.K

/-- The struct's block. -/
def RingB (w : World) (b pb : Nat) (r : RingD) : Prop :=
  E.Blk w b 66 #[.slice (some ⟨pb, 0, none⟩) r.K r.K, .int .i64 r.first, .int .i64 r.l.length]

/-- Where an entry stands in memory of its own. -/
def EntryAt (F : Nat → Prop) (w : World) (g : Nat) (x : Entry) : Prop :=
  ∃ A c, E.Blk w g 30 #[.int .i64 x.stamp, .int .i64 x.sensor, .int .i64 x.seq, .bool x.input, .slice A x.data.length c] ∧
    w.ownsRow 0 3 1 (.slice A x.data.length c) x.data.length (ints x.data) ∧ ∀ k, (Value.slice A x.data.length c).ownBlock = some k → F k

/-- The places: from the first one on, around the end, each a pointer to its entry. -/
def Places (F : Nat → Prop) (w : World) (pb : Nat) (r : RingD) : Prop :=
  ∃ (ps : Array Value) (gp : Nat → Nat), ps.size = r.K ∧ E.Blk w pb 69 ps ∧ ∀ (i : Nat) (x : Entry), r.l[i]? = some x → ps[(r.first + i) % r.K]? = some (.pointer (some ⟨gp i, 0, none⟩)) ∧ EntryAt F w (gp i) x

structure RingAt (F : Nat → Prop) (w : World) (b pb : Nat) (r : RingD) : Prop where
  ok : r.Ok
  struct : RingB w b pb r
  places : Places F w pb r

section
variable {F F' : Nat → Prop} {w w' : World} {b pb : Nat} {r : RingD} {x : Entry}
theorem EntryAt.ext {g : Nat} (h : EntryAt F w g x) (hx : E.Ext w w') : EntryAt F w' g x := by
  obtain ⟨A, c, h1, h2, h3⟩ := h
  exact ⟨A, c, h1.ext hx, own_ext h2 hx, h3⟩
theorem RingAt.ext (h : RingAt F w b pb r) (hx : E.Ext w w') : RingAt F w' b pb r := by
  obtain ⟨h1, h2, ps, gp, h3, h4, h5⟩ := h
  refine ⟨h1, h2.ext hx, ps, gp, h3, h4.ext hx, fun i x hi => ?_⟩
  obtain ⟨hg, he⟩ := h5 i x hi
  exact ⟨hg, he.ext hx⟩
theorem RingAt.get (h : RingAt F w b pb r) : r.Ok ∧ RingB w b pb r ∧ ∃ ps : Array Value, ps.size = r.K ∧ E.Blk w pb 69 ps ∧ ∀ (i : Nat) (x : Entry), r.l[i]? = some x → ∃ g, ps[(r.first + i) % r.K]? = some (.pointer (some ⟨g, 0, none⟩)) ∧ EntryAt F w g x := by
  obtain ⟨h1, h2, ps, gp, h3, h4, h5⟩ := h
  exact ⟨h1, h2, ps, h3, h4, fun i x hi => ⟨gp i, h5 i x hi⟩⟩
theorem EntryAt.extS {S : Nat → Prop} {g : Nat} (h : EntryAt F w g x) (hx : E.ExtS S w w') (h30 : ∀ k cs, E.Blk w k 30 cs → ¬ S k) (h3 : ∀ k cs, E.Blk w k 3 cs → ¬ S k) : EntryAt F w' g x := by
  obtain ⟨A, c, h1, h2, hF⟩ := h
  exact ⟨A, c, h1.extS hx (h30 _ _ h1), own_extS h2 hx h3, hF⟩
theorem EntryAt.mono {g : Nat} (h : EntryAt F w g x) (hF : ∀ k, k < w.heap.size → F k → F' k) : EntryAt F' w g x := by
  obtain ⟨A, c, h1, h2, h3⟩ := h
  exact ⟨A, c, h1, h2, fun k hk => hF k (h2.lt k hk).2 (h3 k hk)⟩
theorem RingAt.mono (h : RingAt F w b pb r) (hF : ∀ k, k < w.heap.size → F k → F' k) : RingAt F' w b pb r := by
  obtain ⟨h1, h2, ps, gp, h3, h4, h5⟩ := h
  exact ⟨h1, h2, ps, gp, h3, h4, fun i x hi => ⟨(h5 i x hi).1, (h5 i x hi).2.mono hF⟩⟩
/-- A block of another type is written: the ring stays. -/
theorem RingAt.extS {S : Nat → Prop} (h : RingAt F w b pb r) (hx : E.ExtS S w w') (hb : ¬ S b) (hpb : ¬ S pb) (h30 : ∀ k cs, E.Blk w k 30 cs → ¬ S k) (h3 : ∀ k, F k → ¬ S k) : RingAt F w' b pb r := by
  obtain ⟨h1, h2, ps, gp, h4, h5, h6⟩ := h
  refine ⟨h1, E.Blk.extS h2 hx hb, ps, gp, h4, h5.extS hx hpb, fun i x hi => ⟨(h6 i x hi).1, ?_⟩⟩
  obtain ⟨A, c, k1, k2, k3⟩ := (h6 i x hi).2
  refine ⟨A, c, k1.extS hx (h30 _ _ k1), ?_, k3⟩
  obtain ⟨e1, e2⟩ := k2
  refine ⟨e1, ?_⟩
  rcases e2 with e2 | ⟨g, cap, cur, e3, e4, e5, e6⟩
  · exact .inl e2
  · refine .inr ⟨g, cap, cur, e3, e4, ?_, e6⟩
    rw [hx.block g (Array.getElem?_eq_some_iff.1 e5).1 (h3 g (k3 g (by rw [e3]; rfl)))]
    exact e5
end

variable {F : Nat → Prop}
set_option maxHeartbeats 400000 in
theorem none_any (b pb : Nat) (r : RingD) (w : World) (h : RingB w b pb r) (hK : 1 ≤ r.K) :
    Calls Try.prog 28 #[.pointer (some ⟨b, 0, none⟩)] w fun e w' => e = .returned (.bool false) ∧ w = w' := by
  obtain ⟨ch, fh⟩ := E.Blk.facts h
  have hk : ((r.K : Int) == 0) = false := by simp; omega
  go_enter Try.func28, Try.ntmps28
  go_wp2
  go_ret
  exact ⟨rfl, rfl⟩

set_option maxHeartbeats 400000 in
theorem at_any (b pb : Nat) (r : RingD) (i : Nat) (w : World) (h : RingB w b pb r) (ok : r.Ok) (hi : i ≤ 200) :
    Calls Try.prog 31 #[.pointer (some ⟨b, 0, none⟩), .int .i64 i] w fun e w' => e = .returned (.pointer (some ⟨pb, (r.first + i) % r.K, none⟩)) ∧ E.Ext w w' := by
  obtain ⟨ch, fh⟩ := E.Blk.facts h
  have hK := ok.pos
  have hK2 := ok.most
  have hf := ok.first
  have hne : ¬ r.K = 0 := by omega
  have hm1 : 0 ≤ ((r.first : Int) + (i : Int)) % (r.K : Int) := Int.emod_nonneg _ (by omega)
  have hm2 : ((r.first : Int) + (i : Int)) % (r.K : Int) < (r.K : Int) := Int.emod_lt_of_pos _ (by omega)
  go_enter Try.func31, Try.ntmps31
  go_wp2_with fail
  refine E.wp_plan E.ext_pre 1000000 [(0, true), (1, true), (2, true), (3, true), (4, true), (5, true), (6, true), (7, true), (8, true), (9, true), (10, true), (11, true), (12, true), (13, true), (14, true), (15, true), (16, true), (17, true)] (by kernel_rfl) (by kernel_rfl) ?_
  repeat (first | (refine E.plan_pure (by simp only [List.getElem?_toArray, List.getElem?_cons_succ, List.getElem?_cons_zero]; rfl) (by rfl) (fun K hK => ?_); (go_simp; try go_bits; try go_simp); refine hK _ ?_; clear hK K) | (refine E.plan_load (by simp only [List.getElem?_toArray, List.getElem?_cons_succ, List.getElem?_cons_zero]; rfl) (by rfl) (by rfl) (fun K hK => ?_); (go_simp; try go_bits; try go_simp); refine hK _ ?_; clear hK K) | (refine E.plan_skip (E.Ext.refl _) (by simp only [List.getElem?_toArray, List.getElem?_cons_succ, List.getElem?_cons_zero]; rfl) (by rfl) (fun K hK => ?_); (go_simp; try go_bits; try go_simp); refine hK _ ?_; clear hK K))
  refine E.plan_nil ?_
  go_wp2
  go_ret
  exact ⟨by simp, E.Ext.drew _⟩

set_option maxHeartbeats 400000 in
/-- The closure of Insert: is an entry ahead of a key? -/
theorem ins1_any (x : Entry) (A : Option Addr) (c : Nat) (k : Key) (kb : Nat) (w : World) (h : E.Blk w kb 57 #[.int .i64 k.stamp, .int .i64 k.sensor, .int .i64 k.seq]) :
    Calls Try.prog 30 #[x.val A c, .pointer (some ⟨kb, 0, none⟩)] w fun e w' => e = .returned (.bool (x.key.lt k)) ∧ E.Ext w w' := by
  have hlt := h.lt
  have hk : ∀ o, E.Blk (w.alloc o) kb 57 #[.int .i64 k.stamp, .int .i64 k.sensor, .int .i64 k.seq] := fun o => h.alloc o
  have hc : ∀ o i, (w.alloc o).cell? ⟨kb, i, none⟩ = #[Value.int .i64 k.stamp, .int .i64 k.sensor, .int .i64 k.seq][i]? := fun o => (hk o).cell
  have hval : k.val = .agg #[.int .i64 k.stamp, .int .i64 k.sensor, .int .i64 k.seq] := rfl
  unfold Entry.val
  go_enter Try.func30, Try.ntmps30
  go_wp2_with fail
  refine E.wp_plan E.ext_pre 1000000 [(0, true), (2, true), (1, false), (3, false), (4, true)] (by kernel_rfl) (by kernel_rfl) ?_
  repeat (first | (refine E.plan_pure (by simp only [List.getElem?_toArray, List.getElem?_cons_succ, List.getElem?_cons_zero]; rfl) (by rfl) (fun K hK => ?_); (go_simp; try go_bits; try go_simp); refine hK _ ?_; clear hK K) | (refine E.plan_load (by simp only [List.getElem?_toArray, List.getElem?_cons_succ, List.getElem?_cons_zero]; rfl) (by rfl) (by rfl) (fun K hK => ?_); (go_simp; try go_bits; try go_simp); refine hK _ ?_; clear hK K) | (refine E.plan_skip (E.Ext.refl _) (by simp only [List.getElem?_toArray, List.getElem?_cons_succ, List.getElem?_cons_zero]; rfl) (by rfl) (fun K hK => ?_); (go_simp; try go_bits; try go_simp); refine hK _ ?_; clear hK K))
  refine E.plan_eff (by simp only [List.getElem?_toArray, List.getElem?_cons_succ, List.getElem?_cons_zero]; rfl) (by rfl) (fun K hK => ?_); (go_simp; try go_bits)
  refine (of_any x A c _).mono ?_; rintro e w' ⟨rfl, hx⟩; refine hK _ _ hx ?_; clear hK K
  refine E.plan_eff (by simp only [List.getElem?_toArray, List.getElem?_cons_succ, List.getElem?_cons_zero]; rfl) (by rfl) (fun K hK => ?_); (go_simp; try go_bits)
  refine (less_any x.key k _).mono ?_; rintro e w'' ⟨rfl, hx'⟩; refine hK _ _ hx' ?_; clear hK K
  repeat (first | (refine E.plan_pure (by simp only [List.getElem?_toArray, List.getElem?_cons_succ, List.getElem?_cons_zero]; rfl) (by rfl) (fun K hK => ?_); (go_simp; try go_bits; try go_simp); refine hK _ ?_; clear hK K) | (refine E.plan_load (by simp only [List.getElem?_toArray, List.getElem?_cons_succ, List.getElem?_cons_zero]; rfl) (by rfl) (by rfl) (fun K hK => ?_); (go_simp; try go_bits; try go_simp); refine hK _ ?_; clear hK K) | (refine E.plan_skip (E.Ext.refl _) (by simp only [List.getElem?_toArray, List.getElem?_cons_succ, List.getElem?_cons_zero]; rfl) (by rfl) (fun K hK => ?_); (go_simp; try go_bits; try go_simp); refine hK _ ?_; clear hK K))
  refine E.plan_nil ?_
  go_wp2
  go_ret
  exact ⟨rfl, ((E.Ext.alloc _ _).trans (E.Ext.drew _)).trans (hx.trans hx')⟩

set_option maxHeartbeats 400000 in
/-- The closure of Until: is an entry not later? -/
theorem unt1_any (x : Entry) (A : Option Addr) (c : Nat) (t : Int) (kb : Nat) (w : World) (h : E.Blk w kb 3 #[.int .i64 t]) :
    Calls Try.prog 33 #[x.val A c, .pointer (some ⟨kb, 0, none⟩)] w fun e w' => e = .returned (.bool (decide (x.stamp ≤ t))) ∧ E.Ext w w' := by
  have hc : ∀ o i, (w.alloc o).cell? ⟨kb, i, none⟩ = #[Value.int .i64 t][i]? := fun o => (h.alloc o).cell
  unfold Entry.val
  go_enter Try.func33, Try.ntmps33
  go_wp2
  go_ret
  exact ⟨rfl, E.Ext.alloc _ _⟩


set_option maxHeartbeats 800000 in
theorem find1_ins (b pb ab rb : Nat) (r : RingD) (q : Entry → Bool) (kv : Value) (i : Nat) (x : Entry) (w : World) (hr : RingAt F w b pb r)
    (ha : E.Blk w ab 68 #[.func (.func 30) #[] #[kv]]) (hrb : E.Blk w rb 24 #[.pointer (some ⟨b, 0, none⟩)]) (hi : r.l[i]? = some x)
    (hq : ∀ W, E.Ext w W → ∀ (x : Entry) A c, Calls Try.prog 30 #[x.val A c, kv] W fun e W' => e = .returned (.bool (q x)) ∧ E.Ext W W') :
    Calls Try.prog 51 #[.int .i64 i, .pointer (some ⟨ab, 0, none⟩), .pointer (some ⟨rb, 0, none⟩)] w fun e w' => e = .returned (.bool (!q x)) ∧ E.Ext w w' := by
  have HQ := Lib.hid hq
  clear hq
  have hil : i < r.l.length := (List.getElem?_eq_some_iff.1 hi).1
  have hmany := hr.ok.many
  have hmost := hr.ok.most
  obtain ⟨cha, fha⟩ := ha.facts
  obtain ⟨chr, fhr⟩ := hrb.facts
  go_enter Try.func51, Try.ntmps51
  go_wp2_with fail
  refine E.wp_plan E.ext_pre 1000000 [(0, true), (1, true), (2, true), (3, false), (4, true), (5, true), (6, true), (7, true), (8, false), (9, true), (10, true)] (by kernel_rfl) (by kernel_rfl) ?_
  repeat (first | (refine E.plan_pure (by simp only [List.getElem?_toArray, List.getElem?_cons_succ, List.getElem?_cons_zero]; rfl) (by rfl) (fun K hK => ?_); (go_simp; try go_bits; try go_simp); refine hK _ ?_; clear hK K) | (refine E.plan_load (by simp only [List.getElem?_toArray, List.getElem?_cons_succ, List.getElem?_cons_zero]; rfl) (by rfl) (by rfl) (fun K hK => ?_); (go_simp; try go_bits; try go_simp); refine hK _ ?_; clear hK K) | (refine E.plan_skip (E.Ext.refl _) (by simp only [List.getElem?_toArray, List.getElem?_cons_succ, List.getElem?_cons_zero]; rfl) (by rfl) (fun K hK => ?_); (go_simp; try go_bits; try go_simp); refine hK _ ?_; clear hK K))
  refine E.plan_eff (by simp only [List.getElem?_toArray, List.getElem?_cons_succ, List.getElem?_cons_zero]; rfl) (by rfl) (fun K hK => ?_); (go_simp; try go_bits)
  refine (at_any b pb r i _ (hr.struct.drew) hr.ok (by omega)).mono ?_; rintro e w1 ⟨rfl, hx⟩; refine hK _ _ hx ?_; clear hK K
  have hr1 := (hr.ext (E.Ext.drew w)).ext hx
  obtain ⟨_, _, ps, hps1, hps, hpl⟩ := hr1.get
  obtain ⟨g, hg, A, c, hge, hgo, _⟩ := hpl i x hi
  have cps := hps.cell
  have cge := hge.cell
  repeat (first | (refine E.plan_pure (by simp only [List.getElem?_toArray, List.getElem?_cons_succ, List.getElem?_cons_zero]; rfl) (by rfl) (fun K hK => ?_); (go_simp; try go_bits; try go_simp); refine hK _ ?_; clear hK K) | (refine E.plan_load (by simp only [List.getElem?_toArray, List.getElem?_cons_succ, List.getElem?_cons_zero]; rfl) (by rfl) (by rfl) (fun K hK => ?_); (go_simp; try go_bits; try go_simp); refine hK _ ?_; clear hK K) | (refine E.plan_skip (E.Ext.refl _) (by simp only [List.getElem?_toArray, List.getElem?_cons_succ, List.getElem?_cons_zero]; rfl) (by rfl) (fun K hK => ?_); (go_simp; try go_bits; try go_simp); refine hK _ ?_; clear hK K))
  refine E.plan_eff (by simp only [List.getElem?_toArray, List.getElem?_cons_succ, List.getElem?_cons_zero]; rfl) (by rfl) (fun K hK => ?_); (go_simp; try go_bits)
  refine (HQ.out _ ((E.Ext.drew w).trans hx) x A c).mono ?_; rintro e w2 ⟨rfl, hx2⟩; refine hK _ _ hx2 ?_; clear hK K
  repeat (first | (refine E.plan_pure (by simp only [List.getElem?_toArray, List.getElem?_cons_succ, List.getElem?_cons_zero]; rfl) (by rfl) (fun K hK => ?_); (go_simp; try go_bits; try go_simp); refine hK _ ?_; clear hK K) | (refine E.plan_load (by simp only [List.getElem?_toArray, List.getElem?_cons_succ, List.getElem?_cons_zero]; rfl) (by rfl) (by rfl) (fun K hK => ?_); (go_simp; try go_bits; try go_simp); refine hK _ ?_; clear hK K) | (refine E.plan_skip (E.Ext.refl _) (by simp only [List.getElem?_toArray, List.getElem?_cons_succ, List.getElem?_cons_zero]; rfl) (by rfl) (fun K hK => ?_); (go_simp; try go_bits; try go_simp); refine hK _ ?_; clear hK K))
  refine E.plan_nil ?_
  go_wp2
  go_ret
  exact ⟨rfl, ((E.Ext.drew _).trans hx).trans hx2⟩
set_option maxHeartbeats 800000 in
theorem find1_unt (b pb ab rb : Nat) (r : RingD) (q : Entry → Bool) (kv : Value) (i : Nat) (x : Entry) (w : World) (hr : RingAt F w b pb r)
    (ha : E.Blk w ab 68 #[.func (.func 33) #[] #[kv]]) (hrb : E.Blk w rb 24 #[.pointer (some ⟨b, 0, none⟩)]) (hi : r.l[i]? = some x)
    (hq : ∀ W, E.Ext w W → ∀ (x : Entry) A c, Calls Try.prog 33 #[x.val A c, kv] W fun e W' => e = .returned (.bool (q x)) ∧ E.Ext W W') :
    Calls Try.prog 51 #[.int .i64 i, .pointer (some ⟨ab, 0, none⟩), .pointer (some ⟨rb, 0, none⟩)] w fun e w' => e = .returned (.bool (!q x)) ∧ E.Ext w w' := by
  have HQ := Lib.hid hq
  clear hq
  have hil : i < r.l.length := (List.getElem?_eq_some_iff.1 hi).1
  have hmany := hr.ok.many
  have hmost := hr.ok.most
  obtain ⟨cha, fha⟩ := ha.facts
  obtain ⟨chr, fhr⟩ := hrb.facts
  go_enter Try.func51, Try.ntmps51
  go_wp2_with fail
  refine E.wp_plan E.ext_pre 1000000 [(0, true), (1, true), (2, true), (3, false), (4, true), (5, true), (6, true), (7, true), (8, false), (9, true), (10, true)] (by kernel_rfl) (by kernel_rfl) ?_
  repeat (first | (refine E.plan_pure (by simp only [List.getElem?_toArray, List.getElem?_cons_succ, List.getElem?_cons_zero]; rfl) (by rfl) (fun K hK => ?_); (go_simp; try go_bits; try go_simp); refine hK _ ?_; clear hK K) | (refine E.plan_load (by simp only [List.getElem?_toArray, List.getElem?_cons_succ, List.getElem?_cons_zero]; rfl) (by rfl) (by rfl) (fun K hK => ?_); (go_simp; try go_bits; try go_simp); refine hK _ ?_; clear hK K) | (refine E.plan_skip (E.Ext.refl _) (by simp only [List.getElem?_toArray, List.getElem?_cons_succ, List.getElem?_cons_zero]; rfl) (by rfl) (fun K hK => ?_); (go_simp; try go_bits; try go_simp); refine hK _ ?_; clear hK K))
  refine E.plan_eff (by simp only [List.getElem?_toArray, List.getElem?_cons_succ, List.getElem?_cons_zero]; rfl) (by rfl) (fun K hK => ?_); (go_simp; try go_bits)
  refine (at_any b pb r i _ (hr.struct.drew) hr.ok (by omega)).mono ?_; rintro e w1 ⟨rfl, hx⟩; refine hK _ _ hx ?_; clear hK K
  have hr1 := (hr.ext (E.Ext.drew w)).ext hx
  obtain ⟨_, _, ps, hps1, hps, hpl⟩ := hr1.get
  obtain ⟨g, hg, A, c, hge, hgo, _⟩ := hpl i x hi
  have cps := hps.cell
  have cge := hge.cell
  repeat (first | (refine E.plan_pure (by simp only [List.getElem?_toArray, List.getElem?_cons_succ, List.getElem?_cons_zero]; rfl) (by rfl) (fun K hK => ?_); (go_simp; try go_bits; try go_simp); refine hK _ ?_; clear hK K) | (refine E.plan_load (by simp only [List.getElem?_toArray, List.getElem?_cons_succ, List.getElem?_cons_zero]; rfl) (by rfl) (by rfl) (fun K hK => ?_); (go_simp; try go_bits; try go_simp); refine hK _ ?_; clear hK K) | (refine E.plan_skip (E.Ext.refl _) (by simp only [List.getElem?_toArray, List.getElem?_cons_succ, List.getElem?_cons_zero]; rfl) (by rfl) (fun K hK => ?_); (go_simp; try go_bits; try go_simp); refine hK _ ?_; clear hK K))
  refine E.plan_eff (by simp only [List.getElem?_toArray, List.getElem?_cons_succ, List.getElem?_cons_zero]; rfl) (by rfl) (fun K hK => ?_); (go_simp; try go_bits)
  refine (HQ.out _ ((E.Ext.drew w).trans hx) x A c).mono ?_; rintro e w2 ⟨rfl, hx2⟩; refine hK _ _ hx2 ?_; clear hK K
  repeat (first | (refine E.plan_pure (by simp only [List.getElem?_toArray, List.getElem?_cons_succ, List.getElem?_cons_zero]; rfl) (by rfl) (fun K hK => ?_); (go_simp; try go_bits; try go_simp); refine hK _ ?_; clear hK K) | (refine E.plan_load (by simp only [List.getElem?_toArray, List.getElem?_cons_succ, List.getElem?_cons_zero]; rfl) (by rfl) (by rfl) (fun K hK => ?_); (go_simp; try go_bits; try go_simp); refine hK _ ?_; clear hK K) | (refine E.plan_skip (E.Ext.refl _) (by simp only [List.getElem?_toArray, List.getElem?_cons_succ, List.getElem?_cons_zero]; rfl) (by rfl) (fun K hK => ?_); (go_simp; try go_bits; try go_simp); refine hK _ ?_; clear hK K))
  refine E.plan_nil ?_
  go_wp2
  go_ret
  exact ⟨rfl, ((E.Ext.drew _).trans hx).trans hx2⟩
end Go.Proofs.Ytjomgaafnpbmhaa.D
