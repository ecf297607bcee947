/- Entries: what they are in memory; clones, copies, keys. -/
import Derived.Test.YtjomgaafnpbmhaaA
import Derived.Test.YtjomgaafnpbmhaaK
import Derived.WalkSpells
namespace Go.Proofs.Ytjomgaafnpbmhaa.B
open Go.RowKit
open Go.Proofs.Ytjomgaafnpbmhaa
open Go.Proofs.Ytjomgaafnpbmhaa.A Go.Proofs.Ytjomgaafnpbmhaa.K
set_option linter.unusedVariables false
set_option linter.unusedSimpArgs false

theorem Try_info3 : (Try.prog.info? 3).map (fun i => (i.zero, i.size, i.bytes)) = some (some (.int .i64 0), 1, 8) := by kernel_rfl
theorem Try_info57 : (Try.prog.info? 57).map (fun i => (i.zero, i.size, i.bytes)) = some (some (.agg #[.int .i64 0, .int .i64 0, .int .i64 0]), 3, 24) := by kernel_rfl
theorem st28 : ST Try.prog 28 3 1 8 := by
  obtain ⟨i, hi, h1, h2, h3⟩ := info_parts Try_info3
  exact ⟨i, _, Try.underlying28, hi, h1, h2, h3, rfl, by decide⟩
theorem st47 : ST Try.prog 47 57 3 24 := by
  obtain ⟨i, hi, h1, h2, h3⟩ := info_parts Try_info57
  exact ⟨i, _, Try.underlying47, hi, h1, h2, h3, rfl, by decide⟩

def ints (l : List Int) : List Value := l.map (Value.int .i64)
theorem ints_len (l : List Int) : (ints l).length = l.length := by simp [ints]
theorem ints_one (l : List Int) : ∀ u ∈ ints l, u.oneCell' = true := by
  intro u hu
  obtain ⟨x, _, rfl⟩ := List.mem_map.1 hu
  rfl

/-- A slice of the call's own that holds the numbers l. -/
def Owned (w : World) (l : List Int) (e : Ending) (w' : World) : Prop :=
  ∃ A c, e = .returned (.slice A l.length c) ∧ E.Ext w w' ∧ w'.ownsRow w.heap.size 3 1 (.slice A l.length c) l.length (ints l)

theorem own_of_made {W : World} {e size : Nat} {cap : Nat} (h : cap = 0 := by rfl) : (W.alloc (.cells #[] e)).ownsRow W.heap.size e size (.slice (some ⟨W.heap.size, 0, none⟩) 0 0) 0 [] :=
  World.ownsRow_made W #[] 0 (Nat.le_refl _) (by unfold maxLen; omega) (by simp)
set_option maxHeartbeats 400000 in
theorem clone_ints (l : List Int) (A : Option Addr) (c : Nat) (w : World) (h : Sl w 1 A l.length c (ints l)) (hl : l.length ≤ 1099511627776) :
    Calls Try.prog 52 #[.slice A l.length c] w (Owned w l) := by
  have he := fun wx A n c n' c' => Lib.run_eql_slice_nil (P := Try.prog) wx 28 3 A n c n' c' Try.underlying28
  cases A with
  | none =>
    have hn : l = [] := by
      cases l with
      | nil => rfl
      | cons x l => obtain ⟨b, o, e, _⟩ := h.cells (by simp [ints]); cases e
    subst hn
    go_enter Try.func52, Try.ntmps52
    go_wp2
    go_ret
    exact ⟨none, 0, rfl, E.Ext.refl _, World.ownsRow_nil _ _ _ _⟩
  | some ad =>
    have h1 : ∀ o, Sl (w.alloc o) 1 (some ad) l.length c (ints l) := fun o => h.ext (E.Ext.alloc w o)
    go_enter Try.func52, Try.ntmps52
    go_wp2_with (at_builtin; refine wpList_append_sl st28 rfl _ _ rfl w.heap.size _ 0 [] rfl (own_of_made) _ _ _ _ rfl (h1 _) (ints_one l) (by omega) (by decide) (by simp) ?_; intro v' w' hown hb _)
    obtain ⟨A', c', hv, _⟩ := own_sl hown
    rw [hv] at hown ⊢
    go_ret
    simp only [Nat.zero_add, List.nil_append] at hown ⊢
    exact ⟨A', c', rfl, (E.Ext.alloc w _).then hb, hown⟩

/-- An entry. -/
structure Entry where
  stamp : Int
  sensor : Int
  seq : Int
  input : Bool
  data : List Int
  deriving DecidableEq
def Entry.val (e : Entry) (A : Option Addr) (c : Nat) : Value := .agg #[.int .i64 e.stamp, .int .i64 e.sensor, .int .i64 e.seq, .bool e.input, .slice A e.data.length c]
def Entry.key (e : Entry) : Key := ⟨e.stamp, e.sensor, e.seq⟩
/-- An entry as a result, with a list of its own. -/
def OwnedE (w : World) (x : Entry) (e : Ending) (w' : World) : Prop :=
  ∃ A c, e = .returned (x.val A c) ∧ E.Ext w w' ∧ w'.ownsRow w.heap.size 3 1 (.slice A x.data.length c) x.data.length (ints x.data)

theorem of_any (x : Entry) (A : Option Addr) (c : Nat) (w : World) : Calls Try.prog 23 #[x.val A c] w fun e w' => e = .returned x.key.val ∧ E.Ext w w' := by
  unfold Entry.val Entry.key Key.val
  go_enter Try.func23, Try.ntmps23
  go_wp2
  exact bodyPost_ret (v := .agg #[.int .i64 x.stamp, .int .i64 x.sensor, .int .i64 x.seq]) (by simp [results, Try.results23, go_sem]) rfl ⟨rfl, (E.Ext.alloc _ _).trans (E.Ext.alloc _ _)⟩

theorem of14_any (x : Entry) (A : Option Addr) (c : Nat) (w : World) : Calls Try.prog 41 #[x.val A c] w fun e w' => e = .returned x.key.val ∧ E.Ext w w' := by
  unfold Entry.val Entry.key Key.val
  go_enter Try.func41, Try.ntmps41
  go_wp2
  exact bodyPost_ret (v := .agg #[.int .i64 x.stamp, .int .i64 x.sensor, .int .i64 x.seq]) (by simp [results, Try.results41, go_sem]) rfl ⟨rfl, (E.Ext.alloc _ _).trans (E.Ext.alloc _ _)⟩

theorem copied_any (x : Entry) (A : Option Addr) (c : Nat) (w : World) (h : Sl w 1 A x.data.length c (ints x.data)) (hl : x.data.length ≤ 1099511627776) :
    Calls Try.prog 32 #[x.val A c] w (OwnedE w x) := by
  unfold Entry.val
  go_enter Try.func32, Try.ntmps32
  go_wp2_with (go_at_call 52; refine (clone_ints _ _ _ _ ((h.ext (E.Ext.alloc _ _)).ext (E.Ext.alloc _ _)) hl).mono ?_; rintro e w' ⟨A', c', rfl, hx, ho⟩; have H1 := E.blk1 hx rfl; have H2 := E.blk0 hx rfl; try simp only [World.size_alloc, World.size_drew] at H1 H2; obtain ⟨cH1, fH1⟩ := H1.facts; obtain ⟨cH2, fH2⟩ := H2.facts)
  have hE : E.Ext w w' := ((E.Ext.alloc _ _).trans (E.Ext.alloc _ _)).trans hx
  simp only [World.size_alloc] at ho
  refine bodyPost_ret (v := x.val A' c') (by simp [results, Try.results32, go_sem, cH1, cH2, Entry.val]) rfl ⟨A', c', rfl, ?_, ?_⟩
  · repeat (refine E.Ext.setCell ?_ (by simp <;> omega) _)
    exact hE
  · refine own_mono (base := w.heap.size + 1 + 1) ?_ (by omega)
    repeat (refine own_set ?_ (by simp <;> omega) _)
    exact ho

end Go.Proofs.Ytjomgaafnpbmhaa.B
