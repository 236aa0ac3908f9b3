/- Plain: the network as a list of items; what each call makes of it. No program in sight. -/
import Derived.Test.YthlebfhljmcedaaLib
namespace Go.Proofs.Ythlebfhljmcedaa
open Go.RowKit

/-- An item: its number, sender, receiver, bytes. -/
structure It where
  id : Int
  fr : Int
  rc : Int
  body : List UInt8

/-- An item, and the slice value that holds its bytes. -/
structure GI where
  it : It
  bv : Value

def GI.cells (g : GI) : List Value := [.int .i64 g.it.id, .int .i64 g.it.fr, .int .i64 g.it.rc, g.bv]
def flat (gs : List GI) : List Value := gs.flatMap GI.cells
theorem flat_length (gs : List GI) : (flat gs).length = gs.length * 4 := by
  induction gs with
  | nil => rfl
  | cons g r ih => simp only [flat, List.flatMap_cons, List.length_append, List.length_cons] at ih ⊢; simp only [GI.cells, List.length_cons, List.length_nil]; omega
theorem flat_cons (g : GI) (gs : List GI) : flat (g :: gs) = g.cells ++ flat gs := by simp [flat]
theorem flat_append (a b : List GI) : flat (a ++ b) = flat a ++ flat b := by simp [flat]
theorem flat_get (gs : List GI) : ∀ (k : Nat) (g : GI), gs[k]? = some g → ∀ j, j < 4 → (flat gs)[k * 4 + j]? = g.cells[j]? := by
  induction gs with
  | nil => intro k g h; simp at h
  | cons x r ih =>
    intro k g h j hj
    rw [flat_cons]
    rcases k with _ | k
    · obtain rfl : x = g := by simpa using h
      rw [List.getElem?_append_left (by simp [GI.cells]; omega)]
      simp
    · rw [List.getElem?_append_right (by simp [GI.cells]; omega)]
      have h' : r[k]? = some g := by simpa using h
      have := ih k g h' j hj
      rw [← this]
      congr 1
      simp [GI.cells]; omega
theorem flat_cells (gs : List GI) (k : Nat) (g : GI) (h : gs[k]? = some g) :
    (flat gs)[k * 4]? = some (.int .i64 g.it.id) ∧ (flat gs)[k * 4 + 1]? = some (.int .i64 g.it.fr) ∧ (flat gs)[k * 4 + 2]? = some (.int .i64 g.it.rc) ∧ (flat gs)[k * 4 + 3]? = some g.bv :=
  ⟨flat_get gs k g h 0 (by omega), flat_get gs k g h 1 (by omega), flat_get gs k g h 2 (by omega), flat_get gs k g h 3 (by omega)⟩
/-- An element of a slice of items, as the walk spells its cells. -/
theorem items_at {w : World} {S : Nat → Prop} {A : Option Addr} {n cap : Nat} {gs : List GI} (h : Cs w S 4 (.slice A n cap) gs.length (flat gs)) {k : Nat} (hk : k < gs.length) :
    ∃ b off, A = some ⟨b, off, none⟩ ∧ S b ∧ b < w.heap.size ∧ w.cell? ⟨b, off + k * 4, none⟩ = some (.int .i64 gs[k].it.id) ∧ w.cell? ⟨b, off + k * 4 + 1, none⟩ = some (.int .i64 gs[k].it.fr) ∧
      w.cell? ⟨b, off + k * 4 + 2, none⟩ = some (.int .i64 gs[k].it.rc) ∧ w.cell? ⟨b, off + k * 4 + 3, none⟩ = some gs[k].bv := by
  obtain ⟨_, A', cap', e, _, _, hp⟩ := h
  injection e with e1 e2 e3
  subst e1
  obtain ⟨b, off, rfl, hs, hb, hc⟩ := hp (by omega)
  obtain ⟨f0, f1, f2, f3⟩ := flat_cells gs k _ (List.getElem?_eq_getElem hk)
  exact ⟨b, off, rfl, hs, hb, hc _ _ f0, by rw [Nat.add_assoc]; exact hc _ _ f1, by rw [Nat.add_assoc]; exact hc _ _ f2, by rw [Nat.add_assoc]; exact hc _ _ f3⟩
theorem flat_take (gs : List GI) (k : Nat) : (flat gs).take (k * 4) = flat (gs.take k) := by
  induction gs generalizing k with
  | nil => simp [flat]
  | cons x r ih =>
    rcases k with _ | k
    · simp [flat]
    · rw [List.take_succ_cons, flat_cons, flat_cons, List.take_append, ← ih k]
      have : (k + 1) * 4 - x.cells.length = k * 4 := by simp [GI.cells]; omega
      rw [this, List.take_of_length_le (by simp [GI.cells]; omega)]
theorem flat_drop (gs : List GI) (k : Nat) : (flat gs).drop (k * 4) = flat (gs.drop k) := by
  induction gs generalizing k with
  | nil => simp [flat]
  | cons x r ih =>
    rcases k with _ | k
    · simp [flat]
    · rw [List.drop_succ_cons, flat_cons, List.drop_append, ← ih k]
      have : (k + 1) * 4 - x.cells.length = k * 4 := by simp [GI.cells]; omega
      rw [this, List.drop_of_length_le (by simp [GI.cells]; omega), List.nil_append]

/-- Where the first item with this number stands. -/
def at_ (l : List It) (k : Int) : Option Nat := l.findIdx? (fun x => x.id == k)
def atInt (l : List It) (k : Int) : Int := match at_ l k with | some i => (i : Int) | none => -1
theorem atInt_found (l : List It) (k : Int) (i : Nat) (x : It) (h : l[i]? = some x) (hx : (x.id == k) = true) (hb : ∀ (j : Nat) (y : It), j < i → l[j]? = some y → (y.id == k) = false) : atInt l k = i := by
  have : at_ l k = some i := by
    unfold at_
    rw [List.findIdx?_eq_some_iff_getElem]
    have hlt := (List.getElem?_eq_some_iff.1 h).1
    refine ⟨hlt, ?_, fun j hj => ?_⟩
    · have e := (List.getElem?_eq_some_iff.1 h).2
      rw [e]; exact hx
    · have := hb j l[j] hj (List.getElem?_eq_getElem (by omega))
      simp [this]
  simp [atInt, this]
theorem atInt_none (l : List It) (k : Int) (hb : ∀ (j : Nat) (y : It), l[j]? = some y → (y.id == k) = false) : atInt l k = -1 := by
  have : at_ l k = none := by
    unfold at_
    rw [List.findIdx?_eq_none_iff]
    intro x hx
    obtain ⟨j, hj⟩ := List.getElem?_of_mem hx
    exact hb j x hj
  simp [atInt, this]

theorem at_lt {l : List It} {k : Int} {i : Nat} (h : at_ l k = some i) : i < l.length := by
  unfold at_ at h
  rw [List.findIdx?_eq_some_iff_getElem] at h
  exact h.1
/-- A network: how many may wait, the last number, what waits. -/
structure NS where
  most : Int
  last : Int
  l : List It
/-- add: the network behind it, the number, the error. -/
def NS.add (N : NS) (fr rc : Int) (body : List UInt8) : NS × Int × Int :=
  if N.most ≤ N.l.length then (N, 0, 42) else (⟨N.most, N.last + 1, N.l ++ [⟨N.last + 1, fr, rc, body⟩]⟩, N.last + 1, 0)
/-- Take: the network behind it, the item, the error. -/
def NS.take (N : NS) (k : Int) : NS × It × Int :=
  match at_ N.l k with
  | none => (N, ⟨0, 0, 0, []⟩, 32)
  | some i => (⟨N.most, N.last, N.l.eraseIdx i⟩, N.l.getD i ⟨0, 0, 0, []⟩, 0)
def NS.double (N : NS) (k : Int) : NS × Int × Int :=
  match at_ N.l k with
  | none => (N, 0, 32)
  | some i => N.add (N.l.getD i ⟨0, 0, 0, []⟩).fr (N.l.getD i ⟨0, 0, 0, []⟩).rc (N.l.getD i ⟨0, 0, 0, []⟩).body

end Go.Proofs.Ythlebfhljmcedaa
