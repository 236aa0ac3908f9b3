/- Arguments opened: rows of rows. -/
import Derived.Test.YtcgokafhkkmaoaaLaw
namespace Go.Proofs.Ytcgokafhkkmaoaa
open Go.ChangeShapes Go.WideShapes Go.ChangeAt Go.RowKit Go.Deep

section
variable {H : Type} {enc : TypeId × Value → H} {P : Program} {w : World} {base : Nat} {held : Bool}
theorem open_rows {X : Type} [Inhabited X] (Q : Value → X → Prop) {t e : TypeId} {fuel : Nat} {v : Value} {x : DataW H × List MemPlace} (ht : P.underlying t = some (.slice e)) (hc : P.cellsOf e = 1)
    (hQ : ∀ (n : Nat) (u : Value) (y : DataW H × List MemPlace), DataW.trod enc P w base (fun _ => true) held n e [u] = some y → ∃ x : X, (∀ n ∈ y.1.weights P e, n ≤ reachBytes) → Q u x)
    (h : DataW.trod enc P w base (fun _ => true) held fuel t [v] = some x) :
    ∃ xs : List X, (∀ n ∈ x.1.weights P t, n ≤ reachBytes) → ∃ us, Cs w (fun b => b < w.heap.size) 1 v xs.length us ∧ ∀ (i : Nat) (x : X) (u : Value), xs[i]? = some x → us[i]? = some u → Q u x := by
  rcases open_slice1 ht hc h with ⟨hcs, hx⟩ | ⟨a, len, cap, m, n, V, D, Pl, hcs, _, hl, hm, hmm, hx, hi⟩
  · obtain rfl : v = .slice none 0 0 := by simpa using hcs
    exact ⟨[], fun _ => ⟨[], Cs.nil_ _ _ _, fun i x u h => by simp at h⟩⟩
  · obtain rfl : v = .slice (some a) len cap := by simpa using hcs
    simp only [if_true] at hmm
    obtain ⟨F, hF⟩ := choose_lt (α := X) (p := fun i x => (∀ n ∈ (D i).weights P e, n ≤ reachBytes) → Q (V i) x) (n := len) (fun i hil => hQ n (V i) _ (hi i (by omega)).2)
    refine ⟨(List.range len).map F, fun hw => ⟨(List.range len).map V, ⟨by simp, some a, cap, by simp, by simpa using hl, hm, fun hpos => ?_⟩, fun i y u h1 h2 => ?_⟩⟩
    · have hpos : 0 < len := by simpa using hpos
      obtain ⟨b, off, spot⟩ := a
      have hc0 := (hi 0 (by omega)).1
      obtain rfl : spot = none := by simpa [Addr.add] using World.cell?_spot hc0
      refine ⟨b, off, rfl, by have := World.block_lt_of_cell? _ _ hc0; simpa [Addr.add] using this, by have := World.block_lt_of_cell? _ _ hc0; simpa [Addr.add] using this, fun j u hu => ?_⟩
      rw [List.getElem?_map] at hu
      have hj : j < len := by
        rcases Nat.lt_or_ge j len with h | h
        · exact h
        · rw [List.getElem?_eq_none (by simpa using h)] at hu; cases hu
      have hcj := (hi j (by omega)).1
      rw [add_plain] at hcj
      rw [hcj, ← hu, List.getElem?_range hj]
      rfl
    · rw [List.getElem?_map] at h1 h2
      have hj : i < len := by
        rcases Nat.lt_or_ge i len with h | h
        · exact h
        · rw [List.getElem?_eq_none (by simpa using h)] at h1; cases h1
      rw [List.getElem?_range hj] at h1 h2
      injection h1 with h1
      injection h2 with h2
      subst h1 h2
      refine hF i hj ?_
      rw [hx] at hw
      exact weights_elem ht hw (List.mem_map.2 ⟨i, List.mem_range.2 hj, rfl⟩)
end

end Go.Proofs.Ytcgokafhkkmaoaa
