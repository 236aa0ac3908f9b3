/- A map keyed by int, known as a function: elements read as they stand. -/
import Derived.Test.YtcgokafhkkmaoaaLib
import Derived.Maps.OwnSet
import Derived.Maps.Views
namespace Go.Proofs.Ytcgokafhkkmaoaa
open Go.RowKit Go.Maps

/-- An element reads as itself. -/
def heldE (v : Value) : Option (DataW Value × List MemPlace) := some (.held v, [])
/-- Block m is a map of at most n entries, under key i the value f i. -/
def MapI (P : Program) (k : TypeId) (w : World) (m n : Nat) (f : Int → Option Value) : Prop :=
  ∃ D : DataW Value, w.ownsMap P k heldE m n D ∧ ∀ i : Int, (Lit.int .i64 i).wf = true → ∀ z, D.atKey (.int .i64 i) z = (f i).elim z .held

section
variable {P : Program} {k e t : TypeId} {w w' : World} {m n : Nat} {f : Int → Option Value}
theorem MapI.lt (h : MapI P k w m n f) : m < w.heap.size := by obtain ⟨D, h, _⟩ := h; exact h.lt
theorem MapI.keep (h : MapI P k w m n f) (hk : w'.heap[m]? = w.heap[m]?) : MapI P k w' m n f := by
  obtain ⟨D, ⟨es, clock, hb, F, hs, hD⟩, hf⟩ := h
  exact ⟨D, ⟨es, clock, hk.trans hb, F, hs, hD⟩, hf⟩
theorem MapI.chg {M : Nat → Prop} (h : MapI P k w m n f) (hc : Chg M w w') (hd : ¬ M m) : MapI P k w' m n f := h.keep (hc.block m h.lt hd)
theorem MapI.below (h : MapI P k w m n f) (hb : Below w.heap.size w w') : MapI P k w' m n f := h.keep (hb.block m h.lt)
theorem MapI.alloc (h : MapI P k w m n f) (o : Obj) : MapI P k (w.alloc o) m n f := h.keep (Below.heap_alloc w o m h.lt)
theorem MapI.mono (h : MapI P k w m n f) {n' : Nat} (hn : n ≤ n') : MapI P k w m n' f := by obtain ⟨D, h, hf⟩ := h; exact ⟨D, h.mono hn, hf⟩
theorem MapI.made (P : Program) (k : TypeId) (w : World) : MapI P k (w.alloc (.map #[] 0)) w.heap.size 0 (fun _ => none) :=
  ⟨.map [], World.ownsMap_made w P k heldE, fun i _ z => by simp [DataW.atKey]⟩
theorem MapI.clone (h : MapI P k w m n f) : ∃ es clock, w.heap[m]? = some (.map es clock) ∧ MapI P k (w.alloc (.map es clock)) w.heap.size n f := by
  obtain ⟨D, ⟨es, clock, hb, F, hs, hD⟩, hf⟩ := h
  exact ⟨es, clock, hb, D, ⟨es, clock, (MapKept.heap_alloc w _).1, F, hs, hD⟩, hf⟩

theorem MapI.lookup (h : MapI P k w m n f) (hk : P.underlying k = some (.int .i64)) (ht : P.underlying t = some (.map k e)) {z : Value} (hz : (zeroValue e).run P w = .ok z w) {i : Int} (hi : (Lit.int .i64 i).wf = true) :
    (Instr.lookup t (.map (some m)) (.int .i64 i) false).run P w = .ok ((f i).getD z) w := by
  obtain ⟨D, ho, hf⟩ := h
  obtain ⟨v, ps, hrun, hv⟩ := ho.lookup (int_keyed hk) ht hz (zd := .held z) (zp := []) rfl (keyOf_int_mk hk hi)
  rw [hf i hi] at hv
  rw [hrun]
  cases hfi : f i with
  | none => rw [hfi] at hv; simp [heldE] at hv; rw [hv.1]; rfl
  | some u => rw [hfi] at hv; simp [heldE] at hv; rw [hv.1]; rfl

theorem MapI.put (h : MapI P k w m n f) (hk : P.underlying k = some (.int .i64)) (ht : P.underlying t = some (.map k e)) (hn : n < maxLen) {i : Int} (hi : (Lit.int .i64 i).wf = true) (v : Value) :
    ∃ w', (Instr.mapUpdate t (.map (some m)) (.int .i64 i) v).run P w = .ok () w' ∧ MapI P k w' m (n + 1) (fun j => if j = i then some v else f j) ∧ Chg (fun b => b = m) w w' := by
  obtain ⟨D, ho, hf⟩ := h
  have hm := ho.isMap
  obtain ⟨w', hrun, h1, hg⟩ := ho.update (int_keyed hk) ht hn (key := .int .i64 i) (val := v) (kl := .int .i64 i) (d := .held v) (ps := []) (keyOf_int_mk hk hi) rfl
  refine ⟨w', hrun, ⟨_, h1, fun j hj z => ?_⟩, ⟨hg.os, hg.tape, hg.output, hg.size, fun b hb hne => hg.block b hb (fun e => hne (by injection e))⟩⟩
  by_cases e : j = i
  · subst e
    rw [atKey_put_same hm (by simp [WideAt.IsKeyLit])]
    simp
  · rw [atKey_put_other (by intro e'; injection e' with _ e'; exact e e'), hf j hj]
    simp [e]
end

end Go.Proofs.Ytcgokafhkkmaoaa
