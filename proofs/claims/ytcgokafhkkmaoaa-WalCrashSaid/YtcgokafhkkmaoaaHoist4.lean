/- A region that draws its order: some operations taken first, then the orders that are left, step for step. -/
import Derived.Test.YtcgokafhkkmaoaaHoist2
namespace Go.Proofs.Ytcgokafhkkmaoaa
open Go.RowKit

section
variable {P : Program} {ops : Array Oper} {Q : Exit → Act → World → Prop} {S : World → Prop} {late : List Nat}

/-- One operation alone may come. -/
theorem AnyS.one {n i : Nat} {o : Oper} {listed : Array Bool} {a : Act} {w : World} (hr : (Region.ready .any ops listed == [i]) = true) (ho : ops[i]? = some o)
    (h : ∀ Q' : Exit → Act → World → Prop, (∀ a w, (late.contains i = false → S w) → AnyS P ops (NoPanic Q) S late n (listed.setIfInBounds i true) a w → Q' .normal a w) → wpList P ops Q' [o] a w) : AnyS P ops (NoPanic Q) S late (n + 1) listed a w := by
  have hr : Region.ready .any ops listed = [i] := by simpa using hr
  refine ⟨fun h0 => (by rw [hr] at h0; cases h0), fun j hj => ?_⟩
  rw [hr] at hj
  obtain rfl : j = i := by simpa using hj
  exact wpOp_mono (fun a' w' h' => h') (wpList_one ho (h (Exit.then (fun a w => (late.contains j = false → S w) ∧ AnyS P ops (NoPanic Q) S late n (listed.setIfInBounds j true) a w) (NoPanic Q)) (fun a w h1 h2 => ⟨h1, h2⟩)) (fun h => h) (fun _ _ _ h => h))
/-- Two may come. -/
theorem AnyS.two {n i k : Nat} {oi ok : Oper} {listed : Array Bool} {a : Act} {w : World} (hr : (Region.ready .any ops listed == [i, k]) = true) (hi : ops[i]? = some oi) (hk : ops[k]? = some ok)
    (h1 : ∀ Q' : Exit → Act → World → Prop, (∀ a w, (late.contains i = false → S w) → AnyS P ops (NoPanic Q) S late n (listed.setIfInBounds i true) a w → Q' .normal a w) → wpList P ops Q' [oi] a w)
    (h2 : ∀ Q' : Exit → Act → World → Prop, (∀ a w, (late.contains k = false → S w) → AnyS P ops (NoPanic Q) S late n (listed.setIfInBounds k true) a w → Q' .normal a w) → wpList P ops Q' [ok] a w) : AnyS P ops (NoPanic Q) S late (n + 1) listed a w := by
  have hr : Region.ready .any ops listed = [i, k] := by simpa using hr
  refine ⟨fun h0 => (by rw [hr] at h0; cases h0), fun j hj => ?_⟩
  rw [hr] at hj
  simp only [List.mem_cons, List.not_mem_nil, or_false] at hj
  rcases hj with rfl | rfl
  · exact wpOp_mono (fun a' w' h' => h') (wpList_one hi (h1 (Exit.then (fun a w => (late.contains j = false → S w) ∧ AnyS P ops (NoPanic Q) S late n (listed.setIfInBounds j true) a w) (NoPanic Q)) (fun a w h1 h2 => ⟨h1, h2⟩)) (fun h => h) (fun _ _ _ h => h))
  · exact wpOp_mono (fun a' w' h' => h') (wpList_one hk (h2 (Exit.then (fun a w => (late.contains j = false → S w) ∧ AnyS P ops (NoPanic Q) S late n (listed.setIfInBounds j true) a w) (NoPanic Q)) (fun a w h1 h2 => ⟨h1, h2⟩)) (fun h => h) (fun _ _ _ h => h))
/-- None is left. -/
theorem AnyS.none {listed : Array Bool} {a : Act} {w : World} (hr : (Region.ready .any ops listed).isEmpty = true) (h : ∀ Q' : Exit → Act → World → Prop, (∀ a w, Q .normal a w → Q' .normal a w) → wpList P ops Q' [] a w) : AnyS P ops (NoPanic Q) S late 0 listed a w :=
  ⟨by simpa using hr, (h (NoPanic Q) (fun _ _ h => h) : NoPanic Q .normal a w)⟩

theorem wp_region_tree {id : Nat} {a : Act} {w : World} (H : List Nat) (late : List Nat) (n : Nat) (S : World → Prop) (hm : P.follows .mixedOrders = true) (hsel : Region.noSelect ops = true)
    (hall : H.length + n = ops.size) (hok : hoistOk ops late H (Array.replicate ops.size false) = true) (hS : S w.drew) (h : HoistK P ops S H a fun a' => AnyS P ops (NoPanic Q) S late n (listedBy H (Array.replicate ops.size false)) a' w.drew) :
    (Code.region id ops true).wp P Q a w := by
  obtain ⟨a', hH, h⟩ := HoistK.out _ _ _ h
  have hfin := AnyS.hoist (Q := Q) (late := late) hsel hS H n _ a (Closed.start _) hok hH h
  rw [hall] at hfin
  exact wp_region_noPanic (wp_region_any hm (AnyS.any (S := S) (late := late) _ _ _ _ hfin))
end

end Go.Proofs.Ytcgokafhkkmaoaa
