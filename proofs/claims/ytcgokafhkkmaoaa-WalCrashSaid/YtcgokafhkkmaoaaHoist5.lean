/- A region that draws its order: operations taken first in the midst of it. -/
import Derived.Test.YtcgokafhkkmaoaaHoist4
namespace Go.Proofs.Ytcgokafhkkmaoaa
open Go.RowKit

section
variable {P : Program} {ops : Array Oper} {Q : Exit → Act → World → Prop} {S : World → Prop} {late : List Nat}

def closedB (ops : Array Oper) (listed : Array Bool) : Bool := (List.range ops.size).all fun k => !(listed.getD k false) || ((ops[k]?).map fun o => o.after.all fun e => !(Region.binds .any e) || listed.getD e.on false).getD true
theorem Closed.of_check {listed : Array Bool} (h : closedB ops listed = true) : Closed ops listed := by
  intro k o hk ho e he hb
  have hlt : k < ops.size := by
    rcases Nat.lt_or_ge k ops.size with h | h
    · exact h
    · rw [Array.getElem?_eq_none h] at ho; cases ho
  have := List.all_eq_true.1 h k (List.mem_range.2 hlt)
  rw [hk, ho] at this
  simp only [Bool.not_true, Bool.false_or, Option.map_some, Option.getD_some] at this
  have := Array.all_eq_true'.1 this e he
  rw [hb] at this
  simpa using this

theorem AnyS.mid (H : List Nat) {n : Nat} {listed : Array Bool} {a : Act} {w : World} (hsel : Region.noSelect ops = true) (hcl : closedB ops listed = true) (hok : hoistOk ops late H listed = true) (hS : S w)
    (h : HoistK P ops S H a fun a' => AnyS P ops (NoPanic Q) S late n (listedBy H listed) a' w) : AnyS P ops (NoPanic Q) S late (H.length + n) listed a w := by
  obtain ⟨a', hH, h⟩ := HoistK.out _ _ _ h
  exact AnyS.hoist (Q := Q) (late := late) hsel hS H n _ a (Closed.of_check hcl) hok hH h
end

end Go.Proofs.Ytcgokafhkkmaoaa
