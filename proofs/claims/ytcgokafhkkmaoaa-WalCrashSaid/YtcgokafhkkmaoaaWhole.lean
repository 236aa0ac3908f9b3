/- Whole blocks stored and loaded. -/
import Derived.Test.YtcgokafhkkmaoaaWkA
namespace Go.Proofs.Ytcgokafhkkmaoaa
open Go.RowKit

section
variable {P : Program} {ops : Array Oper} {rest : List Oper} {op : Oper} {a : Act} {w : World} {Q : Exit → Act → World → Prop}
theorem wpList_store_blk (hgd : op.guard = none) (ty : TypeId) (x y : Operand) (ho : op.op = .store ty x y) {X : Nat} {t : TypeId} {cs0 cs : List Value} (hb : Blk w X t cs0.toArray) (hx : a.eval x = .pointer (some ⟨X, 0, none⟩)) (hy : a.eval y = .agg cs.toArray)
    (hl : cs0.length = cs.length) (hi : (P.info? ty).map (·.size) = some cs.length) (h1 : ∀ v ∈ cs, v.oneCell' = true) (h : ∀ w', Blk w' X t cs.toArray → Chg (fun b => b = X) w w' → wpList P ops Q rest (a.put op.dst undef) w') : wpList P ops Q (op :: rest) a w := by
  refine wpList_store_mid hgd ty x y ho X 0 cs.toArray hx hy (fun j hj => ?_) (by simpa using hi) (all_oneCell_toArray h1) ?_
  · rw [Nat.zero_add, hb.cell]
    simp only [List.size_toArray] at hj
    exact ⟨by simp [hl, hj], hb.frozen _⟩
  · refine h _ ?_ (Chg.setCells (M := fun b => b = X) (.inl rfl) _ _ _ (Chg.refl _ w))
    have := Blk.setCells cs 0 w cs0 hb (by omega)
    simpa [hl, List.drop_of_length_le] using this
theorem wpList_load_blk (hgd : op.guard = none) (ty : TypeId) (x : Operand) (ho : op.op = .load ty x) {X : Nat} {t : TypeId} {cs : List Value} (hb : Blk w X t cs.toArray) (hx : a.eval x = .pointer (some ⟨X, 0, none⟩)) {n : Nat} {e : TypeId} (hu : P.underlying ty = some (.array n e))
    (hi : (P.info? ty).map (·.size) = some cs.length) (h : wpList P ops Q rest (a.put op.dst (.agg cs.toArray)) w) : wpList P ops Q (op :: rest) a w :=
  wpList_load_mid hgd ty x ho X 0 hx cs _ hb.range hu rfl hi h
end

end Go.Proofs.Ytcgokafhkkmaoaa
