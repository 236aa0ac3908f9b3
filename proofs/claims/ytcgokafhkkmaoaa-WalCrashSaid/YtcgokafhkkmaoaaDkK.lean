/- Disk: two blocks held against each other; fixed. -/
import Derived.Test.YtcgokafhkkmaoaaDkI
import Derived.Test.YtcgokafhkkmaoaaHoist3
import Derived.ChangeKeysEq
namespace Go.Proofs.Ytcgokafhkkmaoaa
open Go.RowKit Go.Maps

attribute [-simp] Try.isAgg37 Try.sizeOf37 Try.typeInfo37 Try.isAgg67 Try.sizeOf67 Try.typeInfo67

theorem cells_u8' : Try.prog.cellsOf 5 = 1 := by kernel_rfl
theorem info_u8_some : (Try.prog.info? 5).isSome = true := by kernel_rfl
theorem run_eqItems_u8 (d : Nat) (w : World) (xs ys : List Int) (n : Nat) (hx : xs.length = n) (hy : ys.length = n) : ∀ is : List Nat, (∀ i ∈ is, i < n) →
    (Op.eqItems (d + 1) 5 1 (cu8 xs).toArray (cu8 ys).toArray is).run Try.prog w = .ok (is.all fun i => xs.getD i 0 == ys.getD i 0) w
  | [], _ => by simp [Op.eqItems]
  | i :: r, h => by
    have hi : i < n := h i (List.mem_cons_self ..)
    have ih := run_eqItems_u8 d w xs ys n hx hy r (fun j hj => h j (List.mem_cons_of_mem _ hj))
    have px : ∀ zs : List Int, zs.length = n → (part 5 (cu8 zs).toArray (i * 1)).run Try.prog w = .ok (.int .u8 (zs.getD i 0)) w := fun zs hz => by
      simp [part, isAgg, run_underlying Try.underlying5, cu8, List.getElem?_eq_getElem (show i < zs.length by omega)]
    have pe : (Op.equalIn (d + 1) 5 (.int .u8 (xs.getD i 0)) (.int .u8 (ys.getD i 0))).run Try.prog w = .ok (xs.getD i 0 == ys.getD i 0) w := by
      rw [run_equalIn_int w d 5 .u8 .u8 _ _ Try.underlying5]
    simp only [Op.eqItems, Sem.run_bind, px xs hx, px ys hy, pe, Result.andThen_ok, List.all_cons]
    cases hb : (xs.getD i 0 == ys.getD i 0)
    · simp
    · simpa using ih

theorem all_range_eq (xs ys : List Int) (n : Nat) (hx : xs.length = n) (hy : ys.length = n) : ((List.range n).all fun i => xs.getD i 0 == ys.getD i 0) = decide (xs = ys) := by
  rw [Bool.eq_iff_iff, List.all_eq_true, decide_eq_true_iff]
  constructor
  · intro h
    apply List.ext_getElem (hx.trans hy.symm)
    intro i h1 h2
    have := h i (List.mem_range.2 (by omega))
    simpa [List.getElem?_eq_getElem h1, List.getElem?_eq_getElem h2] using this
  · intro h i _
    rw [h]; simp

theorem run_equal_block (w : World) (xs ys : List Int) (hx : xs.length = 256) (hy : ys.length = 256) : (Op.equalIn 10000 37 (.agg (cu8 xs).toArray) (.agg (cu8 ys).toArray)).run Try.prog w = .ok (decide (xs = ys)) w := by
  obtain ⟨i, hi⟩ := Option.isSome_iff_exists.1 info_u8_some
  rw [run_equalIn_array w 9999 _ _ Try.underlying37 hi, cells_u8', ← all_range_eq xs ys 256 hx hy]
  exact run_eqItems_u8 9998 w xs ys 256 hx hy _ (fun i hi => List.mem_range.1 hi)
theorem run_eql_block (w : World) (xs ys : List Int) (hx : xs.length = 256) (hy : ys.length = 256) : (binOp .eql 37 (.agg (cu8 xs).toArray) (.agg (cu8 ys).toArray)).run Try.prog w = .ok (.bool (decide (xs = ys))) w := by
  rw [run_eql_struct, run_equal_block w xs ys hx hy]; rfl
theorem run_neq_block (w : World) (xs ys : List Int) (hx : xs.length = 256) (hy : ys.length = 256) : (binOp .neq 37 (.agg (cu8 xs).toArray) (.agg (cu8 ys).toArray)).run Try.prog w = .ok (.bool (!decide (xs = ys))) w := by
  rw [run_neq_struct, run_equal_block w xs ys hx hy]; rfl

end Go.Proofs.Ytcgokafhkkmaoaa
