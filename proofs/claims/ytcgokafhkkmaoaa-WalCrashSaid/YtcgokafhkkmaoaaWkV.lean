/- Wal: the laws' arguments opened. -/
import Derived.Test.YtcgokafhkkmaoaaWkU
import Derived.Test.YtcgokafhkkmaoaaLawRows
namespace Go.Proofs.Ytcgokafhkkmaoaa
open Go.ChangeShapes Go.WideShapes Go.ChangeAt Go.RowKit Go.Deep

theorem own_knob : ownKnob Try.prog.godebug = none := by kernel_rfl
theorem laid_out : laidOutB Try.prog = true := by kernel_rfl
theorem cells_u8 : Try.prog.cellsOf 5 = 1 := by kernel_rfl
theorem bytes_u8 : Try.prog.bytesOf 5 = 1 := by kernel_rfl
theorem cells_row : Try.prog.cellsOf 32 = 1 := by kernel_rfl

theorem open_rows1 {H : Type} {enc : TypeId × Value → H} {W : World} {fuel : Nat} {v : Value} {x : DataW H × List MemPlace} (h : DataW.trod enc Try.prog W 0 (fun _ => true) true fuel 22 [v] = some x) :
    ∃ rows : List (List UInt8), (∀ n ∈ x.1.weights Try.prog 22, n ≤ reachBytes) → Bsr W (fun b => b < W.heap.size) v rows := by
  obtain ⟨rows, hr⟩ := open_rows (X := List UInt8) (fun u x => Bs W (fun b => b < W.heap.size) u x) Try.underlying22 cells_row (fun n u y hy => by
    obtain ⟨bs, hbs⟩ := open_bytes (v := u) Try.underlying32 Try.underlying5 cells_u8 hy
    exact ⟨bs, fun hw => hbs hw bytes_u8⟩) h
  exact ⟨rows, fun hw => by obtain ⟨us, h1, h2⟩ := hr hw; exact ⟨us, h1, h2⟩⟩

end Go.Proofs.Ytcgokafhkkmaoaa
