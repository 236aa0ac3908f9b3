/- Disk: blocks of 256 bytes; block. -/
import Derived.Test.YtcgokafhkkmaoaaMp
import Derived.Deep.MidRow
import Derived.Deep.WholeRow
namespace Go.Proofs.Ytcgokafhkkmaoaa
open Go.RowKit

def cu8 (l : List Int) : List Value := l.map (.int .u8)
theorem cu8_length (l : List Int) : (cu8 l).length = l.length := by simp [cu8]
theorem cu8_one (l : List Int) : ∀ v ∈ cu8 l, v.oneCell' = true := by
  intro v hv
  simp only [cu8, List.mem_map] at hv
  obtain ⟨x, _, rfl⟩ := hv; rfl
def noughts : List Int := List.replicate 256 0
theorem info_block : (Try.prog.info? 37).map (fun i => (i.zero, i.size)) = some (some (.agg (cu8 noughts).toArray), 256) := by kernel_rfl
theorem built_block : Try.prog.built 37 [] = some (cu8 noughts).toArray := by kernel_rfl

def blk (b : Int) : List Int := (List.range 256).map fun (i : Nat) => (b + (i : Int) * 3) % 256
theorem blk_length (b : Int) : (blk b).length = 256 := by simp [blk]

attribute [-simp] Try.isAgg37 Try.sizeOf37 Try.typeInfo37

set_option maxHeartbeats 1000000 in
theorem Blk.range {w : World} {b : Nat} {t : TypeId} {l : List Value} (h : Blk w b t l.toArray) : w.rangeAt b 0 l := fun j v hv => by
  rw [Nat.zero_add, h.cell j]; simpa using hv

theorem Chg.setCells {M : Nat → Prop} {w : World} {b : Nat} (hb : M b ∨ w.heap.size ≤ b) : ∀ (vs : List Value) (o : Nat) (w' : World), Chg M w w' → Chg M w (w'.setCells b o vs)
  | [], _, _, h => h
  | v :: r, o, _, h => Chg.setCells hb r (o + 1) _ (h.setCell (p := ⟨b, o, none⟩) hb v)

end Go.Proofs.Ytcgokafhkkmaoaa
