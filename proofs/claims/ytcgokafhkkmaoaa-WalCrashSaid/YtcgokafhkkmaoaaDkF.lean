/- Disk: New. -/
import Derived.Test.YtcgokafhkkmaoaaDkE
namespace Go.Proofs.Ytcgokafhkkmaoaa
open Go.RowKit

def DS.new (n : Int) : DS := ⟨n, n, -1, false, fun _ => none, [], 0⟩
theorem dnew_any (n : Int) (h1 : 1 ≤ n) (h2 : n ≤ 4096) (w : World) :
    Calls Try.prog 7 #[.int .i64 n] w fun e w' => ∃ p S, e = .returned (.pointer (some ⟨p, 0, none⟩)) ∧ DiskI w' p S (DS.new n) ∧ Below w.heap.size w w' ∧ ∀ b, S b → w.heap.size ≤ b := by
  have h3 : ¬ n < 1 := by omega
  have h4 : ¬ 4096 < n := by omega
  have hmk := fun w => run_makeMap (P := Try.prog) 48 w
  go_enter Try.func7, Try.ntmps7
  go_wp2
  go_ret
  have hm : MapI Try.prog 3 (w.alloc (.map #[] 0)) w.heap.size 0 (fun _ => none) := MapI.made _ _ w
  refine ⟨w.heap.size + 1, rfl, fun b => b = w.heap.size ∨ b = w.heap.size + 1, ⟨.inr rfl, ?_, w.heap.size, .slice none 0 0, .inl rfl, (by have := Blk.new (w.alloc (.map #[] 0)) 51 #[.int .i64 n, .int .i64 n, .int .i64 (-1), .bool false, .map (some w.heap.size), .slice none 0 0]; rw [World.size_alloc] at this; exact this), Own.nil_ _ _ _, fun k hk => by simp [Value.ownBlock] at hk, hm.alloc _⟩, ((Below.refl _ w).alloc (Nat.le_refl _) _).alloc (by simp) _, ?_⟩
  · rintro b (rfl | rfl) <;> simp only [World.size_alloc] <;> omega
  · rintro b (rfl | rfl) <;> omega
theorem dnew_nil (n : Int) (h : n < 1 ∨ 4096 < n) (w : World) :
    Calls Try.prog 7 #[.int .i64 n] w fun e w' => e = .returned (.pointer none) ∧ w' = w := by
  by_cases h1 : n < 1
  · go_enter Try.func7, Try.ntmps7
    go_wp2
    go_ret
    exact ⟨rfl, rfl⟩
  · have h2 : 4096 < n := by omega
    go_enter Try.func7, Try.ntmps7
    go_wp2
    go_ret
    exact ⟨rfl, rfl⟩

end Go.Proofs.Ytcgokafhkkmaoaa
