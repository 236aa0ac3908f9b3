/- same: an item is as the reference has it. -/
import Derived.Test.YthlebfhljmcedaaNetU
import Derived.Test.YthlebfhljmcedaaNetT
namespace Go.Proofs.Ythlebfhljmcedaa
open Go.RowKit

theorem same_any (x : It) (bv : Value) (S : Nat → Prop) (w : World) (h : Bs w S bv x.body) :
    Calls Try.prog 14 #[.agg #[.int .i64 x.id, .int .i64 x.fr, .int .i64 x.rc, bv], .agg #[.int .i64 x.id, .int .i64 x.fr, .int .i64 x.rc, .string (str x.body)]] w fun e w' => e = .returned (.bool true) ∧ Below w.heap.size w w' := by
  obtain ⟨A, cap, rfl⟩ := h.form
  have hbl := ((Below.refl w.heap.size w).alloc (Nat.le_refl _) (.cells #[.int .i64 x.id, .int .i64 x.fr, .int .i64 x.rc, .slice A x.body.length cap] 38)).alloc (by simp) (.cells #[.int .i64 x.id, .int .i64 x.fr, .int .i64 x.rc, .string (str x.body)] 42)
  have s1 := run_str (h.below hbl) Try.underlying30 Try.underlying5 Try.underlying9
  go_enter Try.func14, Try.ntmps14
  go_wp2
  go_ret
  exact ⟨rfl, hbl⟩

end Go.Proofs.Ythlebfhljmcedaa
