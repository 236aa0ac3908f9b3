/- Wal: a region of a disk: fits, area. -/
import Derived.Test.YtcgokafhkkmaoaaWkB
import Derived.Deep.QuietTactic
import Derived.BigQuiet
namespace Go.Proofs.Ytcgokafhkkmaoaa
open Go.RowKit Go.Maps

/-- A region lies at the head of a block (of its own, or a log's). -/
def RegI (w : World) (g p : Nat) (first size : Int) : Prop := w.cell? ⟨g, 0, none⟩ = some (.pointer (some ⟨p, 0, none⟩)) ∧ w.cell? ⟨g, 1, none⟩ = some (.int .i64 first) ∧ w.cell? ⟨g, 2, none⟩ = some (.int .i64 size)

theorem area_any (w : World) (g p : Nat) (first size : Int) (h : RegI w g p first size) (h1 : 0 ≤ size) (h2 : size ≤ 4096) :
    Calls Try.prog 26 #[.pointer (some ⟨g, 0, none⟩)] w fun e w' => e = .returned (.int .i64 ((size - 2) * 256)) ∧ w' = w := by
  obtain ⟨_, _, hc⟩ := h
  go_enter Try.func26, Try.ntmps26
  go_wp2
  go_ret
  exact ⟨rfl, rfl⟩

def fitsB (blocks first size : Int) : Bool := decide (0 ≤ first) && decide (2 < size) && decide (size ≤ blocks) && decide (first ≤ blocks - size)

set_option maxRecDepth 100000 in
theorem fits_any (w : World) (g p : Nat) (S : Nat → Prop) (D : DS) (first size : Int) (hd : DiskI w p S D) (h : RegI w g p first size) (hw : IntKind.i64.wrap (D.blocks - size) = D.blocks - size) :
    Calls Try.prog 22 #[.pointer (some ⟨g, 0, none⟩)] w fun e w' => e = .returned (.bool (fitsB D.blocks first size)) ∧ ∃ n, w' = w.drewN n := by
  obtain ⟨hc0, hc1, hc2⟩ := h
  have hbl : ∀ n, Calls Try.prog 32 #[.pointer (some ⟨p, 0, none⟩)] (w.drewN n) fun e w' => e = .returned (.int .i64 D.blocks) ∧ ∃ n, w' = w.drewN n := fun n =>
    (blocks_any p S D (w.drewN n) (hd.keep (Nat.le_refl _) (fun _ _ => rfl))).mono fun _ _ h => ⟨h.1, n, h.2⟩
  by_cases h1 : 0 ≤ first
  · by_cases h2 : 2 < size
    · by_cases h3 : size ≤ D.blocks
      · go_enter Try.func22, Try.ntmps22
        go_wp2_with fail
        go_quiet ((go_at_call 32; exact hbl _))
        go_wp2
        go_ret
        exact ⟨by simp [fitsB, h1, h2, h3], nq, rfl⟩
      · have hd3 : decide (size ≤ D.blocks) = false := by simpa using h3
        go_enter Try.func22, Try.ntmps22
        go_wp2_with fail
        go_quiet ((go_at_call 32; exact hbl _))
        go_wp2
        go_ret
        exact ⟨by simp [fitsB, h1, h2, hd3], nq, rfl⟩
    · have hd2 : decide (2 < size) = false := by simpa using h2
      go_enter Try.func22, Try.ntmps22
      go_wp2_with fail
      go_quiet ((go_at_call 32; exact hbl _))
      go_wp2
      go_ret
      exact ⟨by simp [fitsB, h1, hd2], nq, rfl⟩
  · have hd1 : decide (0 ≤ first) = false := by simpa using h1
    go_enter Try.func22, Try.ntmps22
    go_wp2_with fail
    go_quiet ((go_at_call 32; exact hbl _))
    go_wp2
    go_ret
    exact ⟨by simp [fitsB, hd1], nq, rfl⟩

end Go.Proofs.Ytcgokafhkkmaoaa
