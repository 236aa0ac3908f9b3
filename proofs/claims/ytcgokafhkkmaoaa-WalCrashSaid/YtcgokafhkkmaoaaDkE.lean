/- Disk: Write in one word. -/
import Derived.Test.YtcgokafhkkmaoaaDkD
namespace Go.Proofs.Ytcgokafhkkmaoaa
open Go.RowKit

set_option maxRecDepth 100000 in
/-- Write where it is refused. -/
theorem write_no (p : Nat) (S : Nat → Prop) (D D' : DS) (ok : Bool) (n r : Int) (l : List Int) (w : World) (h : DiskI w p S D) (hf1 : -9223372036854775808 < D.fuse) (hf2 : D.fuse ≤ 9223372036854775807) (hb : D.begins = (D', ok))
    (hr : (ok = false ∧ r = 44) ∨ (ok = true ∧ (n < 0 ∨ D'.blocks ≤ n) ∧ r = 2) ∨ (ok = true ∧ 0 ≤ n ∧ n < D'.blocks ∧ D'.room ≤ n ∧ r = 42)) :
    Calls Try.prog 14 #[.pointer (some ⟨p, 0, none⟩), .int .i64 n, .agg (cu8 l).toArray] w fun e w' => e = .returned (.int .i64 r) ∧ DiskI w' p S D' ∧ Chg S w w' := by
  have hlt : p < w.heap.size := h.2.1 p h.1
  have ha := (Chg.refl S w).alloc (.cells (cu8 l).toArray 37)
  have H := Lib.hid (begins_any p S D _ (h.alloc (.cells (cu8 l).toArray 37)) hf1 hf2)
  rw [hb] at H
  rcases hr with ⟨rfl, rfl⟩ | ⟨rfl, hn, rfl⟩ | ⟨rfl, hn0, hn1, hn2, rfl⟩
  · go_enter Try.func14, Try.ntmps14
    go_wp2_with (go_at_call 31; refine H.out.mono ?_; rintro e w1 ⟨rfl, h1, c1⟩)
    go_ret
    exact ⟨rfl, h1, ha.trans c1 (fun _ h => .inl h)⟩
  · by_cases hn0 : n < 0
    · clear hn
      go_enter Try.func14, Try.ntmps14
      go_wp2_with (go_at_call 31; refine H.out.mono ?_; rintro e w1 ⟨rfl, h1, c1⟩)
      go_ret
      exact ⟨rfl, h1, ha.trans c1 (fun _ h => .inl h)⟩
    · have hn1 : D'.blocks ≤ n := by omega
      clear hn
      go_enter Try.func14, Try.ntmps14
      go_wp2_with (go_at_call 31; refine H.out.mono ?_; rintro e w1 ⟨rfl, h1, c1⟩
                   have H1 := Lib.hid h1
                   obtain ⟨_, _, m, v, _, hb1, _⟩ := h1
                   have hc := hb1.cell)
      go_ret
      exact ⟨rfl, H1.out, ha.trans c1 (fun _ h => .inl h)⟩
  · have hn0' : ¬ n < 0 := by omega
    have hn1' : ¬ D'.blocks ≤ n := by omega
    go_enter Try.func14, Try.ntmps14
    go_wp2_with (go_at_call 31; refine H.out.mono ?_; rintro e w1 ⟨rfl, h1, c1⟩
                 have H1 := Lib.hid h1
                 obtain ⟨_, _, m, v, _, hb1, _⟩ := h1
                 have hc := hb1.cell)
    go_ret
    exact ⟨rfl, H1.out, ha.trans c1 (fun _ h => .inl h)⟩

theorem write_any (p : Nat) (S : Nat → Prop) (D : DS) (n : Int) (l : List Int) (hl : l.length = 256) (w : World) (h : DiskI w p S D) (hf1 : -9223372036854775808 < D.fuse) (hf2 : D.fuse ≤ 9223372036854775807)
    (hsz : (D.loose.length + 1) * 264 ≤ 140737488355328) :
    Calls Try.prog 14 #[.pointer (some ⟨p, 0, none⟩), .int .i64 n, .agg (cu8 l).toArray] w fun e w' => e = .returned (.int .i64 (D.write n l).2) ∧ ∃ S', DiskI w' p S' (D.write n l).1 ∧ Chg S w w' ∧ ∀ b, S' b → S b ∨ w.heap.size ≤ b := by
  obtain ⟨D', ok, hb⟩ : ∃ D' ok, D.begins = (D', ok) := ⟨_, _, rfl⟩
  have hll : D'.loose = D.loose := by
    have : D.begins.1.loose = D.loose := by unfold DS.begins; split <;> (try split) <;> (try split) <;> rfl
    rw [hb] at this; exact this
  have no : ∀ r, ((ok = false ∧ r = 44) ∨ (ok = true ∧ (n < 0 ∨ D'.blocks ≤ n) ∧ r = 2) ∨ (ok = true ∧ 0 ≤ n ∧ n < D'.blocks ∧ D'.room ≤ n ∧ r = 42)) → D.write n l = (D', r) →
      Calls Try.prog 14 #[.pointer (some ⟨p, 0, none⟩), .int .i64 n, .agg (cu8 l).toArray] w fun e w' => e = .returned (.int .i64 (D.write n l).2) ∧ ∃ S', DiskI w' p S' (D.write n l).1 ∧ Chg S w w' ∧ ∀ b, S' b → S b ∨ w.heap.size ≤ b := by
    intro r hr e
    rw [e]
    exact (write_no p S D D' ok n r l w h hf1 hf2 hb hr).mono fun _ _ ⟨h1, h2, h3⟩ => ⟨h1, S, h2, h3, fun _ hb => .inl hb⟩
  cases ok with
  | false => exact no 44 (.inl ⟨rfl, rfl⟩) (by unfold DS.write; rw [hb]; simp)
  | true =>
    by_cases h1 : n < 0 ∨ D'.blocks ≤ n
    · exact no 2 (.inr (.inl ⟨rfl, h1, rfl⟩)) (by unfold DS.write; rw [hb]; simp [h1])
    · by_cases h2 : D'.room ≤ n
      · exact no 42 (.inr (.inr ⟨rfl, by omega, by omega, h2, rfl⟩)) (by unfold DS.write; rw [hb]; simp [h1, h2])
      · have e : D.write n l = ({ D' with loose := D'.loose ++ [(n, l)] }, 0) := by unfold DS.write; rw [hb]; simp [h1, h2]
        rw [e]
        exact write_room p S D D' n l hl w h hf1 hf2 hb (by omega) (by omega) (by omega) (by rw [hll]; exact hsz)

end Go.Proofs.Ytcgokafhkkmaoaa
