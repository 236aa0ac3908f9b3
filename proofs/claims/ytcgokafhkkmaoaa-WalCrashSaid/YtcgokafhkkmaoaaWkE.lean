/- Wal: Left, Append. -/
import Derived.Test.YtcgokafhkkmaoaaWkD
namespace Go.Proofs.Ytcgokafhkkmaoaa
open Go.RowKit Go.Maps

theorem wrap64 (x : Int) (h0 : -9223372036854775808 ≤ x) (h1 : x ≤ 9223372036854775807) : IntKind.i64.wrap x = x := by
  simp [IntKind.wrap, IntKind.bits, IntKind.signed]; omega
theorem area_quiet (w : World) (g p : Nat) (first size : Int) (h : RegI w g p first size) (h1 : 0 ≤ size) (h2 : size ≤ 4096) (n : Nat) :
    Calls Try.prog 26 #[.pointer (some ⟨g, 0, none⟩)] (w.drewN n) fun e w' => e = .returned (.int .i64 ((size - 2) * 256)) ∧ ∃ n, w' = w.drewN n :=
  (area_any (w.drewN n) g p first size h h1 h2).mono fun _ _ h => ⟨h.1, n, h.2⟩

set_option maxRecDepth 100000 in
theorem left_any (w : World) (g p : Nat) (S : Nat → Prop) (L : LogS) (h : LogI w g p S L) (h1 : 0 ≤ L.size) (h2 : L.size ≤ 4096) (hB : L.bytes.length ≤ 140737488355328) (hM : L.more.length ≤ 140737488355328) :
    Calls Try.prog 21 #[.pointer (some ⟨g, 0, none⟩)] w fun e w' => e = .returned (.int .i64 (max 0 ((L.size - 2) * 256 - L.bytes.length - L.more.length - 8))) ∧ ∃ n, w' = w.drewN n := by
  have hr := area_quiet w g p L.first L.size h.reg h1 h2
  obtain ⟨bv, mv, _, _, hb, hcs, ho, _⟩ := h
  obtain ⟨A, cap, rfl⟩ := hcs.form
  obtain ⟨A2, cap2, rfl⟩ := ho.form
  have hc := hb.cell
  clear hcs ho
  have e1 : IntKind.i64.wrap ((L.size - 2) * 256 - L.bytes.length) = (L.size - 2) * 256 - L.bytes.length := wrap64 _ (by omega) (by omega)
  have e2 : IntKind.i64.wrap ((L.size - 2) * 256 - L.bytes.length - L.more.length) = (L.size - 2) * 256 - L.bytes.length - L.more.length := wrap64 _ (by omega) (by omega)
  have e3 : IntKind.i64.wrap ((L.size - 2) * 256 - L.bytes.length - L.more.length - 8) = (L.size - 2) * 256 - L.bytes.length - L.more.length - 8 := wrap64 _ (by omega) (by omega)
  go_enter Try.func21, Try.ntmps21
  go_wp2_with fail
  go_quiet ((go_at_call 26; exact hr _))
  go_wp2
  · rw [show max 0 ((L.size - 2) * 256 - L.bytes.length - L.more.length - 8) = (L.size - 2) * 256 - L.bytes.length - L.more.length - 8 by omega]
    go_ret
    exact ⟨rfl, nq, rfl⟩
  · rw [show max 0 ((L.size - 2) * 256 - L.bytes.length - L.more.length - 8) = 0 by omega]
    go_ret
    exact ⟨rfl, nq, rfl⟩

end Go.Proofs.Ytcgokafhkkmaoaa
