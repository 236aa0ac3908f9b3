/- WalOld returns true at every input and leaves its arguments as they were. Conditions: none beside the row's own. -/
import Derived.Test.YtcgokafhkkmaoaaWkV
import Derived.Test.YtcgokafhkkmaoaaWkW
namespace Go.Proofs.Ytcgokafhkkmaoaa.lawWalOld
open Go.ChangeShapes Go.WideShapes Go.ChangeAt Go.RowKit Go.Deep

theorem calls {H : Type} {enc : TypeId × Value → H} (W : World) (base : Nat) (args : Array Value) (ds : List (DataW H)) (ps : List MemPlace)
    (hval : ∀ (j : Nat) t v, Try.f4.params[j]? = some t → args[j]? = some v → Value.okWide Try.prog W .any base t v)
    (hA : DataW.TrodAll enc Try.prog W 0 (fun _ => true) true Try.f4.params.toList args.toList ds ps)
    (hsz : (DataW.weightsEach Try.prog Try.f4.params.toList ds).all (· ≤ reachBytes) = true) :
    Calls Try.prog 4 args W fun e W' => e = .returned (.bool true) ∧ Below W.heap.size W W' := by
  rw [Try.params4] at hA hval hsz
  obtain ⟨v0, v1, v2, d0, d1, d2, p0, p1, p2, rfl, rfl, rfl, h0, h1, h2⟩ := trodAll_three hA
  obtain ⟨a0, l0, c0, rfl⟩ := okWide_slice Try.underlying32 (hval 0 32 v0 rfl rfl)
  obtain ⟨a1, l1, c1, rfl⟩ := okWide_slice Try.underlying22 (hval 1 22 v1 rfl rfl)
  obtain ⟨a2, l2, c2, rfl⟩ := okWide_slice Try.underlying22 (hval 2 22 v2 rfl rfl)
  obtain ⟨n0, f0⟩ := h0
  obtain ⟨n1, f1⟩ := h1
  obtain ⟨n2, f2⟩ := h2
  obtain ⟨j, hj⟩ := open_bytes (v := .slice a0 l0 c0) Try.underlying32 Try.underlying5 cells_u8 f0
  obtain ⟨a, ha⟩ := open_rows1 (v := .slice a1 l1 c1) f1
  obtain ⟨b, hb⟩ := open_rows1 (v := .slice a2 l2 c2) f2
  exact old_law W (hj (weights_all hsz (j := 0) rfl rfl) bytes_u8) (ha (weights_all hsz (j := 1) rfl rfl)) (hb (weights_all hsz (j := 2) rfl rfl))

set_option maxRecDepth 100000 in
theorem lifted (os : Os) (started : os.Started) (H : Type) (enc : TypeId × Value → H) :
    ReturnsInHanded {} Try.checked os 4 .any (Rows.walOldSpec.pre6 enc Try.prog Try.f4 Rows.walOldRow.domain false) (Rows.walOldSpec.post enc Try.prog Try.f4 false true false false) :=
  law_lifted (C := Try.checked) (tb := 4) own_knob laid_out started (by kernel_rfl) Try.func4
    (ChangeSpec.witness6 (enc := enc) (C := Try.checked) false ⟨#[], #[.slice none 0 0, .slice none 0 0, .slice none 0 0], []⟩ 8 (by kernel_rfl) (by kernel_rfl) (by kernel_rfl) (by kernel_rfl))
    (by kernel_rfl) (by kernel_rfl) Try.underlying4 rfl
    (fun ds hl => match ds, hl with | [_, _, _], _ => rfl)
    (fun W base args ds ps hval hA _ hsz => calls W base args ds ps hval hA hsz)

theorem holds : Rows.WalOldSaid :=
  OpenClaim.holds_of_wide 4 Try.f4 rfl rfl rfl rfl rfl rfl rfl ⟨rfl, rfl, rfl, rfl, rfl⟩ rfl rfl rfl rfl rfl (by kernel_rfl) Try.func4 (by kernel_rfl)
    (of_decide_eq_true (by kernel_rfl)) (by unfold Func.isWrapper; first | (rw [if_pos (by decide +kernel)]; kernel_rfl) | (rw [if_neg (by decide +kernel)]; exact ⟨rfl, rfl⟩))
    (fun os started H enc _ => lifted os started H enc)
#print axioms holds
end Go.Proofs.Ytcgokafhkkmaoaa.lawWalOld
