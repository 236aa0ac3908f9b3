/- DiskFirm, its second form: it returns true at every input of bulk at most 1048576, and leaves its arguments as they were. Conditions: the bulk, none beside the row's own. -/
import Derived.Test.YthmjgcmaoniejaaDkS
import Derived.Test.YthmjgcmaoniejaaLawUp
namespace Go.Proofs.Ythmjgcmaoniejaa.lawDiskFirm
open Go.ChangeShapes Go.WideShapes Go.ChangeAt Go.RowKit Go.Deep

theorem calls {H : Type} {enc : TypeId × Value → H} (W : World) (base : Nat) (args : Array Value) (ds : List (DataW H)) (ps : List MemPlace)
    (hval : ∀ (j : Nat) t v, Try.f4.params[j]? = some t → args[j]? = some v → Value.okWide Try.prog W .any base t v)
    (hA : DataW.TrodAll enc Try.prog W 0 (fun _ => true) true Try.f4.params.toList args.toList ds ps) (hsz : Rows.uptoBulkAll ds ≤ 1048576) :
    Calls Try.prog 4 args W fun e W' => e = .returned (.bool true) ∧ Below W.heap.size W W' := by
  rw [Try.params4] at hA hval
  obtain ⟨v0, v1, v2, d0, d1, d2, p0, p1, p2, rfl, rfl, rfl, h0, h1, h2⟩ := trodAll_three hA
  obtain ⟨A, cap, gs, rfl, hs, hl, _⟩ := open_ksteps (hval 0 22 v0 rfl rfl) h0
  obtain ⟨fuel, h1⟩ := h1
  obtain ⟨a1, n1, c1, rfl⟩ := okWide_slice Try.underlying28 (hval 1 28 v1 rfl rfl)
  obtain ⟨keep, hk, hkl⟩ := open_keep h1
  obtain ⟨torn, rfl, rfl, rfl, _⟩ := open_int Try.underlying3 (hval 2 3 v2 rfl rfl) h2
  simp only [Rows.uptoBulkAll] at hsz
  exact firm_any torn A cap gs keep _ W hs (by omega) hk

set_option maxRecDepth 100000 in
theorem lifted (os : Os) (started : os.Started) (H : Type) (enc : TypeId × Value → H) (F : Stop.Interp) :
    ReturnsInHanded {} Try.checked os 4 .any ((Rows.OpenSpec.upto Rows.diskFirmSpec).pre6 enc Try.prog Try.f4 Rows.diskFirmUptoRow.domain false) (((Rows.OpenSpec.upto Rows.diskFirmSpec).at F).post enc Try.prog Try.f4 false true false false) :=
  upto_lifted (C := Try.checked) (tb := 4) own_knob laid_out started (by kernel_rfl) Try.func4
    (OpenSpec.witness (enc := enc) (C := Try.checked) (s := Rows.OpenSpec.upto Rows.diskFirmSpec) (k := Rows.uptoSmall) rfl false ⟨#[], #[.slice none 0 0, .slice none 0 0, .int .i64 0], []⟩ 8 (by kernel_rfl) (by kernel_rfl) (by kernel_rfl)
      (x := ([.nil, .nil, .lit (.int .i64 0)], [], [])) (by kernel_rfl) rfl (by kernel_rfl))
    (by kernel_rfl) (by kernel_rfl) Try.underlying4 rfl
    (fun ds hl => match ds, hl with | [_, _, _], _ => rfl)
    (fun W base args ds ps hval hA _ hsz => calls W base args ds ps hval hA hsz)

theorem holds : Rows.DiskFirmUptoSaid :=
  OpenClaim.holds_of_cond 4 Try.f4 rfl rfl rfl rfl rfl rfl rfl ⟨rfl, rfl, rfl, rfl, rfl⟩ rfl rfl rfl rfl rfl (by kernel_rfl) Try.func4 (by kernel_rfl)
    (of_decide_eq_true (by kernel_rfl)) (by unfold Func.isWrapper; first | (rw [if_pos (by decide +kernel)]; kernel_rfl) | (rw [if_neg (by decide +kernel)]; exact ⟨rfl, rfl⟩))
    (fun os started H enc _ F => lifted os started H enc F)
#print axioms holds
end Go.Proofs.Ythmjgcmaoniejaa.lawDiskFirm
