/- DiskDoes, its second form: it returns true at every input of bulk at most 1048576, and leaves its arguments as they were. Conditions: the bulk, none beside the row's own. -/
import Derived.Test.YthmjgcmaoniejaaDlB
import Derived.Test.YthmjgcmaoniejaaLawUp
namespace Go.Proofs.Ythmjgcmaoniejaa.lawDiskDoes
open Go.ChangeShapes Go.WideShapes Go.ChangeAt Go.RowKit Go.Deep

theorem calls {H : Type} {enc : TypeId × Value → H} (W : World) (base : Nat) (args : Array Value) (ds : List (DataW H)) (ps : List MemPlace)
    (hval : ∀ (j : Nat) t v, Try.f3.params[j]? = some t → args[j]? = some v → Value.okWide Try.prog W .any base t v)
    (hA : DataW.TrodAll enc Try.prog W 0 (fun _ => true) true Try.f3.params.toList args.toList ds ps) (hsz : Rows.uptoBulkAll ds ≤ 1048576) :
    Calls Try.prog 3 args W fun e W' => e = .returned (.bool true) ∧ Below W.heap.size W W' := by
  rw [Try.params3] at hA hval
  obtain ⟨v0, v1, d0, d1, p0, p1, rfl, rfl, rfl, h0, h1⟩ := trodAll_two hA
  obtain ⟨n, rfl, rfl, rfl, _⟩ := open_int Try.underlying3 (hval 0 3 v0 rfl rfl) h0
  obtain ⟨A, cap, gs, rfl, hs, hl, _⟩ := open_ksteps (hval 1 22 v1 rfl rfl) h1
  simp only [Rows.uptoBulkAll] at hsz
  exact does_any n A cap gs W hs (by omega)

set_option maxRecDepth 100000 in
theorem lifted (os : Os) (started : os.Started) (H : Type) (enc : TypeId × Value → H) (F : Stop.Interp) :
    ReturnsInHanded {} Try.checked os 3 .any ((Rows.OpenSpec.upto Rows.diskDoesSpec).pre6 enc Try.prog Try.f3 Rows.diskDoesUptoRow.domain false) (((Rows.OpenSpec.upto Rows.diskDoesSpec).at F).post enc Try.prog Try.f3 false true false false) :=
  upto_lifted (C := Try.checked) (tb := 4) own_knob laid_out started (by kernel_rfl) Try.func3
    (OpenSpec.witness (enc := enc) (C := Try.checked) (s := Rows.OpenSpec.upto Rows.diskDoesSpec) (k := Rows.uptoSmall) rfl false ⟨#[], #[.int .i64 0, .slice none 0 0], []⟩ 8 (by kernel_rfl) (by kernel_rfl) (by kernel_rfl)
      (x := ([.lit (.int .i64 0), .nil], [], [])) (by kernel_rfl) rfl (by kernel_rfl))
    (by kernel_rfl) (by kernel_rfl) Try.underlying4 rfl
    (fun ds hl => match ds, hl with | [_, _], _ => rfl)
    (fun W base args ds ps hval hA _ hsz => calls W base args ds ps hval hA hsz)

theorem holds : Rows.DiskDoesUptoSaid :=
  OpenClaim.holds_of_cond 3 Try.f3 rfl rfl rfl rfl rfl rfl rfl ⟨rfl, rfl, rfl, rfl, rfl⟩ rfl rfl rfl rfl rfl (by kernel_rfl) Try.func3 (by kernel_rfl)
    (of_decide_eq_true (by kernel_rfl)) (by unfold Func.isWrapper; first | (rw [if_pos (by decide +kernel)]; kernel_rfl) | (rw [if_neg (by decide +kernel)]; exact ⟨rfl, rfl⟩))
    (fun os started H enc _ F => lifted os started H enc F)
#print axioms holds
end Go.Proofs.Ythmjgcmaoniejaa.lawDiskDoes
