/- PoolDoes, its second form: the row and its card. Conditions: the bulk beside the row's own. Printed by genCardP.py. -/
import Derived.Test.YtkclkmjlodomkaaGreatDoorCards
import Derived.Test.YtkclkmjlodomkaaGreatDoorTie
import Derived.Test.YtkclkmjlodomkaaGreatDoorMh
import Derived.WalkKit
import Derived.ProofKit
import Derived.OpenShut
import Derived.Carry
import Derived.Deep.DeepHandedRow
namespace Go.Proofs.YtkclkmjlodomkaaGreatDoor.lawPoolDoes
open Go.ChangeShapes Go.WideShapes Go.ChangeAt Go.RowKit Go.Maps
attribute [-simp] Tryz.isAgg37 Tryz.typeInfo37 Tryz.isAgg34 Tryz.typeInfo34 Tryz.isAgg40 Tryz.typeInfo40

theorem fitsStep : tStep.fits Tryz.prog 42 := ⟨_, Tryz.underlying42, ⟨rfl, by kernel_rfl, (fits_num (by kernel_rfl)), ⟨rfl, by kernel_rfl, (fits_num (by kernel_rfl)), ⟨rfl, by kernel_rfl, fitsState, ⟨rfl, by kernel_rfl, fitsTx, trivial⟩⟩⟩⟩, by kernel_rfl⟩
theorem fitsSteps : (Sh.list tStep).fits Tryz.prog 22 := ⟨_, Tryz.underlying22, fitsStep, by kernel_rfl, by decide⟩
set_option maxRecDepth 100000 in
theorem calls {H : Type} {enc : TypeId × Value → H} (W : World) (base : Nat) (args : Array Value) (ds : List (DataW H)) (ps : List MemPlace)
    (hval : ∀ (j : Nat) t v, Tryz.f3.params[j]? = some t → args[j]? = some v → Value.okWide Tryz.prog W .any base t v)
    (hA : DataW.TrodAll enc Tryz.prog W 0 (fun _ => true) true Tryz.f3.params.toList args.toList ds ps) (hsz : Rows.uptoBulkAll ds ≤ 1048576) (hL : laidMetH Tryz.prog codecLaid W) :
    Calls Tryz.prog 3 args W fun e W' => e = .returned (.bool true) ∧ Below W.heap.size W W' := by
  rw [Tryz.params3] at hA hval
  obtain ⟨sent, hp⟩ := pk_of_laid hL
  obtain ⟨v0, v1, d0, d1, p0, p1, rfl, rfl, rfl, h0, h1⟩ := trodAll_two hA
  simp only [Rows.uptoBulkAll] at hsz
  obtain ⟨z0, rfl⟩ := okWide_int Tryz.underlying3 (hval 0 3 v0 rfl rfl)
  obtain ⟨x1, h1r, h1l⟩ := open_list (s := tStep) fitsSteps (by omega) (hval 1 22 v1 rfl rfl) h1
  exact lawDoes_all W h1r h1l hp

theorem own : ownKnob Tryz.prog.godebug = none := by kernel_rfl
theorem laidOut : laidOutB Tryz.prog = true := by kernel_rfl
noncomputable def rd {H : Type} (enc : TypeId × Value → H) (os : Os) : Option (List (DataW H) × List (DataW H) × List MemPlace) :=
  DataW.whole enc Tryz.prog ((codecWorld os).forCall (fun _ _ => 0) ⟨#[], #[.int .i64 0, .slice none 0 0], []⟩).memory Tryz.f3.params.toList Rows.poolDoesSpec.vars false (#[.int .i64 0, .slice none 0 0] : Array Value).toList 16
theorem rd_some {H : Type} (enc : TypeId × Value → H) (os : Os) : (rd enc os).isSome = true := by kernel_rfl

set_option maxRecDepth 100000 in
theorem lifted (os : Os) (started : os.Started) (H : Type) (enc : TypeId × Value → H) (F : Stop.Interp) :
    ReturnsInHanded {} Tryz.checked os 3 .any ((Rows.OpenSpec.upto Rows.poolDoesSpec).preRow enc Tryz.prog Tryz.f3 Rows.poolDoesUptoRow.domain false Rows.poolDoesUptoRow.laid) (((Rows.OpenSpec.upto Rows.poolDoesSpec).at F).post enc Tryz.prog Tryz.f3 false true false false) := by
  refine returnsInHanded_of_row (C := Tryz.checked) (s := Rows.OpenSpec.upto Rows.poolDoesSpec) own started (by kernel_rfl) Tryz.func3
    (witness_row_at (enc := enc) (C := Tryz.checked) false (codecWorld os) #[.int .i64 0, .slice none 0 0] rfl (by kernel_rfl) (by kernel_rfl) (by kernel_rfl)
      (OpenSpec.preRow_of_cond 16 (show DataW.whole enc Tryz.prog _ _ _ _ _ _ = some ((rd enc os).get (rd_some enc os)) from (Option.some_get (rd_some enc os)).symm) (by kernel_rfl) (fun k hk => by cases hk; kernel_rfl) (by kernel_rfl) (codecWorld_met os _))) ?_
  intro W base args ds gs before hval hW _ hcond _ hL _ _
  have hW0 : DataW.Whole enc Tryz.prog Tryz.f3.params.toList Rows.poolDoesSpec.vars false W args.toList ds gs before := hW
  have hW1 := hW0
  obtain ⟨p, q, hA, hV, rfl, _, _⟩ := hW1
  obtain ⟨rfl, rfl⟩ := trodVars_none (show DataW.TrodVars enc Tryz.prog W (fun _ => true) [] gs q from hV)
  have hk := hcond _ rfl
  rw [List.append_nil] at hk
  refine (calls W base args ds p hval hA (of_decide_eq_true hk) hL).mono fun e W' ⟨he, hb⟩ => ?_
  exact ⟨_, he, law_post (tb := 4) laidOut (by kernel_rfl) (by kernel_rfl) Tryz.underlying4 rfl (fun ds hl => match ds, hl with | [_, _], _ => rfl) hW0 hb⟩

theorem said : Rows.PoolDoesUptoSaid :=
  OpenClaim.holds_of_cond 3 Tryz.f3 rfl rfl rfl rfl rfl rfl rfl ⟨rfl, rfl, rfl, rfl, rfl⟩ rfl rfl rfl rfl rfl (by kernel_rfl) Tryz.func3 (by kernel_rfl)
    (of_decide_eq_true (by kernel_rfl)) (by unfold Func.isWrapper; first | (rw [if_pos (by decide +kernel)]; kernel_rfl) | (rw [if_neg (by decide +kernel)]; exact ⟨rfl, rfl⟩))
    (fun os started H enc _ F => by rw [OpenClaim.pre_eq_preRow]; exact lifted os started H enc F)

theorem plain (f : FuncId) (fn : Func) (hf : Tryz.pinned.checked.prog.funcNamed "wapentake/wapentakelaw17.PoolDoes" = some f) (hfn : Tryz.pinned.checked.prog.funcs[f]? = some fn) :
    true = Tryz.pinned.checked.prog.looks [] ∧ ∀ (j : Nat) t, fn.params[j]? = some t → Tryz.pinned.checked.prog.wantsStandIn t = false := by
  obtain rfl : f = 3 := Option.some.inj ((show Tryz.prog.funcNamed "wapentake/wapentakelaw17.PoolDoes" = some 3 by kernel_rfl).symm.trans hf) |>.symm
  obtain rfl : fn = Tryz.f3 := (Option.some.inj (Tryz.func3.symm.trans hfn)).symm
  refine ⟨by kernel_rfl, fun j t ht => ?_⟩
  rw [Tryz.params3] at ht
  have hm : t ∈ #[3, 22] := Array.mem_of_getElem? ht
  have hm : t ∈ [3, 22] := by simpa using hm
  have hall : ∀ t ∈ [3, 22], Tryz.prog.wantsStandIn t = false := by
    intro t ht
    have hb : ([3, 22] : List Nat).all (fun t => !(Tryz.prog.wantsStandIn t)) = true := by kernel_rfl
    simpa using List.all_eq_true.1 hb t ht
  exact hall t hm

theorem holds : Rows.PoolDoesUptoCardSaid :=
  Claim7.holds_tied_plain_at .later [] _ _ _ _ said (fun _ h => by cases h) (by kernel_rfl) (fun _ h => by cases h) poolDoesUpto_row_tie rfl ⟨rfl, rfl⟩ (by kernel_rfl) rfl plain (by kernel_rfl)
#print axioms holds
end Go.Proofs.YtkclkmjlodomkaaGreatDoor.lawPoolDoes
