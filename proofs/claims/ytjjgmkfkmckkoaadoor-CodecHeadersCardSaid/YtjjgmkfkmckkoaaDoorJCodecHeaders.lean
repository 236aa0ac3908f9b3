/- CodecHeaders: the row and its card. Conditions: none beside the row's own. Printed by genCard.py. -/
import Derived.Test.YtjjgmkfkmckkoaaDoorCards
import Derived.Test.YtjjgmkfkmckkoaaDoorTie
import Derived.Test.YtjjgmkfkmckkoaaDoorMn
import Derived.Test.YtjjgmkfkmckkoaaDoorMc
import Derived.Test.YtjjgmkfkmckkoaaDoorMa
import Derived.WalkKit
import Derived.ProofKit
import Derived.OpenShut
import Derived.Deep.DeepHandedRow
namespace Go.Proofs.YtjjgmkfkmckkoaaDoor.lawCodecHeaders
open Go.ChangeShapes Go.WideShapes Go.ChangeAt Go.RowKit Go.Maps
attribute [-simp] Tryd.isAgg23 Tryd.typeInfo23 Tryd.isAgg25 Tryd.typeInfo25

set_option maxRecDepth 100000 in
theorem calls {H : Type} {enc : TypeId × Value → H} (W : World) (base : Nat) (args : Array Value) (ds : List (DataW H)) (ps : List MemPlace)
    (hval : ∀ (j : Nat) t v, Tryd.f3.params[j]? = some t → args[j]? = some v → Value.okWide Tryd.prog W .any base t v)
    (hA : DataW.TrodAll enc Tryd.prog W 0 (fun _ => true) true Tryd.f3.params.toList args.toList ds ps) (hL : laidMetH Tryd.prog codecLaid W) :
    Calls Tryd.prog 3 args W fun e W' => e = .returned (.bool true) ∧ Below W.heap.size W W' := by
  rw [Tryd.params3] at hA hval
  obtain ⟨sent, hp⟩ := pk_of_laid hL
  obtain ⟨v0, v1, d0, d1, p0, p1, rfl, rfl, rfl, h0, h1⟩ := trodAll_two hA
  
  obtain ⟨cs, x, rfl, hx, hx1, _⟩ := open_thing fitsHeader (.inl rfl) (hval 0 25 v0 rfl rfl) h0
  obtain ⟨ds', y, rfl, hy, hy1, _⟩ := open_thing fitsHeader (.inl rfl) (hval 1 25 v1 rfl rfl) h1
  exact lawHeaders_any W (fun _ h => h) hx hy hx1 hy1 hp

theorem own : ownKnob Tryd.prog.godebug = none := by kernel_rfl
theorem laidOut : laidOutB Tryd.prog = true := by kernel_rfl
noncomputable def rd {H : Type} (enc : TypeId × Value → H) (os : Os) : Option (List (DataW H) × List (DataW H) × List MemPlace) :=
  DataW.whole enc Tryd.prog ((codecWorld os).forCall (fun _ _ => 0) ⟨#[], #[.agg tHeader.zero.toArray, .agg tHeader.zero.toArray], []⟩).memory Tryd.f3.params.toList Rows.codecHeadersSpec.vars false (#[.agg tHeader.zero.toArray, .agg tHeader.zero.toArray] : Array Value).toList 16
theorem rd_some {H : Type} (enc : TypeId × Value → H) (os : Os) : (rd enc os).isSome = true := by kernel_rfl

set_option maxRecDepth 100000 in
theorem lifted (os : Os) (started : os.Started) (H : Type) (enc : TypeId × Value → H) (F : Stop.Interp) :
    ReturnsInHanded {} Tryd.checked os 3 .any ((OpenSpec.ofChange Rows.codecHeadersSpec).preRow enc Tryd.prog Tryd.f3 Rows.codecHeadersRow.domain false Rows.codecHeadersRow.laid) (((OpenSpec.ofChange Rows.codecHeadersSpec).at F).post enc Tryd.prog Tryd.f3 false true false false) := by
  refine returnsInHanded_of_row (C := Tryd.checked) (s := OpenSpec.ofChange Rows.codecHeadersSpec) own started (by kernel_rfl) Tryd.func3
    (witness_row_at (enc := enc) (C := Tryd.checked) false (codecWorld os) #[.agg tHeader.zero.toArray, .agg tHeader.zero.toArray] rfl (by kernel_rfl) (by kernel_rfl) (by kernel_rfl)
      (OpenSpec.preRow_of_cond 16 (show DataW.whole enc Tryd.prog _ _ _ _ _ _ = some ((rd enc os).get (rd_some enc os)) from (Option.some_get (rd_some enc os)).symm) (by kernel_rfl) (fun k hk => by cases hk) (by kernel_rfl) (codecWorld_met os _))) ?_
  intro W base args ds gs before hval hW _ _ _ hL _ _
  have hW0 : DataW.Whole enc Tryd.prog Tryd.f3.params.toList Rows.codecHeadersSpec.vars false W args.toList ds gs before := hW
  have hW1 := hW0
  obtain ⟨p, q, hA, hV, rfl, _, _⟩ := hW1
  obtain ⟨rfl, rfl⟩ := trodVars_none (show DataW.TrodVars enc Tryd.prog W (fun _ => true) [] gs q from hV)
  
  
  refine (calls W base args ds p hval hA hL).mono fun e W' ⟨he, hb⟩ => ?_
  exact ⟨_, he, law_post (tb := 4) laidOut (by kernel_rfl) (by kernel_rfl) Tryd.underlying4 rfl (fun ds hl => match ds, hl with | [_, _], _ => rfl) hW0 hb⟩

theorem said : Rows.CodecHeadersSaid :=
  OpenClaim.holds_of_cond 3 Tryd.f3 rfl rfl rfl rfl rfl rfl rfl ⟨rfl, rfl, rfl, rfl, rfl⟩ rfl rfl rfl rfl rfl (by kernel_rfl) Tryd.func3 (by kernel_rfl)
    (of_decide_eq_true (by kernel_rfl)) (by unfold Func.isWrapper; first | (rw [if_pos (by decide +kernel)]; kernel_rfl) | (rw [if_neg (by decide +kernel)]; exact ⟨rfl, rfl⟩))
    (fun os started H enc _ F => by rw [OpenClaim.pre_eq_preRow]; exact lifted os started H enc F)

theorem plain (f : FuncId) (fn : Func) (hf : Tryd.pinned.checked.prog.funcNamed "wapentake/wapentakelaw02.CodecHeaders" = some f) (hfn : Tryd.pinned.checked.prog.funcs[f]? = some fn) :
    true = Tryd.pinned.checked.prog.looks [] ∧ ∀ (j : Nat) t, fn.params[j]? = some t → Tryd.pinned.checked.prog.wantsStandIn t = false := by
  obtain rfl : f = 3 := Option.some.inj ((show Tryd.prog.funcNamed "wapentake/wapentakelaw02.CodecHeaders" = some 3 by kernel_rfl).symm.trans hf) |>.symm
  obtain rfl : fn = Tryd.f3 := (Option.some.inj (Tryd.func3.symm.trans hfn)).symm
  refine ⟨by kernel_rfl, fun j t ht => ?_⟩
  rw [Tryd.params3] at ht
  have hm : t ∈ #[25, 25] := Array.mem_of_getElem? ht
  have hm : t ∈ [25, 25] := by simpa using hm
  have hall : ∀ t ∈ [25, 25], Tryd.prog.wantsStandIn t = false := by
    intro t ht
    have hb : ([25, 25] : List Nat).all (fun t => !(Tryd.prog.wantsStandIn t)) = true := by kernel_rfl
    simpa using List.all_eq_true.1 hb t ht
  exact hall t hm

theorem holds : Rows.CodecHeadersCardSaid :=
  Claim7.holds_tied_plain_at .later [] _ _ _ _ said (fun _ h => by cases h) (by kernel_rfl) (fun _ h => by cases h) codecHeaders_row_tie rfl ⟨rfl, rfl⟩ (by kernel_rfl) rfl plain (by kernel_rfl)
#print axioms holds
end Go.Proofs.YtjjgmkfkmckkoaaDoor.lawCodecHeaders
