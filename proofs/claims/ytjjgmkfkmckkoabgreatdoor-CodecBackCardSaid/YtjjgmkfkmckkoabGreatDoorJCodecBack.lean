/- CodecBack: the row and its card. Conditions: none beside the row's own. Printed by genCard.py. -/
import Derived.Test.YtjjgmkfkmckkoabGreatDoorCards
import Derived.Test.YtjjgmkfkmckkoabGreatDoorTie
import Derived.Test.YtjjgmkfkmckkoabGreatDoorMe
import Derived.Test.YtjjgmkfkmckkoabGreatDoorMd
import Derived.Test.YtjjgmkfkmckkoabGreatDoorMb
import Derived.Test.YtjjgmkfkmckkoabGreatDoorMa
import Derived.WalkKit
import Derived.ProofKit
import Derived.OpenShut
import Derived.Deep.DeepHandedRow
import Derived.Deep.Slices
namespace Go.Proofs.YtjjgmkfkmckkoabGreatDoor.lawCodecBack
open Go.ChangeShapes Go.WideShapes Go.ChangeAt Go.RowKit Go.Maps
attribute [-simp] Tryz.isAgg24 Tryz.typeInfo24 Tryz.isAgg50 Tryz.typeInfo50

theorem walk (w : World) {S : Nat → Prop} {v : Value} {bs : List UInt8} {sent : Value} (h : Bs w S v bs) (hS : ∀ b, S b → b < w.heap.size) (hp : Pk w sent) :
    Calls Tryz.prog 5 #[v] w fun e w' => e = .returned (.bool true) ∧ Below w.heap.size w w' := by
  rcases Nat.lt_or_ge 262144 bs.length with hb | hb
  · exact back_ff w h hS hp (.inl hb) (.inl hb)
  · cases hm : tMessage.dec bs with
    | none =>
      cases hf : tFact.dec bs with
      | none => exact back_ff w h hS hp (.inr hm) (.inr hf)
      | some y => exact back_ft w h hS hp (.inr hm) hf hb
    | some x =>
      cases hf : tFact.dec bs with
      | none => exact back_tf w h hS hp hm hb (.inr hf)
      | some y => exact back_tt w h hS hp hm hb hf

set_option maxRecDepth 100000 in
theorem calls {H : Type} {enc : TypeId × Value → H} (W : World) (base : Nat) (args : Array Value) (ds : List (DataW H)) (ps : List MemPlace)
    (hval : ∀ (j : Nat) t v, Tryz.f5.params[j]? = some t → args[j]? = some v → Value.okWide Tryz.prog W .any base t v)
    (hA : DataW.TrodAll enc Tryz.prog W 0 (fun _ => true) true Tryz.f5.params.toList args.toList ds ps) (hsz : (DataW.weightsEach Tryz.prog Tryz.f5.params.toList ds).all (· ≤ reachBytes) = true) (hL : laidMetH Tryz.prog codecLaid W) :
    Calls Tryz.prog 5 args W fun e W' => e = .returned (.bool true) ∧ Below W.heap.size W W' := by
  rw [Tryz.params5] at hA hval
  obtain ⟨sent, hp⟩ := pk_of_laid hL
  obtain ⟨v0, d0, rfl, rfl, h0⟩ := trodAll_one hA
  obtain ⟨a1, len, cap, rfl⟩ := okWide_slice Tryz.underlying50 (hval 0 50 v0 rfl rfl)
  obtain ⟨n0, h0⟩ := h0
  obtain ⟨bs, hb⟩ := open_bytes Tryz.underlying50 Tryz.underlying5 (by kernel_rfl) h0
  exact walk W (hb (weights_all hsz (j := 0) rfl rfl) (by kernel_rfl)) (fun _ h => h) hp

theorem own : ownKnob Tryz.prog.godebug = none := by kernel_rfl
theorem laidOut : laidOutB Tryz.prog = true := by kernel_rfl
noncomputable def rd {H : Type} (enc : TypeId × Value → H) (os : Os) : Option (List (DataW H) × List (DataW H) × List MemPlace) :=
  DataW.whole enc Tryz.prog ((codecWorld os).forCall (fun _ _ => 0) ⟨#[], #[.slice none 0 0], []⟩).memory Tryz.f5.params.toList Rows.codecBackSpec.vars false (#[.slice none 0 0] : Array Value).toList 16
theorem rd_some {H : Type} (enc : TypeId × Value → H) (os : Os) : (rd enc os).isSome = true := by kernel_rfl

set_option maxRecDepth 100000 in
theorem lifted (os : Os) (started : os.Started) (H : Type) (enc : TypeId × Value → H) (F : Stop.Interp) :
    ReturnsInHanded {} Tryz.checked os 5 .any ((OpenSpec.ofChange Rows.codecBackSpec).preRow enc Tryz.prog Tryz.f5 Rows.codecBackRow.domain false Rows.codecBackRow.laid) (((OpenSpec.ofChange Rows.codecBackSpec).at F).post enc Tryz.prog Tryz.f5 false true false false) := by
  refine returnsInHanded_of_row (C := Tryz.checked) (s := OpenSpec.ofChange Rows.codecBackSpec) own started (by kernel_rfl) Tryz.func5
    (witness_row_at (enc := enc) (C := Tryz.checked) false (codecWorld os) #[.slice none 0 0] rfl (by kernel_rfl) (by kernel_rfl) (by kernel_rfl)
      (OpenSpec.preRow_of_cond 16 (show DataW.whole enc Tryz.prog _ _ _ _ _ _ = some ((rd enc os).get (rd_some enc os)) from (Option.some_get (rd_some enc os)).symm) (by kernel_rfl) (fun k hk => by cases hk) (by kernel_rfl) (codecWorld_met os _))) ?_
  intro W base args ds gs before hval hW _ _ hwt hL _ _
  have hW0 : DataW.Whole enc Tryz.prog Tryz.f5.params.toList Rows.codecBackSpec.vars false W args.toList ds gs before := hW
  have hW1 := hW0
  obtain ⟨p, q, hA, hV, rfl, _, _⟩ := hW1
  obtain ⟨rfl, rfl⟩ := trodVars_none (show DataW.TrodVars enc Tryz.prog W (fun _ => true) [] gs q from hV)
  
  
  refine (calls W base args ds p hval hA (by rw [List.append_nil] at hwt; exact hwt) hL).mono fun e W' ⟨he, hb⟩ => ?_
  exact ⟨_, he, law_post (tb := 4) laidOut (by kernel_rfl) (by kernel_rfl) Tryz.underlying4 rfl (fun ds hl => match ds, hl with | [_], _ => rfl) hW0 hb⟩

theorem said : Rows.CodecBackSaid :=
  OpenClaim.holds_of_cond 5 Tryz.f5 rfl rfl rfl rfl rfl rfl rfl ⟨rfl, rfl, rfl, rfl, rfl⟩ rfl rfl rfl rfl rfl (by kernel_rfl) Tryz.func5 (by kernel_rfl)
    (of_decide_eq_true (by kernel_rfl)) (by unfold Func.isWrapper; first | (rw [if_pos (by decide +kernel)]; kernel_rfl) | (rw [if_neg (by decide +kernel)]; exact ⟨rfl, rfl⟩))
    (fun os started H enc _ F => by rw [OpenClaim.pre_eq_preRow]; exact lifted os started H enc F)

theorem plain (f : FuncId) (fn : Func) (hf : Tryz.pinned.checked.prog.funcNamed "wapentake/wapentakelaw02.CodecBack" = some f) (hfn : Tryz.pinned.checked.prog.funcs[f]? = some fn) :
    true = Tryz.pinned.checked.prog.looks [] ∧ ∀ (j : Nat) t, fn.params[j]? = some t → Tryz.pinned.checked.prog.wantsStandIn t = false := by
  obtain rfl : f = 5 := Option.some.inj ((show Tryz.prog.funcNamed "wapentake/wapentakelaw02.CodecBack" = some 5 by kernel_rfl).symm.trans hf) |>.symm
  obtain rfl : fn = Tryz.f5 := (Option.some.inj (Tryz.func5.symm.trans hfn)).symm
  refine ⟨by kernel_rfl, fun j t ht => ?_⟩
  rw [Tryz.params5] at ht
  have hm : t ∈ #[50] := Array.mem_of_getElem? ht
  have hm : t ∈ [50] := by simpa using hm
  have hall : ∀ t ∈ [50], Tryz.prog.wantsStandIn t = false := by
    intro t ht
    have hb : ([50] : List Nat).all (fun t => !(Tryz.prog.wantsStandIn t)) = true := by kernel_rfl
    simpa using List.all_eq_true.1 hb t ht
  exact hall t hm

theorem holds : Rows.CodecBackCardSaid :=
  Claim7.holds_tied_plain_at .later [] _ _ _ _ said (fun _ h => by cases h) (by kernel_rfl) (fun _ h => by cases h) codecBack_row_tie rfl ⟨rfl, rfl⟩ (by kernel_rfl) rfl plain (by kernel_rfl)
#print axioms holds
end Go.Proofs.YtjjgmkfkmckkoabGreatDoor.lawCodecBack
