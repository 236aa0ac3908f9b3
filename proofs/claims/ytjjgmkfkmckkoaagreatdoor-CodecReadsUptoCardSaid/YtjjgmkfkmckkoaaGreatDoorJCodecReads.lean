/- CodecReads, its second form: the row and its card. Conditions: the bulk beside the row's own. Printed by genCard.py. -/
import Derived.Test.YtjjgmkfkmckkoaaGreatDoorCards
import Derived.Test.YtjjgmkfkmckkoaaGreatDoorTie
import Derived.Test.YtjjgmkfkmckkoaaGreatDoorMh
import Derived.Test.YtjjgmkfkmckkoaaGreatDoorMi
import Derived.Test.YtjjgmkfkmckkoaaGreatDoorMa
import Derived.WalkKit
import Derived.ProofKit
import Derived.OpenShut
import Derived.Deep.DeepHandedRow
import Derived.Deep.Slices
namespace Go.Proofs.YtjjgmkfkmckkoaaGreatDoor.lawCodecReads
open Go.ChangeShapes Go.WideShapes Go.ChangeAt Go.RowKit Go.Maps
attribute [-simp] Tryz.isAgg36 Tryz.typeInfo36 Tryz.isAgg22 Tryz.typeInfo22

theorem walk (w : World) {S : Nat → Prop} {v : Value} {bs : List UInt8} {sent : Value} (h : Bs w S v bs) (hlen : bs.length ≤ 1099511627776) (hp : Pk w sent) :
    Calls Tryz.prog 3 #[v] w fun e w' => e = .returned (.bool true) ∧ Below w.heap.size w w' :=
  lawReads_any (fun w k hk _ _ _ _ h hl hp => read_any w k hk h hl hp) w h hlen hp

set_option maxRecDepth 100000 in
theorem calls {H : Type} {enc : TypeId × Value → H} (W : World) (base : Nat) (args : Array Value) (ds : List (DataW H)) (ps : List MemPlace)
    (hval : ∀ (j : Nat) t v, Tryz.f3.params[j]? = some t → args[j]? = some v → Value.okWide Tryz.prog W .any base t v)
    (hA : DataW.TrodAll enc Tryz.prog W 0 (fun _ => true) true Tryz.f3.params.toList args.toList ds ps) (hsz : Rows.uptoBulkAll ds ≤ 1048576) (hL : laidMetH Tryz.prog codecLaid W) :
    Calls Tryz.prog 3 args W fun e W' => e = .returned (.bool true) ∧ Below W.heap.size W W' := by
  rw [Tryz.params3] at hA hval
  obtain ⟨sent, hp⟩ := pk_of_laid hL
  obtain ⟨v0, d0, rfl, rfl, h0⟩ := trodAll_one hA
  simp only [Rows.uptoBulkAll] at hsz
  obtain ⟨a1, len, cap, rfl⟩ := okWide_slice Tryz.underlying22 (hval 0 22 v0 rfl rfl)
  obtain ⟨n0, h0⟩ := h0
  obtain ⟨x, ⟨v1, e1, hb⟩, hxl⟩ := Sh.open_ .byt 22 n0 _ _ ⟨5, by kernel_rfl, Tryz.underlying5, by kernel_rfl⟩ (.inr (by simp only []; omega)) h0
  obtain rfl : _ = v1 := List.singleton_inj.1 e1
  have hl : List.length (α := UInt8) x ≤ 1099511627776 := bulk_le hxl (by simp only []; omega)
  exact walk W hb hl hp

theorem own : ownKnob Tryz.prog.godebug = none := by kernel_rfl
theorem laidOut : laidOutB Tryz.prog = true := by kernel_rfl
noncomputable def rd {H : Type} (enc : TypeId × Value → H) (os : Os) : Option (List (DataW H) × List (DataW H) × List MemPlace) :=
  DataW.whole enc Tryz.prog ((codecWorld os).forCall (fun _ _ => 0) ⟨#[], #[.slice none 0 0], []⟩).memory Tryz.f3.params.toList Rows.codecReadsSpec.vars false (#[.slice none 0 0] : Array Value).toList 16
theorem rd_some {H : Type} (enc : TypeId × Value → H) (os : Os) : (rd enc os).isSome = true := by kernel_rfl

set_option maxRecDepth 100000 in
theorem lifted (os : Os) (started : os.Started) (H : Type) (enc : TypeId × Value → H) (F : Stop.Interp) :
    ReturnsInHanded {} Tryz.checked os 3 .any ((Rows.OpenSpec.upto Rows.codecReadsSpec).preRow enc Tryz.prog Tryz.f3 Rows.codecReadsUptoRow.domain false Rows.codecReadsUptoRow.laid) (((Rows.OpenSpec.upto Rows.codecReadsSpec).at F).post enc Tryz.prog Tryz.f3 false true false false) := by
  refine returnsInHanded_of_row (C := Tryz.checked) (s := Rows.OpenSpec.upto Rows.codecReadsSpec) own started (by kernel_rfl) Tryz.func3
    (witness_row_at (enc := enc) (C := Tryz.checked) false (codecWorld os) #[.slice none 0 0] rfl (by kernel_rfl) (by kernel_rfl) (by kernel_rfl)
      (OpenSpec.preRow_of_cond 16 (show DataW.whole enc Tryz.prog _ _ _ _ _ _ = some ((rd enc os).get (rd_some enc os)) from (Option.some_get (rd_some enc os)).symm) (by kernel_rfl) (fun k hk => by cases hk; kernel_rfl) (by kernel_rfl) (codecWorld_met os _))) ?_
  intro W base args ds gs before hval hW _ hcond _ hL _ _
  have hW0 : DataW.Whole enc Tryz.prog Tryz.f3.params.toList Rows.codecReadsSpec.vars false W args.toList ds gs before := hW
  have hW1 := hW0
  obtain ⟨p, q, hA, hV, rfl, _, _⟩ := hW1
  obtain ⟨rfl, rfl⟩ := trodVars_none (show DataW.TrodVars enc Tryz.prog W (fun _ => true) [] gs q from hV)
  have hk := hcond _ rfl
  rw [List.append_nil] at hk
  refine (calls W base args ds p hval hA (of_decide_eq_true hk) hL).mono fun e W' ⟨he, hb⟩ => ?_
  exact ⟨_, he, law_post (tb := 4) laidOut (by kernel_rfl) (by kernel_rfl) Tryz.underlying4 rfl (fun ds hl => match ds, hl with | [_], _ => rfl) hW0 hb⟩

theorem said : Rows.CodecReadsUptoSaid :=
  OpenClaim.holds_of_cond 3 Tryz.f3 rfl rfl rfl rfl rfl rfl rfl ⟨rfl, rfl, rfl, rfl, rfl⟩ rfl rfl rfl rfl rfl (by kernel_rfl) Tryz.func3 (by kernel_rfl)
    (of_decide_eq_true (by kernel_rfl)) (by unfold Func.isWrapper; first | (rw [if_pos (by decide +kernel)]; kernel_rfl) | (rw [if_neg (by decide +kernel)]; exact ⟨rfl, rfl⟩))
    (fun os started H enc _ F => by rw [OpenClaim.pre_eq_preRow]; exact lifted os started H enc F)

theorem plain (f : FuncId) (fn : Func) (hf : Tryz.pinned.checked.prog.funcNamed "wapentake/wapentakelaw02.CodecReads" = some f) (hfn : Tryz.pinned.checked.prog.funcs[f]? = some fn) :
    true = Tryz.pinned.checked.prog.looks [] ∧ ∀ (j : Nat) t, fn.params[j]? = some t → Tryz.pinned.checked.prog.wantsStandIn t = false := by
  obtain rfl : f = 3 := Option.some.inj ((show Tryz.prog.funcNamed "wapentake/wapentakelaw02.CodecReads" = some 3 by kernel_rfl).symm.trans hf) |>.symm
  obtain rfl : fn = Tryz.f3 := (Option.some.inj (Tryz.func3.symm.trans hfn)).symm
  refine ⟨by kernel_rfl, fun j t ht => ?_⟩
  rw [Tryz.params3] at ht
  have hm : t ∈ #[22] := Array.mem_of_getElem? ht
  have hm : t ∈ [22] := by simpa using hm
  have hall : ∀ t ∈ [22], Tryz.prog.wantsStandIn t = false := by
    intro t ht
    have hb : ([22] : List Nat).all (fun t => !(Tryz.prog.wantsStandIn t)) = true := by kernel_rfl
    simpa using List.all_eq_true.1 hb t ht
  exact hall t hm

theorem holds : Rows.CodecReadsUptoCardSaid :=
  Claim7.holds_tied_plain_at .later [] _ _ _ _ said (fun _ h => by cases h) (by kernel_rfl) (fun _ h => by cases h) codecReadsUpto_row_tie rfl ⟨rfl, rfl⟩ (by kernel_rfl) rfl plain (by kernel_rfl)
#print axioms holds
end Go.Proofs.YtjjgmkfkmckkoaaGreatDoor.lawCodecReads
