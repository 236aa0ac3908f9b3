/- CodecMessages, its second form: the row and its card. Conditions: the bulk beside the row's own. Printed by genCard.py. -/
import Derived.Test.YtjjgmkfkmckkoabGreatDoorCards
import Derived.Test.YtjjgmkfkmckkoabGreatDoorTie
import Derived.Test.YtjjgmkfkmckkoabGreatDoorMg
import Derived.Test.YtjjgmkfkmckkoabGreatDoorMd
import Derived.Test.YtjjgmkfkmckkoabGreatDoorMb
import Derived.Test.YtjjgmkfkmckkoabGreatDoorMa
import Derived.WalkKit
import Derived.ProofKit
import Derived.OpenShut
import Derived.Deep.DeepHandedRow
namespace Go.Proofs.YtjjgmkfkmckkoabGreatDoor.lawCodecMessages
open Go.ChangeShapes Go.WideShapes Go.ChangeAt Go.RowKit Go.Maps
attribute [-simp] Tryz.isAgg24 Tryz.typeInfo24 Tryz.isAgg48 Tryz.typeInfo48

set_option maxHeartbeats 8000000 in
set_option maxRecDepth 100000 in
theorem walk (w : World) {S : Nat → Prop} {x : tMessage.El} {cs : List Value} {sent : Value} (hS : ∀ b, S b → b < w.heap.size) (h : tMessage.rep w S x cs) (h1 : ∀ u ∈ cs, u.oneCell' = true) (hl : (tMessage.enc x).length ≤ 1099511627776) (hp : Pk w sent) :
    Calls Tryz.prog 4 #[.agg cs.toArray] w fun e w' => e = .returned (.bool true) ∧ Below w.heap.size w w' := by
  have HI := Lib.hid (show (Tryz.prog.info? 48).map (·.size) = some cs.length from by rw [Sh.rep_size _ _ _ h]; kernel_rfl)
  have hal := (Below.refl w.heap.size w).alloc (Nat.le_refl _) (.cells cs.toArray 48)
  have hx := Blk.new w 48 cs.toArray
  have HAW := Lib.hid (awake_any _ (hp.below hal))
  have H := Lib.hid h
  have H1 := Lib.hid h1
  have HL := Lib.hid hl
  have HP := Lib.hid hp
  have HS := Lib.hid hS
  have HAL := Lib.hid hal
  have HX := Lib.hid hx
  clear h h1 hl hp hS hx hal
  go_enter Tryz.func4, Tryz.ntmps4
  go_wp2_with fail
  refine HAW.out.mono ?_
  rintro e w1 ⟨rfl, hb1⟩
  have HX1 := Lib.hid (HX.out.below hb1 HX.out.lt)

  have HB1 := Lib.hid (HAL.out.trans (hb1.mono HAL.out.size))
  clear hb1 HAW HX HAL
  go_wp2_with (refine wpList_load_blk_g (by rfl) 48 _ rfl HX1.out rfl Tryz.underlying48 rfl HI.out ?_)
  refine (lawMessage_any _ (Sh.rep_below H.out HB1.out) H1.out (fun b hb => Nat.lt_of_lt_of_le (HS.out b hb) HB1.out.size) HL.out (HP.out.below HB1.out)).mono ?_
  rintro e w2 ⟨rfl, hb2⟩

  have HB2 := Lib.hid (HB1.out.trans (hb2.mono HB1.out.size))
  clear hb2 HX1 HB1
  go_wp2_with fail
  go_ret
  exact ⟨rfl, HB2.out⟩

set_option maxRecDepth 100000 in
theorem calls {H : Type} {enc : TypeId × Value → H} (W : World) (base : Nat) (args : Array Value) (ds : List (DataW H)) (ps : List MemPlace)
    (hval : ∀ (j : Nat) t v, Tryz.f4.params[j]? = some t → args[j]? = some v → Value.okWide Tryz.prog W .any base t v)
    (hA : DataW.TrodAll enc Tryz.prog W 0 (fun _ => true) true Tryz.f4.params.toList args.toList ds ps) (hsz : Rows.uptoBulkAll ds ≤ 1048576) (hL : laidMetH Tryz.prog codecLaid W) :
    Calls Tryz.prog 4 args W fun e W' => e = .returned (.bool true) ∧ Below W.heap.size W W' := by
  rw [Tryz.params4] at hA hval
  obtain ⟨sent, hp⟩ := pk_of_laid hL
  obtain ⟨v0, d0, rfl, rfl, h0⟩ := trodAll_one hA
  simp only [Rows.uptoBulkAll] at hsz
  obtain ⟨cs, x, rfl, hx, hx1, hxl⟩ := open_thing fitsMessage (.inr (by omega)) (hval 0 48 v0 rfl rfl) h0
  exact walk W (fun _ h => h) hx hx1 (hxl (by omega)) hp

theorem own : ownKnob Tryz.prog.godebug = none := by kernel_rfl
theorem laidOut : laidOutB Tryz.prog = true := by kernel_rfl
noncomputable def rd {H : Type} (enc : TypeId × Value → H) (os : Os) : Option (List (DataW H) × List (DataW H) × List MemPlace) :=
  DataW.whole enc Tryz.prog ((codecWorld os).forCall (fun _ _ => 0) ⟨#[], #[.agg tMessage.zero.toArray], []⟩).memory Tryz.f4.params.toList Rows.codecMessagesSpec.vars false (#[.agg tMessage.zero.toArray] : Array Value).toList 16
theorem rd_some {H : Type} (enc : TypeId × Value → H) (os : Os) : (rd enc os).isSome = true := by kernel_rfl

set_option maxRecDepth 100000 in
theorem lifted (os : Os) (started : os.Started) (H : Type) (enc : TypeId × Value → H) (F : Stop.Interp) :
    ReturnsInHanded {} Tryz.checked os 4 .any ((Rows.OpenSpec.upto Rows.codecMessagesSpec).preRow enc Tryz.prog Tryz.f4 Rows.codecMessagesUptoRow.domain false Rows.codecMessagesUptoRow.laid) (((Rows.OpenSpec.upto Rows.codecMessagesSpec).at F).post enc Tryz.prog Tryz.f4 false true false false) := by
  refine returnsInHanded_of_row (C := Tryz.checked) (s := Rows.OpenSpec.upto Rows.codecMessagesSpec) own started (by kernel_rfl) Tryz.func4
    (witness_row_at (enc := enc) (C := Tryz.checked) false (codecWorld os) #[.agg tMessage.zero.toArray] rfl (by kernel_rfl) (by kernel_rfl) (by kernel_rfl)
      (OpenSpec.preRow_of_cond 16 (show DataW.whole enc Tryz.prog _ _ _ _ _ _ = some ((rd enc os).get (rd_some enc os)) from (Option.some_get (rd_some enc os)).symm) (by kernel_rfl) (fun k hk => by cases hk; kernel_rfl) (by kernel_rfl) (codecWorld_met os _))) ?_
  intro W base args ds gs before hval hW _ hcond _ hL _ _
  have hW0 : DataW.Whole enc Tryz.prog Tryz.f4.params.toList Rows.codecMessagesSpec.vars false W args.toList ds gs before := hW
  have hW1 := hW0
  obtain ⟨p, q, hA, hV, rfl, _, _⟩ := hW1
  obtain ⟨rfl, rfl⟩ := trodVars_none (show DataW.TrodVars enc Tryz.prog W (fun _ => true) [] gs q from hV)
  have hk := hcond _ rfl
  rw [List.append_nil] at hk
  refine (calls W base args ds p hval hA (of_decide_eq_true hk) hL).mono fun e W' ⟨he, hb⟩ => ?_
  exact ⟨_, he, law_post (tb := 4) laidOut (by kernel_rfl) (by kernel_rfl) Tryz.underlying4 rfl (fun ds hl => match ds, hl with | [_], _ => rfl) hW0 hb⟩

theorem said : Rows.CodecMessagesUptoSaid :=
  OpenClaim.holds_of_cond 4 Tryz.f4 rfl rfl rfl rfl rfl rfl rfl ⟨rfl, rfl, rfl, rfl, rfl⟩ rfl rfl rfl rfl rfl (by kernel_rfl) Tryz.func4 (by kernel_rfl)
    (of_decide_eq_true (by kernel_rfl)) (by unfold Func.isWrapper; first | (rw [if_pos (by decide +kernel)]; kernel_rfl) | (rw [if_neg (by decide +kernel)]; exact ⟨rfl, rfl⟩))
    (fun os started H enc _ F => by rw [OpenClaim.pre_eq_preRow]; exact lifted os started H enc F)

theorem plain (f : FuncId) (fn : Func) (hf : Tryz.pinned.checked.prog.funcNamed "wapentake/wapentakelaw02.CodecMessages" = some f) (hfn : Tryz.pinned.checked.prog.funcs[f]? = some fn) :
    true = Tryz.pinned.checked.prog.looks [] ∧ ∀ (j : Nat) t, fn.params[j]? = some t → Tryz.pinned.checked.prog.wantsStandIn t = false := by
  obtain rfl : f = 4 := Option.some.inj ((show Tryz.prog.funcNamed "wapentake/wapentakelaw02.CodecMessages" = some 4 by kernel_rfl).symm.trans hf) |>.symm
  obtain rfl : fn = Tryz.f4 := (Option.some.inj (Tryz.func4.symm.trans hfn)).symm
  refine ⟨by kernel_rfl, fun j t ht => ?_⟩
  rw [Tryz.params4] at ht
  have hm : t ∈ #[48] := Array.mem_of_getElem? ht
  have hm : t ∈ [48] := by simpa using hm
  have hall : ∀ t ∈ [48], Tryz.prog.wantsStandIn t = false := by
    intro t ht
    have hb : ([48] : List Nat).all (fun t => !(Tryz.prog.wantsStandIn t)) = true := by kernel_rfl
    simpa using List.all_eq_true.1 hb t ht
  exact hall t hm

theorem holds : Rows.CodecMessagesUptoCardSaid :=
  Claim7.holds_tied_plain_at .later [] _ _ _ _ said (fun _ h => by cases h) (by kernel_rfl) (fun _ h => by cases h) codecMessagesUpto_row_tie rfl ⟨rfl, rfl⟩ (by kernel_rfl) rfl plain (by kernel_rfl)
#print axioms holds
end Go.Proofs.YtjjgmkfkmckkoabGreatDoor.lawCodecMessages
