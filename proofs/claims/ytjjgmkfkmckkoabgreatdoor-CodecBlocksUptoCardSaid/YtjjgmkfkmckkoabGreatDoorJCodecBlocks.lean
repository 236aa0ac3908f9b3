/- CodecBlocks, its second form: the row and its card. Conditions: the bulk beside the row's own. Printed by genCard.py. -/
import Derived.Test.YtjjgmkfkmckkoabGreatDoorCards
import Derived.Test.YtjjgmkfkmckkoabGreatDoorTie
import Derived.Test.YtjjgmkfkmckkoabGreatDoorMf
import Derived.Test.YtjjgmkfkmckkoabGreatDoorMd
import Derived.Test.YtjjgmkfkmckkoabGreatDoorMb
import Derived.Test.YtjjgmkfkmckkoabGreatDoorMa
import Derived.WalkKit
import Derived.ProofKit
import Derived.OpenShut
import Derived.Deep.DeepHandedRow
namespace Go.Proofs.YtjjgmkfkmckkoabGreatDoor.lawCodecBlocks
open Go.ChangeShapes Go.WideShapes Go.ChangeAt Go.RowKit Go.Maps
attribute [-simp] Tryz.isAgg24 Tryz.typeInfo24 Tryz.isAgg27 Tryz.typeInfo27 Tryz.isAgg39 Tryz.typeInfo39

set_option maxHeartbeats 8000000 in
set_option maxRecDepth 100000 in
theorem walk (w : World) {S : Nat → Prop} {x : tTx.El} {cs : List Value} {y : tBlock.El} {ds : List Value} {sent : Value} (hS : ∀ b, S b → b < w.heap.size) (h : tTx.rep w S x cs) (h_ : tBlock.rep w S y ds) (h1 : ∀ u ∈ cs, u.oneCell' = true) (h1' : ∀ u ∈ ds, u.oneCell' = true) (hl : (tTx.enc x).length ≤ 1099511627776) (hl' : (tBlock.enc y).length ≤ 1099511627776) (hp : Pk w sent) :
    Calls Tryz.prog 3 #[.agg cs.toArray, .agg ds.toArray] w fun e w' => e = .returned (.bool true) ∧ Below w.heap.size w w' := by
  have HI := Lib.hid (show (Tryz.prog.info? 27).map (·.size) = some cs.length from by rw [Sh.rep_size _ _ _ h]; kernel_rfl)
  have hal := (Below.refl w.heap.size w).alloc (Nat.le_refl _) (.cells cs.toArray 27)
  have hx := Blk.new w 27 cs.toArray
  have HJ := Lib.hid (show (Tryz.prog.info? 39).map (·.size) = some ds.length from by rw [Sh.rep_size _ _ _ h_]; kernel_rfl)
  have hal2 := hal.alloc (by simp) (.cells ds.toArray 39)
  have hx2 := hx.alloc (.cells ds.toArray 39)
  have hy := Blk.new (w.alloc (.cells cs.toArray 27)) 39 ds.toArray
  rw [show (w.alloc (.cells cs.toArray 27)).heap.size = w.heap.size + 1 by simp] at hy
  have HY := Lib.hid hy
  have H' := Lib.hid h_
  have H1' := Lib.hid h1'
  have HL' := Lib.hid hl'
  have HAW := Lib.hid (awake_any _ (hp.below hal2))
  have H := Lib.hid h
  have H1 := Lib.hid h1
  have HL := Lib.hid hl
  have HP := Lib.hid hp
  have HS := Lib.hid hS
  have HAL := Lib.hid hal2
  have HX := Lib.hid hx2
  clear h h1 hl hp hS hx hal h_ h1' hl' hal2 hx2 hy
  go_enter Tryz.func3, Tryz.ntmps3
  go_wp2_with fail
  refine HAW.out.mono ?_
  rintro e w1 ⟨rfl, hb1⟩
  have HX1 := Lib.hid (HX.out.below hb1 HX.out.lt)
  have HY1 := Lib.hid (HY.out.below hb1 HY.out.lt)
  have HB1 := Lib.hid (HAL.out.trans (hb1.mono HAL.out.size))
  clear hb1 HAW HX HAL HY
  go_wp2_with (refine wpList_load_blk_g (by rfl) 27 _ rfl HX1.out rfl Tryz.underlying27 rfl HI.out ?_)
  refine (lawTx_any _ (Sh.rep_below H.out HB1.out) H1.out (fun b hb => Nat.lt_of_lt_of_le (HS.out b hb) HB1.out.size) HL.out (HP.out.below HB1.out)).mono ?_
  rintro e w2 ⟨rfl, hb2⟩
  have HY2 := Lib.hid (HY1.out.below hb2 HY1.out.lt)
  have HB2 := Lib.hid (HB1.out.trans (hb2.mono HB1.out.size))
  clear hb2 HX1 HB1 HY1
  go_wp2_with (refine wpList_load_blk_g (by rfl) 39 _ rfl HY2.out rfl Tryz.underlying39 rfl HJ.out ?_)
  refine (lawBlock_any _ (Sh.rep_below H'.out HB2.out) H1'.out (fun b hb => Nat.lt_of_lt_of_le (HS.out b hb) HB2.out.size) HL'.out (HP.out.below HB2.out)).mono ?_
  rintro e w3 ⟨rfl, hb3⟩
  have HB3 := Lib.hid (HB2.out.trans (hb3.mono HB2.out.size))
  go_wp2_with fail
  go_ret
  exact ⟨rfl, HB3.out⟩

set_option maxRecDepth 100000 in
theorem calls {H : Type} {enc : TypeId × Value → H} (W : World) (base : Nat) (args : Array Value) (ds : List (DataW H)) (ps : List MemPlace)
    (hval : ∀ (j : Nat) t v, Tryz.f3.params[j]? = some t → args[j]? = some v → Value.okWide Tryz.prog W .any base t v)
    (hA : DataW.TrodAll enc Tryz.prog W 0 (fun _ => true) true Tryz.f3.params.toList args.toList ds ps) (hsz : Rows.uptoBulkAll ds ≤ 1048576) (hL : laidMetH Tryz.prog codecLaid W) :
    Calls Tryz.prog 3 args W fun e W' => e = .returned (.bool true) ∧ Below W.heap.size W W' := by
  rw [Tryz.params3] at hA hval
  obtain ⟨sent, hp⟩ := pk_of_laid hL
  obtain ⟨v0, v1, d0, d1, p0, p1, rfl, rfl, rfl, h0, h1⟩ := trodAll_two hA
  simp only [Rows.uptoBulkAll] at hsz
  obtain ⟨cs, x, rfl, hx, hx1, hxl⟩ := open_thing fitsTx (.inr (by omega)) (hval 0 27 v0 rfl rfl) h0
  obtain ⟨ds', y, rfl, hy, hy1, hyl⟩ := open_thing fitsBlock (.inr (by omega)) (hval 1 39 v1 rfl rfl) h1
  exact walk W (fun _ h => h) hx hy hx1 hy1 (hxl (by omega)) (hyl (by omega)) hp

theorem own : ownKnob Tryz.prog.godebug = none := by kernel_rfl
theorem laidOut : laidOutB Tryz.prog = true := by kernel_rfl
noncomputable def rd {H : Type} (enc : TypeId × Value → H) (os : Os) : Option (List (DataW H) × List (DataW H) × List MemPlace) :=
  DataW.whole enc Tryz.prog ((codecWorld os).forCall (fun _ _ => 0) ⟨#[], #[.agg tTx.zero.toArray, .agg tBlock.zero.toArray], []⟩).memory Tryz.f3.params.toList Rows.codecBlocksSpec.vars false (#[.agg tTx.zero.toArray, .agg tBlock.zero.toArray] : Array Value).toList 16
theorem rd_some {H : Type} (enc : TypeId × Value → H) (os : Os) : (rd enc os).isSome = true := by kernel_rfl

set_option maxRecDepth 100000 in
theorem lifted (os : Os) (started : os.Started) (H : Type) (enc : TypeId × Value → H) (F : Stop.Interp) :
    ReturnsInHanded {} Tryz.checked os 3 .any ((Rows.OpenSpec.upto Rows.codecBlocksSpec).preRow enc Tryz.prog Tryz.f3 Rows.codecBlocksUptoRow.domain false Rows.codecBlocksUptoRow.laid) (((Rows.OpenSpec.upto Rows.codecBlocksSpec).at F).post enc Tryz.prog Tryz.f3 false true false false) := by
  refine returnsInHanded_of_row (C := Tryz.checked) (s := Rows.OpenSpec.upto Rows.codecBlocksSpec) own started (by kernel_rfl) Tryz.func3
    (witness_row_at (enc := enc) (C := Tryz.checked) false (codecWorld os) #[.agg tTx.zero.toArray, .agg tBlock.zero.toArray] rfl (by kernel_rfl) (by kernel_rfl) (by kernel_rfl)
      (OpenSpec.preRow_of_cond 16 (show DataW.whole enc Tryz.prog _ _ _ _ _ _ = some ((rd enc os).get (rd_some enc os)) from (Option.some_get (rd_some enc os)).symm) (by kernel_rfl) (fun k hk => by cases hk; kernel_rfl) (by kernel_rfl) (codecWorld_met os _))) ?_
  intro W base args ds gs before hval hW _ hcond _ hL _ _
  have hW0 : DataW.Whole enc Tryz.prog Tryz.f3.params.toList Rows.codecBlocksSpec.vars false W args.toList ds gs before := hW
  have hW1 := hW0
  obtain ⟨p, q, hA, hV, rfl, _, _⟩ := hW1
  obtain ⟨rfl, rfl⟩ := trodVars_none (show DataW.TrodVars enc Tryz.prog W (fun _ => true) [] gs q from hV)
  have hk := hcond _ rfl
  rw [List.append_nil] at hk
  refine (calls W base args ds p hval hA (of_decide_eq_true hk) hL).mono fun e W' ⟨he, hb⟩ => ?_
  exact ⟨_, he, law_post (tb := 4) laidOut (by kernel_rfl) (by kernel_rfl) Tryz.underlying4 rfl (fun ds hl => match ds, hl with | [_, _], _ => rfl) hW0 hb⟩

theorem said : Rows.CodecBlocksUptoSaid :=
  OpenClaim.holds_of_cond 3 Tryz.f3 rfl rfl rfl rfl rfl rfl rfl ⟨rfl, rfl, rfl, rfl, rfl⟩ rfl rfl rfl rfl rfl (by kernel_rfl) Tryz.func3 (by kernel_rfl)
    (of_decide_eq_true (by kernel_rfl)) (by unfold Func.isWrapper; first | (rw [if_pos (by decide +kernel)]; kernel_rfl) | (rw [if_neg (by decide +kernel)]; exact ⟨rfl, rfl⟩))
    (fun os started H enc _ F => by rw [OpenClaim.pre_eq_preRow]; exact lifted os started H enc F)

theorem plain (f : FuncId) (fn : Func) (hf : Tryz.pinned.checked.prog.funcNamed "wapentake/wapentakelaw02.CodecBlocks" = some f) (hfn : Tryz.pinned.checked.prog.funcs[f]? = some fn) :
    true = Tryz.pinned.checked.prog.looks [] ∧ ∀ (j : Nat) t, fn.params[j]? = some t → Tryz.pinned.checked.prog.wantsStandIn t = false := by
  obtain rfl : f = 3 := Option.some.inj ((show Tryz.prog.funcNamed "wapentake/wapentakelaw02.CodecBlocks" = some 3 by kernel_rfl).symm.trans hf) |>.symm
  obtain rfl : fn = Tryz.f3 := (Option.some.inj (Tryz.func3.symm.trans hfn)).symm
  refine ⟨by kernel_rfl, fun j t ht => ?_⟩
  rw [Tryz.params3] at ht
  have hm : t ∈ #[27, 39] := Array.mem_of_getElem? ht
  have hm : t ∈ [27, 39] := by simpa using hm
  have hall : ∀ t ∈ [27, 39], Tryz.prog.wantsStandIn t = false := by
    intro t ht
    have hb : ([27, 39] : List Nat).all (fun t => !(Tryz.prog.wantsStandIn t)) = true := by kernel_rfl
    simpa using List.all_eq_true.1 hb t ht
  exact hall t hm

theorem holds : Rows.CodecBlocksUptoCardSaid :=
  Claim7.holds_tied_plain_at .later [] _ _ _ _ said (fun _ h => by cases h) (by kernel_rfl) (fun _ h => by cases h) codecBlocksUpto_row_tie rfl ⟨rfl, rfl⟩ (by kernel_rfl) rfl plain (by kernel_rfl)
#print axioms holds
end Go.Proofs.YtjjgmkfkmckkoabGreatDoor.lawCodecBlocks
