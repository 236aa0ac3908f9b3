/- CodecFacts, its second form: the row and its card. Conditions: the bulk beside the row's own. Printed by genCard.py. -/
import Derived.Test.YtjjgmkfkmckkoaaDoorCards
import Derived.Test.YtjjgmkfkmckkoaaDoorTie
import Derived.Test.YtjjgmkfkmckkoaaDoorMk
import Derived.Test.YtjjgmkfkmckkoaaDoorMb
import Derived.Test.YtjjgmkfkmckkoaaDoorMc
import Derived.Test.YtjjgmkfkmckkoaaDoorMa
import Derived.WalkKit
import Derived.ProofKit
import Derived.OpenShut
import Derived.Deep.DeepHandedRow
namespace Go.Proofs.YtjjgmkfkmckkoaaDoor.lawCodecFacts
open Go.ChangeShapes Go.WideShapes Go.ChangeAt Go.RowKit Go.Maps
attribute [-simp] Tryd.isAgg23 Tryd.typeInfo23 Tryd.isAgg60 Tryd.typeInfo60 Tryd.isAgg63 Tryd.typeInfo63

set_option maxHeartbeats 8000000 in
set_option maxRecDepth 100000 in
theorem walk (w : World) {S : Nat → Prop} {x : tFact.El} {cs : List Value} {y : tRecord.El} {ds : List Value} {sent : Value} (hS : ∀ b, S b → b < w.heap.size) (h : tFact.rep w S x cs) (h_ : tRecord.rep w S y ds) (h1 : ∀ u ∈ cs, u.oneCell' = true) (h1' : ∀ u ∈ ds, u.oneCell' = true) (hl : (tFact.enc x).length ≤ 1099511627776) (hl' : (tRecord.enc y).length ≤ 1099511627776) (hp : Pk w sent) :
    Calls Tryd.prog 7 #[.agg cs.toArray, .agg ds.toArray] w fun e w' => e = .returned (.bool true) ∧ Below w.heap.size w w' := by
  have HI := Lib.hid (show (Tryd.prog.info? 60).map (·.size) = some cs.length from by rw [Sh.rep_size _ _ _ h]; kernel_rfl)
  have hal := (Below.refl w.heap.size w).alloc (Nat.le_refl _) (.cells cs.toArray 60)
  have hx := Blk.new w 60 cs.toArray
  have HJ := Lib.hid (show (Tryd.prog.info? 63).map (·.size) = some ds.length from by rw [Sh.rep_size _ _ _ h_]; kernel_rfl)
  have hal2 := hal.alloc (by simp) (.cells ds.toArray 63)
  have hx2 := hx.alloc (.cells ds.toArray 63)
  have hy := Blk.new (w.alloc (.cells cs.toArray 60)) 63 ds.toArray
  rw [show (w.alloc (.cells cs.toArray 60)).heap.size = w.heap.size + 1 by simp] at hy
  have HY := Lib.hid hy
  have H' := Lib.hid h_
  have H1' := Lib.hid h1'
  have HL' := Lib.hid hl'
  have HAW := Lib.hid (awake_any _ (hp.below hal2))
  have H := Lib.hid h
  have H1 := Lib.hid h1
  have HL := Lib.hid hl
  have HP := Lib.hid hp
  have HS := Lib.hid hS
  have HAL := Lib.hid hal2
  have HX := Lib.hid hx2
  clear h h1 hl hp hS hx hal h_ h1' hl' hal2 hx2 hy
  go_enter Tryd.func7, Tryd.ntmps7
  go_wp2_with fail
  refine HAW.out.mono ?_
  rintro e w1 ⟨rfl, hb1⟩
  have HX1 := Lib.hid (HX.out.below hb1 HX.out.lt)
  have HY1 := Lib.hid (HY.out.below hb1 HY.out.lt)
  have HB1 := Lib.hid (HAL.out.trans (hb1.mono HAL.out.size))
  clear hb1 HAW HX HAL HY
  go_wp2_with (refine wpList_load_blk_g (by rfl) 60 _ rfl HX1.out rfl Tryd.underlying60 rfl HI.out ?_)
  refine (lawFact_any _ (Sh.rep_below H.out HB1.out) H1.out (fun b hb => Nat.lt_of_lt_of_le (HS.out b hb) HB1.out.size) HL.out (HP.out.below HB1.out)).mono ?_
  rintro e w2 ⟨rfl, hb2⟩
  have HY2 := Lib.hid (HY1.out.below hb2 HY1.out.lt)
  have HB2 := Lib.hid (HB1.out.trans (hb2.mono HB1.out.size))
  clear hb2 HX1 HB1 HY1
  go_wp2_with (refine wpList_load_blk_g (by rfl) 63 _ rfl HY2.out rfl Tryd.underlying63 rfl HJ.out ?_)
  refine (lawRecord_any _ (Sh.rep_below H'.out HB2.out) H1'.out (fun b hb => Nat.lt_of_lt_of_le (HS.out b hb) HB2.out.size) HL'.out (HP.out.below HB2.out)).mono ?_
  rintro e w3 ⟨rfl, hb3⟩
  have HB3 := Lib.hid (HB2.out.trans (hb3.mono HB2.out.size))
  go_wp2_with fail
  go_ret
  exact ⟨rfl, HB3.out⟩

set_option maxRecDepth 100000 in
theorem calls {H : Type} {enc : TypeId × Value → H} (W : World) (base : Nat) (args : Array Value) (ds : List (DataW H)) (ps : List MemPlace)
    (hval : ∀ (j : Nat) t v, Tryd.f7.params[j]? = some t → args[j]? = some v → Value.okWide Tryd.prog W .any base t v)
    (hA : DataW.TrodAll enc Tryd.prog W 0 (fun _ => true) true Tryd.f7.params.toList args.toList ds ps) (hsz : Rows.uptoBulkAll ds ≤ 1048576) (hL : laidMetH Tryd.prog codecLaid W) :
    Calls Tryd.prog 7 args W fun e W' => e = .returned (.bool true) ∧ Below W.heap.size W W' := by
  rw [Tryd.params7] at hA hval
  obtain ⟨sent, hp⟩ := pk_of_laid hL
  obtain ⟨v0, v1, d0, d1, p0, p1, rfl, rfl, rfl, h0, h1⟩ := trodAll_two hA
  simp only [Rows.uptoBulkAll] at hsz
  obtain ⟨cs, x, rfl, hx, hx1, hxl⟩ := open_thing fitsFact (.inr (by omega)) (hval 0 60 v0 rfl rfl) h0
  obtain ⟨ds', y, rfl, hy, hy1, hyl⟩ := open_thing fitsRecord (.inr (by omega)) (hval 1 63 v1 rfl rfl) h1
  exact walk W (fun _ h => h) hx hy hx1 hy1 (hxl (by omega)) (hyl (by omega)) hp

theorem own : ownKnob Tryd.prog.godebug = none := by kernel_rfl
theorem laidOut : laidOutB Tryd.prog = true := by kernel_rfl
noncomputable def rd {H : Type} (enc : TypeId × Value → H) (os : Os) : Option (List (DataW H) × List (DataW H) × List MemPlace) :=
  DataW.whole enc Tryd.prog ((codecWorld os).forCall (fun _ _ => 0) ⟨#[], #[.agg tFact.zero.toArray, .agg tRecord.zero.toArray], []⟩).memory Tryd.f7.params.toList Rows.codecFactsSpec.vars false (#[.agg tFact.zero.toArray, .agg tRecord.zero.toArray] : Array Value).toList 16
theorem rd_some {H : Type} (enc : TypeId × Value → H) (os : Os) : (rd enc os).isSome = true := by kernel_rfl

set_option maxRecDepth 100000 in
theorem lifted (os : Os) (started : os.Started) (H : Type) (enc : TypeId × Value → H) (F : Stop.Interp) :
    ReturnsInHanded {} Tryd.checked os 7 .any ((Rows.OpenSpec.upto Rows.codecFactsSpec).preRow enc Tryd.prog Tryd.f7 Rows.codecFactsUptoRow.domain false Rows.codecFactsUptoRow.laid) (((Rows.OpenSpec.upto Rows.codecFactsSpec).at F).post enc Tryd.prog Tryd.f7 false true false false) := by
  refine returnsInHanded_of_row (C := Tryd.checked) (s := Rows.OpenSpec.upto Rows.codecFactsSpec) own started (by kernel_rfl) Tryd.func7
    (witness_row_at (enc := enc) (C := Tryd.checked) false (codecWorld os) #[.agg tFact.zero.toArray, .agg tRecord.zero.toArray] rfl (by kernel_rfl) (by kernel_rfl) (by kernel_rfl)
      (OpenSpec.preRow_of_cond 16 (show DataW.whole enc Tryd.prog _ _ _ _ _ _ = some ((rd enc os).get (rd_some enc os)) from (Option.some_get (rd_some enc os)).symm) (by kernel_rfl) (fun k hk => by cases hk; kernel_rfl) (by kernel_rfl) (codecWorld_met os _))) ?_
  intro W base args ds gs before hval hW _ hcond _ hL _ _
  have hW0 : DataW.Whole enc Tryd.prog Tryd.f7.params.toList Rows.codecFactsSpec.vars false W args.toList ds gs before := hW
  have hW1 := hW0
  obtain ⟨p, q, hA, hV, rfl, _, _⟩ := hW1
  obtain ⟨rfl, rfl⟩ := trodVars_none (show DataW.TrodVars enc Tryd.prog W (fun _ => true) [] gs q from hV)
  have hk := hcond _ rfl
  rw [List.append_nil] at hk
  refine (calls W base args ds p hval hA (of_decide_eq_true hk) hL).mono fun e W' ⟨he, hb⟩ => ?_
  exact ⟨_, he, law_post (tb := 4) laidOut (by kernel_rfl) (by kernel_rfl) Tryd.underlying4 rfl (fun ds hl => match ds, hl with | [_, _], _ => rfl) hW0 hb⟩

theorem said : Rows.CodecFactsUptoSaid :=
  OpenClaim.holds_of_cond 7 Tryd.f7 rfl rfl rfl rfl rfl rfl rfl ⟨rfl, rfl, rfl, rfl, rfl⟩ rfl rfl rfl rfl rfl (by kernel_rfl) Tryd.func7 (by kernel_rfl)
    (of_decide_eq_true (by kernel_rfl)) (by unfold Func.isWrapper; first | (rw [if_pos (by decide +kernel)]; kernel_rfl) | (rw [if_neg (by decide +kernel)]; exact ⟨rfl, rfl⟩))
    (fun os started H enc _ F => by rw [OpenClaim.pre_eq_preRow]; exact lifted os started H enc F)

theorem plain (f : FuncId) (fn : Func) (hf : Tryd.pinned.checked.prog.funcNamed "wapentake/wapentakelaw02.CodecFacts" = some f) (hfn : Tryd.pinned.checked.prog.funcs[f]? = some fn) :
    true = Tryd.pinned.checked.prog.looks [] ∧ ∀ (j : Nat) t, fn.params[j]? = some t → Tryd.pinned.checked.prog.wantsStandIn t = false := by
  obtain rfl : f = 7 := Option.some.inj ((show Tryd.prog.funcNamed "wapentake/wapentakelaw02.CodecFacts" = some 7 by kernel_rfl).symm.trans hf) |>.symm
  obtain rfl : fn = Tryd.f7 := (Option.some.inj (Tryd.func7.symm.trans hfn)).symm
  refine ⟨by kernel_rfl, fun j t ht => ?_⟩
  rw [Tryd.params7] at ht
  have hm : t ∈ #[60, 63] := Array.mem_of_getElem? ht
  have hm : t ∈ [60, 63] := by simpa using hm
  have hall : ∀ t ∈ [60, 63], Tryd.prog.wantsStandIn t = false := by
    intro t ht
    have hb : ([60, 63] : List Nat).all (fun t => !(Tryd.prog.wantsStandIn t)) = true := by kernel_rfl
    simpa using List.all_eq_true.1 hb t ht
  exact hall t hm

theorem holds : Rows.CodecFactsUptoCardSaid :=
  Claim7.holds_tied_plain_at .later [] _ _ _ _ said (fun _ h => by cases h) (by kernel_rfl) (fun _ h => by cases h) codecFactsUpto_row_tie rfl ⟨rfl, rfl⟩ (by kernel_rfl) rfl plain (by kernel_rfl)
#print axioms holds
end Go.Proofs.YtjjgmkfkmckkoaaDoor.lawCodecFacts
