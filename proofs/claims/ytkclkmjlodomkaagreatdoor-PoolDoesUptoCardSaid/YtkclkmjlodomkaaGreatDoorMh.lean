/- Texts joined: PoA8 PoB PoQ CsB Law LawUp Open CsQ. -/
import Derived.Test.YtkclkmjlodomkaaGreatDoorMg
import Derived.Test.YtkclkmjlodomkaaGreatDoorMc
import Derived.Stop.LaidTwo
import Derived.LaidLaws
import Derived.LaidHandle
import Derived.WalkKit
import Derived.ProofKit
import Derived.Lib.LaidTab
import Derived.Stop.Texts
import Derived.Test.YtkclkmjlodomkaaGreatDoorRows
import Derived.SizedLaws
import Derived.WideKeyArgs
import Derived.Below
import Derived.Carry
import Derived.Deep.Slices
import Derived.Deep.Fields
import Derived.ChangeSame
import Derived.Test.YtkclkmjlodomkaaGreatDoorMa
import Derived.Test.YtkclkmjlodomkaaGreatDoorBulk
import Derived.JoinedCond
import Derived.OpenShut
namespace Go.Proofs.YtkclkmjlodomkaaGreatDoor
open List (setIfInBounds_toArray getElem_toArray getElem_cons_succ getElem_cons_zero set_cons_succ set_cons_zero filterMap_cons filterMap_nil getElem?_toArray getElem?_cons_succ getElem?_cons_zero)
section
open Go.RowKit Go.Maps
attribute [-simp] Tryz.isAgg40 Tryz.typeInfo40 Tryz.isAgg37 Tryz.typeInfo37 Tryz.sizeOf37
set_option maxHeartbeats 8000000 in
set_option maxRecDepth 100000 in
theorem rform_8 (w : World) (f t a n d dl : Int) (id : List UInt8) (hid : id.length = 32) (m : Int) (A : Option Addr) (nf cap : Nat) (v : Int)
    (hv : v = if nf ≠ 0 ∨ f ≠ 0 ∨ t ≠ 0 ∨ a ≠ 0 ∨ n ≠ 0 ∨ d ≠ 0 ∨ dl ≠ 0 ∨ id ≠ (List.replicate 32 (0 : UInt8)) then 1 else 0) :
    Calls Tryz.prog 33 #[.agg (txl 8 f t a n d dl id m (.slice A nf cap)).toArray] w fun e w' => e = .returned (.int .i64 v) ∧ Below w.heap.size w w' := by
  obtain ⟨cs, hcs⟩ : ∃ cs, cs = (txl 8 f t a n d dl id m (.slice A nf cap)) := ⟨_, rfl⟩
  have hx := (Blk.new w 40 cs.toArray)
  have hal := (Below.refl w.heap.size w).alloc (Nat.le_refl _) (.cells cs.toArray 40)
  rw [← hcs]
  have HX := Lib.hid hx
  have HAL := Lib.hid hal
  have HCS := Lib.hid hcs
  have HID := Lib.hid hid
  have hc0 : (w.alloc (.cells cs.toArray 40)).cell? ⟨w.heap.size, 0, none⟩ = some (.int .i64 8) := by rw [hx.cell, hcs]; rfl
  have hc1 : (w.alloc (.cells cs.toArray 40)).cell? ⟨w.heap.size, 1, none⟩ = some (.int .u64 f) := by rw [hx.cell, hcs]; rfl
  have hc2 : (w.alloc (.cells cs.toArray 40)).cell? ⟨w.heap.size, 2, none⟩ = some (.int .u64 t) := by rw [hx.cell, hcs]; rfl
  have hc3 : (w.alloc (.cells cs.toArray 40)).cell? ⟨w.heap.size, 3, none⟩ = some (.int .u64 a) := by rw [hx.cell, hcs]; rfl
  have hc4 : (w.alloc (.cells cs.toArray 40)).cell? ⟨w.heap.size, 4, none⟩ = some (.int .u64 n) := by rw [hx.cell, hcs]; rfl
  have hc5 : (w.alloc (.cells cs.toArray 40)).cell? ⟨w.heap.size, 5, none⟩ = some (.int .i64 d) := by rw [hx.cell, hcs]; rfl
  have hc6 : (w.alloc (.cells cs.toArray 40)).cell? ⟨w.heap.size, 6, none⟩ = some (.int .i64 dl) := by rw [hx.cell, hcs]; rfl
  have hc40 : (w.alloc (.cells cs.toArray 40)).cell? ⟨w.heap.size, 40, none⟩ = some (.slice A nf cap) := by rw [hx.cell, hcs, getElem?_toArray]; exact txl_40 hid
  have HBU := Lib.hid build_dig0
  have HSI := Lib.hid (dig_sizedI hid)
  have HSZ := Lib.hid dig_sizedZ
  have hz0 := Blk.new (w.alloc (.cells cs.toArray 40)) 37 (List.replicate 32 (.int .u8 0) : List Value).toArray
  rw [show (w.alloc (.cells cs.toArray 40)).heap.size = w.heap.size + 1 by simp] at hz0
  have HZ0 := Lib.hid hz0
  clear hz0
  have hdig : ∀ w', (Op.equalIn 10000 37 (.agg (u8s id).toArray) (.agg #[.int .u8 0, .int .u8 0, .int .u8 0, .int .u8 0, .int .u8 0, .int .u8 0, .int .u8 0, .int .u8 0, .int .u8 0, .int .u8 0, .int .u8 0, .int .u8 0, .int .u8 0, .int .u8 0, .int .u8 0, .int .u8 0, .int .u8 0, .int .u8 0, .int .u8 0, .int .u8 0, .int .u8 0, .int .u8 0, .int .u8 0, .int .u8 0, .int .u8 0, .int .u8 0, .int .u8 0, .int .u8 0, .int .u8 0, .int .u8 0, .int .u8 0, .int .u8 0])).run Tryz.prog w' = .ok (decide (id = (List.replicate 32 (0 : UInt8)))) w' := fun w' => run_eq_dig hid (m := (List.replicate 32 (0 : UInt8))) rfl
  have HV := Lib.hid hv
  have HDIG := Lib.hid hdig
  clear hal hx hid hv hcs hdig
  by_cases hnf : nf = 0
  rotate_left
  · have HQ := Lib.hid hnf
    have hnI : ¬ (nf : Int) = 0 := by omega
    have hnB : ((nf : Int) == 0) = false := by simp; omega
    go_enter Tryz.func33, Tryz.ntmps33
    go_wp2_with fail
    go_ret
    exact ⟨by rw [HV.out, if_pos (.inl HQ.out)]; rfl, HAL.out⟩
  subst hnf
  by_cases hqf : f = 0
  rotate_left
  · have HQ := Lib.hid hqf
    go_enter Tryz.func33, Tryz.ntmps33
    go_wp2_with fail
    go_ret
    exact ⟨by rw [HV.out, if_pos (.inr (.inl HQ.out))]; rfl, HAL.out⟩
  subst hqf
  by_cases hqt : t = 0
  rotate_left
  · have HQ := Lib.hid hqt
    go_enter Tryz.func33, Tryz.ntmps33
    go_wp2_with fail
    go_ret
    exact ⟨by rw [HV.out, if_pos (.inr (.inr (.inl HQ.out)))]; rfl, HAL.out⟩
  subst hqt
  by_cases hqa : a = 0
  rotate_left
  · have HQ := Lib.hid hqa
    go_enter Tryz.func33, Tryz.ntmps33
    go_wp2_with fail
    go_ret
    exact ⟨by rw [HV.out, if_pos (.inr (.inr (.inr (.inl HQ.out))))]; rfl, HAL.out⟩
  subst hqa
  by_cases hqn : n = 0
  rotate_left
  · have HQ := Lib.hid hqn
    go_enter Tryz.func33, Tryz.ntmps33
    go_wp2_with fail
    go_ret
    exact ⟨by rw [HV.out, if_pos (.inr (.inr (.inr (.inr (.inl HQ.out)))))]; rfl, HAL.out⟩
  subst hqn
  by_cases hqd : d = 0
  rotate_left
  · have HQ := Lib.hid hqd
    go_enter Tryz.func33, Tryz.ntmps33
    go_wp2_with fail
    go_ret
    exact ⟨by rw [HV.out, if_pos (.inr (.inr (.inr (.inr (.inr (.inl HQ.out))))))]; rfl, HAL.out⟩
  subst hqd
  by_cases hqdl : dl = 0
  rotate_left
  · have HQ := Lib.hid hqdl
    go_enter Tryz.func33, Tryz.ntmps33
    go_wp2_with fail
    go_ret
    exact ⟨by rw [HV.out, if_pos (.inr (.inr (.inr (.inr (.inr (.inr (.inl HQ.out)))))))]; rfl, HAL.out⟩
  subst hqdl
  by_cases hqid : id = (List.replicate 32 (0 : UInt8))
  rotate_left
  · have HQ := Lib.hid hqid
    have hdd : decide (id = (List.replicate 32 (0 : UInt8))) = false := decide_eq_false hqid
    have HDIG := Lib.hid (fun w2 => (HDIG.out w2).trans (by rw [hdd]))
    clear hdd hqid
    go_enter Tryz.func33, Tryz.ntmps33
    go_wp2_with ((with_reducible (show wpList _ _ _ (⟨_, .build _ _, _, _, _, _⟩ :: _) _ _)); refine Hid.out ?_)
    refine Lib.hid ?_
    refine wpList_build_ rfl 37 _ rfl #[] (by simp [Act.eval]) _ (HBU.out _) ?_
    go_wp2_with ((with_reducible (show wpList _ _ _ (⟨_, .store _ _ _, _, _, _, _⟩ :: _) _ _)); refine Hid.out ?_)
    refine Lib.hid ?_
    refine wpList_store_blk (cs0 := List.replicate 32 (.int .u8 0)) (cs := u8s (List.replicate 32 (0 : UInt8))) rfl 37 _ _ rfl HZ0.out rfl rfl (by simp [u8s]) (by kernel_rfl) (u8s_one _) ?_
    intro w2 hb hc
    have HZ2 := Lib.hid hb
    have HB2 := Lib.hid (HAL.out.trans (((((Below.refl (w.alloc (.cells cs.toArray 40)).heap.size (w.alloc (.cells cs.toArray 40))).alloc (Nat.le_refl _) (.cells ((List.replicate 32 (.int .u8 0) : List Value)).toArray 37)).trans (hc.below (by simp) fun b h => by have h : b = w.heap.size + 1 := h; simp [h]))).mono HAL.out.size))
    have HX2 := Lib.hid ((HX.out.alloc (.cells ((List.replicate 32 (.int .u8 0) : List Value)).toArray 37)).chg hc (by omega))
    have hq0 : w2.cell? ⟨w.heap.size, 0, none⟩ = some (.int .i64 8) := (by rw [HX2.out.cell, HCS.out]; rfl)
    have hq39 : w2.cell? ⟨w.heap.size, 39, none⟩ = some (.int .i64 m) := (by rw [HX2.out.cell, HCS.out, getElem?_toArray]; exact txl_39 HID.out)
    have HRI := Lib.hid (show w2.rangeAt w.heap.size 7 (u8s id) from by have h := HX2.out; rw [HCS.out] at h; exact txl_id h)
    have HZRO := Lib.hid (show w2.rangeAt (w.heap.size + 1) 0 [.int .u8 0, .int .u8 0, .int .u8 0, .int .u8 0, .int .u8 0, .int .u8 0, .int .u8 0, .int .u8 0, .int .u8 0, .int .u8 0, .int .u8 0, .int .u8 0, .int .u8 0, .int .u8 0, .int .u8 0, .int .u8 0, .int .u8 0, .int .u8 0, .int .u8 0, .int .u8 0, .int .u8 0, .int .u8 0, .int .u8 0, .int .u8 0, .int .u8 0, .int .u8 0, .int .u8 0, .int .u8 0, .int .u8 0, .int .u8 0, .int .u8 0, .int .u8 0] from by have h := HZ2.out.range; rw [z32_eq] at h; exact h)
    clear hb hc
    have hdig := HDIG.out
    go_wp2_with fail
    simp only [Tryz.sizeOf37, Result.andThen, ↓reduceIte, Nat.reduceEqDiff]
    rw [Oper.upon_value]
    go_wp2_with (first
    | (refine wpList_load_mid_g (by kernel_rfl) 37 _ rfl w.heap.size 7 rfl (u8s id) _ HRI.out Tryz.underlying37 rfl HSI.out ?_)
    | (refine wpList_load_mid_g (by kernel_rfl) 37 _ rfl (w.heap.size + 1) 0 rfl [.int .u8 0, .int .u8 0, .int .u8 0, .int .u8 0, .int .u8 0, .int .u8 0, .int .u8 0, .int .u8 0, .int .u8 0, .int .u8 0, .int .u8 0, .int .u8 0, .int .u8 0, .int .u8 0, .int .u8 0, .int .u8 0, .int .u8 0, .int .u8 0, .int .u8 0, .int .u8 0, .int .u8 0, .int .u8 0, .int .u8 0, .int .u8 0, .int .u8 0, .int .u8 0, .int .u8 0, .int .u8 0, .int .u8 0, .int .u8 0, .int .u8 0, .int .u8 0] _ HZRO.out Tryz.underlying37 rfl HSZ.out ?_; refine Hid.out ?_))
    refine Lib.hid ?_
    go_wp2_with fail
    go_ret
    exact ⟨by rw [HV.out, if_pos (.inr (.inr (.inr (.inr (.inr (.inr (.inr HQ.out)))))))]; rfl, HB2.out⟩
  have hdd : decide (id = (List.replicate 32 (0 : UInt8))) = true := decide_eq_true hqid
  have HDIG := Lib.hid (fun w2 => (HDIG.out w2).trans (by rw [hdd]))
  have HQID := Lib.hid hqid
  clear hdd hqid
  go_enter Tryz.func33, Tryz.ntmps33
  go_wp2_with ((with_reducible (show wpList _ _ _ (⟨_, .build _ _, _, _, _, _⟩ :: _) _ _)); refine Hid.out ?_)
  refine Lib.hid ?_
  refine wpList_build_ rfl 37 _ rfl #[] (by simp [Act.eval]) _ (HBU.out _) ?_
  go_wp2_with ((with_reducible (show wpList _ _ _ (⟨_, .store _ _ _, _, _, _, _⟩ :: _) _ _)); refine Hid.out ?_)
  refine Lib.hid ?_
  refine wpList_store_blk (cs0 := List.replicate 32 (.int .u8 0)) (cs := u8s (List.replicate 32 (0 : UInt8))) rfl 37 _ _ rfl HZ0.out rfl rfl (by simp [u8s]) (by kernel_rfl) (u8s_one _) ?_
  intro w2 hb hc
  have HZ2 := Lib.hid hb
  have HB2 := Lib.hid (HAL.out.trans (((((Below.refl (w.alloc (.cells cs.toArray 40)).heap.size (w.alloc (.cells cs.toArray 40))).alloc (Nat.le_refl _) (.cells ((List.replicate 32 (.int .u8 0) : List Value)).toArray 37)).trans (hc.below (by simp) fun b h => by have h : b = w.heap.size + 1 := h; simp [h]))).mono HAL.out.size))
  have HX2 := Lib.hid ((HX.out.alloc (.cells ((List.replicate 32 (.int .u8 0) : List Value)).toArray 37)).chg hc (by omega))
  have hq0 : w2.cell? ⟨w.heap.size, 0, none⟩ = some (.int .i64 8) := (by rw [HX2.out.cell, HCS.out]; rfl)
  have hq39 : w2.cell? ⟨w.heap.size, 39, none⟩ = some (.int .i64 m) := (by rw [HX2.out.cell, HCS.out, getElem?_toArray]; exact txl_39 HID.out)
  have HRI := Lib.hid (show w2.rangeAt w.heap.size 7 (u8s id) from by have h := HX2.out; rw [HCS.out] at h; exact txl_id h)
  have HZRO := Lib.hid (show w2.rangeAt (w.heap.size + 1) 0 [.int .u8 0, .int .u8 0, .int .u8 0, .int .u8 0, .int .u8 0, .int .u8 0, .int .u8 0, .int .u8 0, .int .u8 0, .int .u8 0, .int .u8 0, .int .u8 0, .int .u8 0, .int .u8 0, .int .u8 0, .int .u8 0, .int .u8 0, .int .u8 0, .int .u8 0, .int .u8 0, .int .u8 0, .int .u8 0, .int .u8 0, .int .u8 0, .int .u8 0, .int .u8 0, .int .u8 0, .int .u8 0, .int .u8 0, .int .u8 0, .int .u8 0, .int .u8 0] from by have h := HZ2.out.range; rw [z32_eq] at h; exact h)
  clear hb hc
  have hdig := HDIG.out
  go_wp2_with fail
  simp only [Tryz.sizeOf37, Result.andThen, ↓reduceIte, Nat.reduceEqDiff]
  rw [Oper.upon_value]
  go_wp2_with (first
  | (refine wpList_load_mid_g (by kernel_rfl) 37 _ rfl w.heap.size 7 rfl (u8s id) _ HRI.out Tryz.underlying37 rfl HSI.out ?_)
  | (refine wpList_load_mid_g (by kernel_rfl) 37 _ rfl (w.heap.size + 1) 0 rfl [.int .u8 0, .int .u8 0, .int .u8 0, .int .u8 0, .int .u8 0, .int .u8 0, .int .u8 0, .int .u8 0, .int .u8 0, .int .u8 0, .int .u8 0, .int .u8 0, .int .u8 0, .int .u8 0, .int .u8 0, .int .u8 0, .int .u8 0, .int .u8 0, .int .u8 0, .int .u8 0, .int .u8 0, .int .u8 0, .int .u8 0, .int .u8 0, .int .u8 0, .int .u8 0, .int .u8 0, .int .u8 0, .int .u8 0, .int .u8 0, .int .u8 0, .int .u8 0] _ HZRO.out Tryz.underlying37 rfl HSZ.out ?_; refine Hid.out ?_))
  refine Lib.hid ?_
  go_wp2_with fail
  go_ret
  exact ⟨by rw [HV.out, if_neg (by simp [HQID.out])]; rfl, HB2.out⟩
end
section
open Go.RowKit Go.Maps
attribute [-simp] Tryz.isAgg40 Tryz.typeInfo40 Tryz.isAgg37 Tryz.typeInfo37 Tryz.sizeOf37
set_option maxHeartbeats 8000000 in
set_option maxRecDepth 100000 in
theorem rform_else (w : World) (k f t a n d dl : Int) (id : List UInt8) (m : Int) (A : Option Addr) (nf cap : Nat) (hk : k < 1 ∨ 8 < k) :
    Calls Tryz.prog 33 #[.agg (txl k f t a n d dl id m (.slice A nf cap)).toArray] w fun e w' => e = .returned (.int .i64 20) ∧ Below w.heap.size w w' := by
  obtain ⟨cs, hcs⟩ : ∃ cs, cs = (txl k f t a n d dl id m (.slice A nf cap)) := ⟨_, rfl⟩
  have hx := (Blk.new w 40 cs.toArray)
  have hal := (Below.refl w.heap.size w).alloc (Nat.le_refl _) (.cells cs.toArray 40)
  rw [← hcs]
  have HAL := Lib.hid hal
  have hc0 : (w.alloc (.cells cs.toArray 40)).cell? ⟨w.heap.size, 0, none⟩ = some (.int .i64 k) := by rw [hx.cell, hcs]; rfl
  clear hal hx hcs
  by_cases h1 : k < 1
  · have hd : decide (k < 1) = true := decide_eq_true h1
    clear hk
    go_enter Tryz.func33, Tryz.ntmps33
    go_wp2_with fail
    go_ret
    exact ⟨rfl, HAL.out⟩
  · have h2 : 8 < k := by omega
    have hd : decide (k < 1) = false := decide_eq_false h1
    clear hk
    go_enter Tryz.func33, Tryz.ntmps33
    go_wp2_with fail
    go_ret
    exact ⟨rfl, HAL.out⟩
theorem rform_all (w : World) (k f t a n d dl : Int) (id : List UInt8) (hid : id.length = 32) (m : Int) (A : Option Addr) (fc : List tFact.El) (cap : Nat) :
    Calls Tryz.prog 33 #[.agg (txl k f t a n d dl id m (.slice A fc.length cap)).toArray] w fun e w' => e = .returned (.int .i64 (formX (k, f, t, a, n, d, dl, id, m, fc, ()))) ∧ Below w.heap.size w w' := by
  by_cases hk : k < 1 ∨ 8 < k
  · rw [show formX (k, f, t, a, n, d, dl, id, m, fc, ()) = 20 from by unfold formX kindX; exact if_pos hk]
    exact rform_else w k f t a n d dl id m A _ cap hk
  · have hk' : k = 1 ∨ k = 2 ∨ k = 3 ∨ k = 4 ∨ k = 5 ∨ k = 6 ∨ k = 7 ∨ k = 8 := by omega
    rcases hk' with rfl | rfl | rfl | rfl | rfl | rfl | rfl | rfl
    · exact rform_1 w f t a n d dl id hid m A _ cap _ (by unfold formX kindX; simp [or_assoc])
    · exact rform_2 w f t a n d dl id hid m A _ cap _ (by unfold formX kindX; simp [])
    · exact rform_3 w f t a n d dl id hid m A _ cap _ (by unfold formX kindX; simp [or_assoc])
    · exact rform_4 w f t a n d dl id hid m A _ cap _ (by unfold formX kindX; simp [or_assoc])
    · exact rform_5 w f t a n d dl id hid m A _ cap _ (by unfold formX kindX; simp [or_assoc])
    · exact rform_6 w f t a n d dl id hid m A _ cap _ (by unfold formX kindX; simp [or_assoc])
    · exact rform_7 w f t a n d dl id hid m A _ cap _ (by unfold formX kindX; simp [or_assoc])
    · exact rform_8 w f t a n d dl id hid m A _ cap _ (by unfold formX kindX; simp [or_assoc])
theorem rform_any (w : World) {S : Nat → Prop} {x : TxE} {cs : List Value} (h : tTx.rep w S x cs) : Calls Tryz.prog 33 #[.agg cs.toArray] w fun e w' => e = .returned (.int .i64 (formX x)) ∧ Below w.heap.size w w' := by
  obtain ⟨A, cap, hcs, hid⟩ := txl_of h
  rw [hcs]
  exact rform_all w x.1 x.2.1 x.2.2.1 x.2.2.2.1 x.2.2.2.2.1 x.2.2.2.2.2.1 x.2.2.2.2.2.2.1 x.2.2.2.2.2.2.2.1 hid x.2.2.2.2.2.2.2.2.1 A x.2.2.2.2.2.2.2.2.2.1 cap
end
section
open Go.RowKit Go.Maps
theorem lawDoes_all (w : World) {S : Nat → Prop} {sent : Value} {most : Int} {y : Value} {l : List StepE} (hy : (Sh.list tStep).rep w S l [y]) (hyl : ((Sh.list tStep).enc l).length ≤ 1099511627776) (hk : Pk w sent) :
    Calls Tryz.prog 3 #[.int .i64 most, y] w fun e w' => e = .returned (.bool true) ∧ Below w.heap.size w w' :=
  lawDoes_any (fun w _ _ _ h => rform_any w h) w hy hyl hk
end
section
open Go.ChangeShapes Go.WideShapes Go.ChangeAt Go.RowKit
theorem pk_gF : Tryz.prog.globalNamed "wapentake/codec.errForm" = some 1 := by kernel_rfl
theorem pk_gB : Tryz.prog.globalNamed "wapentake/codec.errBytes" = some 0 := by kernel_rfl
theorem pk_gH : Tryz.prog.globalNamed "errors.errorType" = some 2 := by kernel_rfl
theorem pk_gFt : (Tryz.prog.globals[1]?).map (·.type) = some 131 := by kernel_rfl
theorem pk_gBt : (Tryz.prog.globals[0]?).map (·.type) = some 131 := by kernel_rfl
theorem pk_rt : (Tryz.prog.cutTypes.find? (·.1 == "internal/reflectlite.rtype")).map (·.2) = some 182 := by kernel_rfl
theorem pk_rows : ((List.range Tryz.prog.types.size).filter fun t => Tryz.prog.rowNamed t [101, 114, 114, 111, 114]) = [131] := by kernel_rfl
theorem pk_cells1 : Tryz.prog.cellsOf 226 = 1 := by kernel_rfl
theorem pk_cells2 : Tryz.prog.cellsOf 9 = 1 := by kernel_rfl
theorem pk_star : "*" ++ "errors.errorString" = "*errors.errorString" := by decide
theorem pk_row (u : TypeId) (h : Tryz.prog.typeName? 3 u = some "*errors.errorString") : u = 205 :=
  typeName_ptr_named (nm := "errors.errorString") (by rw [pk_star]; kernel_rfl) (by kernel_rfl) (by decide) u (by rw [pk_star]; exact h)
def codecLaid : List (String × DataW Unit) := [("errors.errorType", Rows.laid_errors_errorType), ("wapentake/codec.errForm", Rows.laid_wapentake_codec_errForm), ("wapentake/codec.errBytes", Rows.laid_wapentake_codec_errBytes)]
theorem pk_of_laid {W : World} (h : laidMetH Tryz.prog codecLaid W) : ∃ sent, Pk W sent := by
  have h' : laidMet Tryz.prog [("wapentake/codec.errForm", Rows.laid_wapentake_codec_errForm), ("wapentake/codec.errBytes", Rows.laid_wapentake_codec_errBytes)] W ∧ handlesMet Tryz.prog [("errors.errorType", Rows.laid_errors_errorType)] W := h
  obtain ⟨name, u, ty, e1, e2, e3, e4, e5⟩ := h'.2 _ (List.mem_singleton.2 rfl)
  have en : name = [101, 114, 114, 111, 114] := (Option.some.inj e1).symm
  subst en
  obtain rfl := Option.some.inj (pk_rt.symm.trans e2)
  have hm : ty ∈ (List.range Tryz.prog.types.size).filter fun t => Tryz.prog.rowNamed t [101, 114, 114, 111, 114] := List.mem_filter.2 ⟨List.mem_range.2 e3, e4⟩
  rw [pk_rows] at hm
  obtain rfl := List.mem_singleton.1 hm
  have hh : typeHandle Tryz.prog 131 = .pointer (some ⟨nG, 131, none⟩) := by kernel_rfl
  rw [hh] at e5
  have hty : W.cell? ⟨2, 0, none⟩ = some (.iface 182 (.agg #[.pointer (some ⟨nG, 131, none⟩)])) := by simpa using World.var?_cell pk_gH e5 0
  obtain ⟨a0, a1, s0, s1, c0, c1, t0, t1, hv0, hv1, hc0, hs0, hz0, hc1, hs1, hz1, hne, hb0, hb1⟩ := laid_sentinels2 h'.1 pk_gF pk_gFt pk_gB pk_gBt Tryz.underlying131 pk_row Tryz.underlying205 Tryz.underlying226 rfl rfl Tryz.underlying9 pk_cells1 pk_cells2
  have hg0 : W.cell? ⟨1, 0, none⟩ = some (.iface 205 (.pointer (some a0))) := by simpa using World.var?_cell pk_gF hv0 0
  have hg1 : W.cell? ⟨0, 0, none⟩ = some (.iface 205 (.pointer (some a1))) := by simpa using World.var?_cell pk_gB hv1 0
  exact ⟨_, ⟨⟨a0, rfl⟩, hg0⟩, a0, a1, c0, c1, t0, t1, rfl, hne, hb0, hb1, hg1, hty⟩
abbrev formS : ByteArray := { data := #[110, 111, 32, 115, 117, 99, 104, 32, 102, 111, 114, 109] }
abbrev bytesS : ByteArray := { data := #[116, 111, 111, 32, 109, 97, 110, 121, 32, 98, 121, 116, 101, 115] }
noncomputable def codecLow : Nat := (World.holding Tryz.prog default ⟨#[], #[], []⟩).heap.size
noncomputable def codecWorld (os : Os) : World :=
  let w0 := World.holding Tryz.prog os ⟨#[.cells #[.string formS] 226, .cells #[.string bytesS] 226], #[], []⟩
  { w0 with heap := ((w0.heap.modify 1 fun
      | .cells _ t frozen => .cells #[.iface 205 (.pointer (some ⟨codecLow, 0, none⟩))] t frozen
      | o => o).modify 0 fun
      | .cells _ t frozen => .cells #[.iface 205 (.pointer (some ⟨codecLow + 1, 0, none⟩))] t frozen
      | o => o).modify 2 fun
      | .cells _ t frozen => .cells #[.iface 182 (.agg #[.pointer (some ⟨nG, 131, none⟩)])] t frozen
      | o => o }
theorem codecWorld_met (os : Os) (args : Array Value) : laidMetH Tryz.prog codecLaid ((codecWorld os).forCall (fun _ _ => 0) ⟨#[], args, []⟩).memory :=
  laidMetH_of_parts (laidMet_of_run (ps := [.cell 1 0, .cell codecLow 0, .cell 0 0, .cell (codecLow + 1) 0]) 8 (by kernel_rfl) (by kernel_rfl) (by kernel_rfl)) (by kernel_rfl)
end
section
open Go.ChangeShapes Go.WideShapes Go.ChangeAt Go.RowKit Go.Deep
section
variable {H : Type} {enc : TypeId × Value → H} {P : Program}
theorem trodAll_stays (hl : laidOutB P = true) {W W' : World} {sp : Nat → Bool} : ∀ (ts : List TypeId) (vs : List Value) (ds : List (DataW H)) (ps : List MemPlace),
    ts.all (fun t => P.readableRec t && decide (t < P.types.size)) = true → DataW.TrodAll enc P W 0 (fun _ => true) true ts vs ds ps → (∀ p ∈ ps, W.sameAt W' p) → (∀ p ∈ ps, sp p.block = true) →
    DataW.TrodAll enc P W' 0 sp true ts vs ds ps
  | [], vs, ds, ps, _, h, _, _ => by
    cases vs <;> cases ds <;> simp_all [DataW.TrodAll]
  | t :: ts, [], ds, ps, _, h, _, _ => by cases ds <;> simp [DataW.TrodAll] at h
  | t :: ts, v :: vs, [], ps, _, h, _, _ => by simp [DataW.TrodAll] at h
  | t :: ts, v :: vs, d :: ds, ps, hok, h, hsame, hsp => by
    obtain ⟨p, q, h1, h2, rfl⟩ := h
    simp only [List.all_cons, Bool.and_eq_true, decide_eq_true_eq] at hok
    exact ⟨p, q, WideElems.Trod_stays hl hok.1.1 hok.1.2 h1 (fun x hx => hsame x (by simp [hx])) (fun x hx => hsp x (by simp [hx])),
      trodAll_stays hl ts vs ds q hok.2 h2 (fun x hx => hsame x (by simp [hx])) (fun x hx => hsp x (by simp [hx])), rfl⟩
theorem trodAll_length {W : World} {base : Nat} {sp : Nat → Bool} {hd : Bool} : ∀ (ts : List TypeId) (vs : List Value) (ds : List (DataW H)) (ps : List MemPlace), DataW.TrodAll enc P W base sp hd ts vs ds ps → ds.length = ts.length
  | [], vs, ds, ps, h => by cases vs <;> cases ds <;> simp_all [DataW.TrodAll]
  | t :: ts, [], ds, ps, h => by cases ds <;> simp [DataW.TrodAll] at h
  | t :: ts, v :: vs, [], ps, h => by simp [DataW.TrodAll] at h
  | t :: ts, v :: vs, d :: ds, ps, h => by
    obtain ⟨p, q, _, h2, _⟩ := h
    simp [trodAll_length ts vs ds q h2]
theorem law_post {f : Func} {s : ChangeSpec} {W W' : World} {args : Array Value} {ds gs : List (DataW H)} {before : List MemPlace} {tb : TypeId} (hl : laidOutB P = true)
    (hok : f.params.toList.all (fun t => P.readableRec t && decide (t < P.types.size)) = true) (hr : f.resultTypes = #[tb]) (htb : P.underlying tb = some .bool)
    (hvars : s.vars = []) (hspec : ∀ ds : List (DataW H), ds.length = f.params.size → s.fn H ds = { results := [.lit (.bool true)], args := ds })
    (hW : DataW.Whole enc P f.params.toList s.vars false W args.toList ds gs before) (hb : Below W.heap.size W W') :
    s.post enc P f false true false false W args (.bool true) W' := by
  have hlt : ∀ p ∈ before, p.block < W.heap.size := fun p hp => hW.lt p hp
  have hW0 := hW
  obtain ⟨p, q, hA, hV, rfl, _, _⟩ := hW0
  rw [hvars] at hV
  obtain ⟨rfl, rfl⟩ := trodVars_none hV
  have hlen : ds.length = f.params.size := by rw [trodAll_length _ _ _ _ hA, Array.length_toList]
  have hfn := hspec ds hlen
  have hfr : f.resultTypes.toList = [tb] := by rw [hr]
  have hrl : (Value.bool true).resultList f.resultTypes.size = [.bool true] := by rw [hr]; rfl
  refine ⟨ds, [], p ++ [], [], p, [], hW, ?_, ?_, ?_, World.keptBut_mono (fun x hx => ⟨hx, ?_⟩) (hb.frame (· ∈ p ++ [])), fun h => by cases h⟩
  · rw [List.append_nil, hfn, hfr, hrl]
    exact trodAll_mk1 (shut_bool htb _)
  · rw [List.append_nil, hfn]
    exact trodAll_stays hl _ _ _ _ hok hA (fun x hx => hb.same (hlt x (by simp [hx]))) (fun x hx => by simpa using hlt x (by simp [hx]))
  · rw [List.append_nil, hfn, hvars]
    rfl
  · exact Or.inr (Or.inl (by simpa using hx))
theorem law_lifted {C : Checked} {os : Os} {f : FuncId} {fn : Func} {s : ChangeSpec} {tb : TypeId} (own : ownKnob C.prog.godebug = none) (hl : laidOutB C.prog = true) (started : os.Started)
    (noInit : C.prog.inits.idxOf? f = none) (hfn : C.prog.funcs[f]? = some fn)
    (witness : ∃ (w : World) (tape : Tape) (i : Input), w.os = os ∧ (w.forCall tape i).Shaped C.prog ∧ i.vars = [] ∧ Input.okWide C.prog (w.forCall tape i) .any w.heap.size f i ∧
      s.pre6 enc C.prog fn [] false (w.forCall tape i).memory i.args ∧ ({} : Assume).holds C.prog (lone (Frame.enter C.prog f i.args .normal) [] (w.forCall tape i)))
    (hok : fn.params.toList.all (fun t => C.prog.readableRec t && decide (t < C.prog.types.size)) = true) (hr : fn.resultTypes = #[tb]) (htb : C.prog.underlying tb = some .bool)
    (hvars : s.vars = []) (hspec : ∀ ds : List (DataW H), ds.length = fn.params.size → s.fn H ds = { results := [.lit (.bool true)], args := ds })
    (walk : ∀ (W : World) (base : Nat) (args : Array Value) (ds : List (DataW H)) (ps : List MemPlace),
      (∀ (j : Nat) t v, fn.params[j]? = some t → args[j]? = some v → Value.okWide C.prog W .any base t v) →
      DataW.TrodAll enc C.prog W 0 (fun _ => true) true fn.params.toList args.toList ds ps → (∀ p ∈ ps, p.block < W.heap.size) →
      (DataW.weightsEach C.prog fn.params.toList ds).all (· ≤ reachBytes) = true →
      Calls C.prog f args W fun e W' => e = .returned (.bool true) ∧ Below W.heap.size W W') :
    ReturnsInHanded {} C os f .any (s.pre6 enc C.prog fn [] false) (s.post enc C.prog fn false true false false) := by
  refine returnsInHanded_of_change_sized own started noInit hfn witness ?_
  intro W base args ds gs before hval hW _ hsz _
  have hlt : ∀ p ∈ before, p.block < W.heap.size := fun p hp => hW.lt p hp
  have hW0 := hW
  obtain ⟨p, q, hA, hV, rfl, _, _⟩ := hW0
  rw [hvars] at hV
  obtain ⟨rfl, rfl⟩ := trodVars_none hV
  have hvt : s.plain.varTypes C.prog = [] := by simp [DataSpec.varTypes, ChangeSpec.plain, hvars]
  rw [hvt, List.append_nil, List.append_nil] at hsz
  refine (walk W base args ds p hval hA (fun x hx => hlt x (by simp [hx])) hsz).mono fun e W' ⟨he, hb⟩ => ?_
  exact ⟨_, he, law_post hl hok hr htb hvars hspec hW hb⟩
end
section
variable {H : Type} {enc : TypeId × Value → H} {P : Program} {w : World} {base : Nat} {spare : Nat → Bool} {held : Bool}
theorem open_slice_fields {t e : TypeId} {fs : Array Field} {fuel : Nat} {cs : List Value} {x : DataW H × List MemPlace} (ht : P.underlying t = some (.slice e)) (he : P.underlying e = some (.struct fs))
    (hone : oneCellFields P fs = true) (hC : P.cellsOf e = fs.size) (h : DataW.trod enc P w base spare held fuel t cs = some x) :
    (cs = [.slice none 0 0] ∧ x = (.nil, [])) ∨
    ∃ (a : Addr) (len cap m : Nat) (D : Nat → DataW H) (Pl : Nat → List MemPlace), cs = [.slice (some a) len cap] ∧ base ≤ a.block ∧ len ≤ cap ∧ cap ≤ maxLen ∧ m = (if spare a.block then cap else len) ∧
      x = (.slice ((List.range len).map D) ((List.range (m - len)).map fun j => D (len + j)), MemPlace.row a (m * fs.size) ++ (List.range m).flatMap Pl) ∧
      ∀ i, i < m → ∃ (ys : List (DataW H × List MemPlace)) (n : Nat), D i = .agg (ys.map (·.1)) ∧ Pl i = ys.flatMap (·.2) ∧ ys.length = fs.size ∧
        ∀ (j : Nat) (f : Field), fs[j]? = some f → ∃ (v : Value) (y : DataW H × List MemPlace), w.cell? (a.add (i * fs.size + j)) = some v ∧ ys[j]? = some y ∧ DataW.trod enc P w base spare held n f.type [v] = some y := by
  rcases open_slice ht h with h0 | ⟨a, len, cap, m, n, D, Pl, hcs, hb, hl, hm, hmm, hx, hi⟩
  · exact .inl h0
  · refine .inr ⟨a, len, cap, m, D, Pl, hcs, hb, hl, hm, hmm, by rw [hC] at hx; exact hx, fun i him => ?_⟩
    obtain ⟨cs', hc, ht'⟩ := hi i him
    rw [hC] at hc
    obtain ⟨ys, n', hn', hy, hlen, hyl, hf⟩ := DataW.trod_struct he ht'
    obtain ⟨_, hcl, hat⟩ := World.cells?_some hc
    simp only [Prod.mk.injEq] at hy
    refine ⟨ys, n', hy.1, hy.2, hyl, fun j f hj => ?_⟩
    obtain ⟨ho, hk⟩ := hone_of hone j f hj
    have hjl : j < fs.size := (Array.getElem?_eq_some_iff.1 hj).1
    have hcell := hat j hjl
    have hv : cs'[j]? = some (cs'[j]'(by omega)) := List.getElem?_eq_getElem (by omega)
    have h1 := hf j f hj
    rw [ho, hk] at h1
    have hone' : (cs'.drop j).take 1 = [cs'[j]'(by omega)] := by
      rw [List.drop_eq_getElem_cons (by omega)]
      rfl
    rw [hone'] at h1
    have hys : ys[j]? = some (ys[j]'(by omega)) := List.getElem?_eq_getElem (by omega)
    refine ⟨_, _, ?_, hys, h1.trans hys⟩
    rw [← Go.Deep.add_add, hcell, hv]
theorem open_bytes {t e : TypeId} {fuel : Nat} {v : Value} {x : DataW H × List MemPlace} (ht : P.underlying t = some (.slice e)) (he : P.underlying e = some (.int .u8)) (hc : P.cellsOf e = 1)
    (h : DataW.trod enc P w base (fun _ => true) held fuel t [v] = some x) :
    ∃ bs : List UInt8, (∀ n ∈ x.1.weights P t, n ≤ reachBytes) → P.bytesOf e = 1 → Bs w (fun b => b < w.heap.size) v bs := by
  rcases open_ints ht he hc h with ⟨hcs, hx⟩ | ⟨a, len, cap, zs, hcs, _, hl, hm, hz, hx, hcell, hwz⟩
  · obtain rfl : v = .slice none 0 0 := by simpa using hcs
    exact ⟨[], fun _ _ => Bs.nil_ _ _⟩
  · obtain rfl : v = .slice (some a) len cap := by simpa using hcs
    simp only [if_true] at hz
    have hbyte : ∀ z ∈ zs, (z.toNat : Int) = z ∧ z.toNat < 256 := fun z hzm => by
      have := hwz z hzm
      simp only [Lit.wf, IntKind.min, IntKind.max, IntKind.signed, IntKind.bits, Bool.and_eq_true] at this
      simp at this
      omega
    refine ⟨(zs.take len).map fun z => UInt8.ofNat z.toNat, fun hw hb1 => ?_⟩
    have hlen : ((zs.take len).map fun z => UInt8.ofNat z.toNat).length = len := by simp; omega
    have hsz : cap ≤ reachBytes := by
      have := hw (((lits (H := H) .u8 (zs.take len)).length + (lits (H := H) .u8 (zs.drop len)).length) * P.bytesOf e) (by rw [hx]; simp [DataW.weights, ht])
      rw [hb1] at this
      simp only [lits, List.length_map, List.length_take, List.length_drop] at this
      omega
    refine ⟨⟨by rw [u8s_length]; omega, some a, cap, by rw [hlen], by rw [hlen]; exact hl, hm, fun hpos => ?_⟩, by rw [hlen]; simp only [reachBytes] at hsz; omega⟩
    rw [hlen] at hpos
    obtain ⟨b, off, spot⟩ := a
    have hc0 := hcell 0 (by omega)
    obtain rfl : spot = none := by simpa [Addr.add] using World.cell?_spot hc0
    refine ⟨b, off, rfl, by have := World.block_lt_of_cell? _ _ hc0; simpa [Addr.add] using this, by have := World.block_lt_of_cell? _ _ hc0; simpa [Addr.add] using this, fun j u hu => ?_⟩
    have hj : j < len := by
      have := (List.getElem?_eq_some_iff.1 hu).1
      rw [u8s_length] at this; omega
    have hcj := hcell j (by omega)
    rw [add_plain] at hcj
    rw [hcj]
    have hjz : j < zs.length := by omega
    simp only [u8s, List.map_map, List.getElem?_map, List.getElem?_take, if_pos hj, List.getElem?_eq_getElem hjz, Option.map_some, Function.comp_apply] at hu
    rw [← hu]
    have := hbyte zs[j] (List.getElem_mem hjz)
    simp only [List.getD, List.getElem?_eq_getElem hjz, Option.getD_some, Option.some.injEq, Value.int.injEq, true_and]
    rw [UInt8.toNat_ofNat']
    omega
theorem weights_all {ts : List TypeId} {ds : List (DataW H)} (h : (DataW.weightsEach P ts ds).all (· ≤ reachBytes) = true) {j : Nat} {t : TypeId} {d : DataW H} (ht : ts[j]? = some t) (hd : ds[j]? = some d) : ∀ n ∈ d.weights P t, n ≤ reachBytes :=
  fun n hn => by simpa using List.all_eq_true.1 h n (DataW.weights_mem_each ht hd n hn)
theorem weights_elem {t e : TypeId} (ht : P.underlying t = some (.slice e)) {elems spare' : List (DataW H)} (h : ∀ n ∈ (DataW.slice elems spare').weights P t, n ≤ reachBytes) {d : DataW H} (hd : d ∈ elems) : ∀ n ∈ d.weights P e, n ≤ reachBytes := by
  have key : ∀ (l : List (DataW H)), d ∈ l → ∀ n ∈ d.weights P e, n ∈ DataW.weightsAll P e l := by
    intro l
    induction l with
    | nil => intro h; cases h
    | cons x r ih =>
      intro hm n hn
      simp only [DataW.weightsAll, List.mem_append]
      rcases List.mem_cons.1 hm with rfl | hm
      · exact .inl hn
      · exact .inr (ih hm n hn)
  intro n hn
  refine h n ?_
  simp only [DataW.weights, ht, List.mem_cons, List.mem_append]
  exact .inr (.inl (key elems hd n hn))
theorem weights_size {t e : TypeId} (ht : P.underlying t = some (.slice e)) {elems spare' : List (DataW H)} (h : ∀ n ∈ (DataW.slice elems spare').weights P t, n ≤ reachBytes) : elems.length * P.bytesOf e ≤ reachBytes := by
  have := h ((elems.length + spare'.length) * P.bytesOf e) (by simp [DataW.weights, ht])
  exact Nat.le_trans (Nat.mul_le_mul_right _ (by omega)) this
theorem weights_field {e : TypeId} {fs : Array Field} (he : P.underlying e = some (.struct fs)) {parts : List (DataW H)} (h : ∀ n ∈ (DataW.agg parts).weights P e, n ≤ reachBytes) {j : Nat} {f : Field} {d : DataW H} (hf : fs[j]? = some f) (hd : parts[j]? = some d) :
    ∀ n ∈ d.weights P f.type, n ≤ reachBytes := fun n hn => h n (by
  simp only [DataW.weights, he]
  exact DataW.weights_mem_each (by rw [List.getElem?_map, Array.getElem?_toList, hf]; rfl) hd n hn)
end
end
section
open Go.ChangeShapes Go.WideShapes Go.ChangeAt Go.RowKit Go.Deep
section
variable {H : Type} {enc : TypeId × Value → H}
theorem upto_lifted {C : Checked} {os : Os} {f : FuncId} {fn : Func} {s : ChangeSpec} {tb : TypeId} {F : Stop.Interp} (own : ownKnob C.prog.godebug = none) (hl : laidOutB C.prog = true) (started : os.Started)
    (noInit : C.prog.inits.idxOf? f = none) (hfn : C.prog.funcs[f]? = some fn)
    (witness : ∃ (w : World) (tape : Tape) (i : Input), w.os = os ∧ (w.forCall tape i).Shaped C.prog ∧ i.vars = [] ∧ Input.okWide C.prog (w.forCall tape i) .any w.heap.size f i ∧
      (Rows.OpenSpec.upto s).pre6 enc C.prog fn [] false (w.forCall tape i).memory i.args ∧ ({} : Assume).holds C.prog (lone (Frame.enter C.prog f i.args .normal) [] (w.forCall tape i)))
    (hok : fn.params.toList.all (fun t => C.prog.readableRec t && decide (t < C.prog.types.size)) = true) (hr : fn.resultTypes = #[tb]) (htb : C.prog.underlying tb = some .bool)
    (hvars : s.vars = []) (hspec : ∀ ds : List (DataW H), ds.length = fn.params.size → s.fn H ds = { results := [.lit (.bool true)], args := ds })
    (walk : ∀ (W : World) (base : Nat) (args : Array Value) (ds : List (DataW H)) (ps : List MemPlace),
      (∀ (j : Nat) t v, fn.params[j]? = some t → args[j]? = some v → Value.okWide C.prog W .any base t v) →
      DataW.TrodAll enc C.prog W 0 (fun _ => true) true fn.params.toList args.toList ds ps → (∀ p ∈ ps, p.block < W.heap.size) → Rows.uptoBulkAll ds ≤ 1048576 →
      Calls C.prog f args W fun e W' => e = .returned (.bool true) ∧ Below W.heap.size W W') :
    ReturnsInHanded {} C os f .any ((Rows.OpenSpec.upto s).pre6 enc C.prog fn [] false) (((Rows.OpenSpec.upto s).at F).post enc C.prog fn false true false false) := by
  refine returnsInHanded_of_cond (C := C) (s := Rows.OpenSpec.upto s) (k := Rows.uptoSmall) rfl own started noInit hfn witness ?_
  intro W base args ds gs before hval hW _ hk _
  have hW0 : DataW.Whole enc C.prog fn.params.toList s.vars false W args.toList ds gs before := hW
  have hlt : ∀ p ∈ before, p.block < W.heap.size := fun p hp => hW0.lt p hp
  have hW1 := hW0
  obtain ⟨p, q, hA, hV, rfl, _, _⟩ := hW1
  rw [hvars] at hV
  obtain ⟨rfl, rfl⟩ := trodVars_none hV
  rw [List.append_nil] at hk
  refine (walk W base args ds p hval hA (fun x hx => hlt x (by simp [hx])) (bulks.bound hk)).mono fun e W' ⟨he, hb⟩ => ?_
  exact ⟨_, he, law_post hl hok hr htb hvars hspec hW0 hb⟩
end
end
section
open Go.ChangeShapes Go.WideShapes Go.ChangeAt Go.RowKit Go.Deep
mutual
def Sh.fits (P : Program) : Sh → TypeId → Prop
  | .num sg, t => P.underlying t = some (.int (nk sg))
  | .dig, t => ∃ e, P.underlying t = some (.array 32 e) ∧ P.underlying e = some (.int .u8) ∧ P.cellsOf e = 1 ∧ P.cellsOf t = 32
  | .byt, t => ∃ e, P.underlying t = some (.slice e) ∧ P.underlying e = some (.int .u8) ∧ P.cellsOf e = 1
  | .bool, t => P.underlying t = some .bool
  | .list s, t => ∃ e, P.underlying t = some (.slice e) ∧ s.fits P e ∧ P.cellsOf e = s.cells ∧ 0 < s.cells
  | .tup fs, t => ∃ F, P.underlying t = some (.struct F) ∧ fs.fits P F.toList 0 ∧ P.cellsOf t = fs.cells
def Fs.fits (P : Program) : Fs → List Field → Nat → Prop
  | .nil, [], _ => True
  | .cons s fs, f :: l, o => f.offset = o ∧ P.cellsOf f.type = s.cells ∧ s.fits P f.type ∧ fs.fits P l (o + s.cells)
  | _, _, _ => False
end
mutual
def Sh.plain : Sh → Bool
  | .num _ => true
  | .dig => true
  | .byt => false
  | .bool => true
  | .list _ => false
  | .tup fs => fs.plain
def Fs.plain : Fs → Bool
  | .nil => true
  | .cons s fs => s.plain && fs.plain
end
theorem choose_list {α : Type} {p : Nat → α → Prop} : ∀ (n : Nat), (∀ i, i < n → ∃ x, p i x) → ∃ l : List α, l.length = n ∧ ∀ i x, l[i]? = some x → p i x
  | 0, _ => ⟨[], rfl, fun i x h => by simp at h⟩
  | n + 1, h => by
    obtain ⟨l, hl, hp⟩ := choose_list n fun i hi => h i (by omega)
    obtain ⟨x, hx⟩ := h n (by omega)
    refine ⟨l ++ [x], by simp [hl], fun i y hy => ?_⟩
    rcases Nat.lt_trichotomy i l.length with h1 | h1 | h1
    · rw [List.getElem?_append_left h1] at hy; exact hp i y hy
    · subst h1
      rw [List.getElem?_append_right (Nat.le_refl _), Nat.sub_self] at hy
      injection hy with hy
      subst hy
      rw [hl]; exact hx
    · rw [List.getElem?_eq_none (by simp; omega)] at hy; cases hy
theorem flatten_back {m : Nat} (hm : 0 < m) (css : List (List Value)) (hc : ∀ c ∈ css, c.length = m) {j : Nat} {u : Value} (h : css.flatten[j]? = some u) : ∃ c, css[j / m]? = some c ∧ c[j % m]? = some u := by
  have hlen : css.flatten.length = css.length * m := by
    clear h
    induction css with
    | nil => simp
    | cons c r ih => rw [List.flatten_cons, List.length_append, hc c (by simp), ih fun d hd => hc d (by simp [hd]), List.length_cons, Nat.succ_mul]; omega
  have hj : j < css.length * m := by rw [← hlen]; exact (List.getElem?_eq_some_iff.1 h).1
  have hk : j / m < css.length := Nat.div_lt_of_lt_mul (by rw [Nat.mul_comm]; exact hj)
  refine ⟨css[j / m], List.getElem?_eq_getElem hk, ?_⟩
  have := flatten_get css (j / m) css[j / m] hc (List.getElem?_eq_getElem hk) (j % m) (Nat.mod_lt _ hm)
  rw [← this, Nat.mul_comm, Nat.div_add_mod]
  exact h
theorem wf_nk (sg : Bool) (n : Int) (h : (Lit.int (nk sg) n).wf = true) : (nk sg).wrap n = n := by
  cases sg
  · simp [Lit.wf, nk, IntKind.min, IntKind.max, IntKind.signed, IntKind.bits] at h
    rw [wrap_u]; omega
  · simp [Lit.wf, nk, IntKind.min, IntKind.max, IntKind.signed, IntKind.bits] at h
    rw [wrap_s]; split <;> omega
section
variable {H : Type} {enc : TypeId × Value → H} {P : Program} {w : World} {base : Nat} {held : Bool}
theorem trod_int_open {t : TypeId} {k : IntKind} {fuel : Nat} {cs : List Value} {x : DataW H × List MemPlace} (ht : P.underlying t = some (.int k)) (h : DataW.trod enc P w base (fun _ => true) held fuel t cs = some x) : ∃ n, cs = [.int k n] ∧ (Lit.int k n).wf = true := by
  cases fuel with
  | zero => simp [DataW.trod] at h
  | succ m =>
    unfold DataW.trod at h
    rw [ht] at h
    split at h <;> simp_all
theorem trod_bool_open {t : TypeId} {fuel : Nat} {cs : List Value} {x : DataW H × List MemPlace} (ht : P.underlying t = some .bool) (h : DataW.trod enc P w base (fun _ => true) held fuel t cs = some x) : ∃ b, cs = [.bool b] := by
  cases fuel with
  | zero => simp [DataW.trod] at h
  | succ m =>
    unfold DataW.trod at h
    rw [ht] at h
    split at h <;> simp_all
theorem byte_of {z : Int} (h : (Lit.int .u8 z).wf = true) : (Value.int .u8 z) = .int .u8 ((UInt8.ofNat z.toNat).toNat : Int) := by
  simp [Lit.wf, IntKind.min, IntKind.max, IntKind.signed, IntKind.bits] at h
  congr 1
  rw [UInt8.toNat_ofNat']
  omega
theorem joinP_bulk {α : Type} (f : α → List UInt8) : ∀ (l : List α) (ds : List (DataW H)), l.length = ds.length → (∀ (i : Nat) (a : α) (d : DataW H), l[i]? = some a → ds[i]? = some d → (f a).length + 8 ≤ 24 * Rows.uptoBulk d) → (joinP (l.map f)).length ≤ 24 * Rows.uptoBulkAll ds
  | [], [], _, _ => by simp [joinP]
  | [], _ :: _, h, _ => by simp at h
  | _ :: _, [], h, _ => by simp at h
  | a :: l, d :: ds, h, hb => by
    have h1 := hb 0 a d rfl rfl
    have h2 := joinP_bulk f l ds (by simpa using h) fun i a d h3 h4 => hb (i + 1) a d h3 h4
    simp only [List.map_cons, joinP, List.length_append, be8_length, Rows.uptoBulkAll]
    omega
set_option maxHeartbeats 1000000 in
mutual
theorem Sh.open_ : ∀ (s : Sh) (t : TypeId) (n : Nat) (cs : List Value) (x : DataW H × List MemPlace), s.fits P t → (s.plain = true ∨ Rows.uptoBulk x.1 ≤ 1048576) → DataW.trod enc P w base (fun _ => true) held n t cs = some x →
    ∃ y : s.El, s.rep w (fun b => b < w.heap.size) y cs ∧ (s.enc y).length + 8 ≤ 24 * Rows.uptoBulk x.1
  | .num sg, t, n, cs, x, hf, _, h => by
    obtain ⟨z, rfl, hw⟩ := trod_int_open hf h
    refine ⟨z, ⟨rfl, wf_nk sg z hw⟩, ?_⟩
    have h1 : (numB z).length = 8 := numB_length z
    have h2 := bulks.one_le x.1
    show (numB z).length + 8 ≤ _
    omega
  | .bool, t, n, cs, x, hf, _, h => by
    obtain ⟨b, rfl⟩ := trod_bool_open hf h
    refine ⟨b, rfl, ?_⟩
    have h1 : (truthB b).length = 1 := by cases b <;> rfl
    have h2 := bulks.one_le x.1
    show (truthB b).length + 8 ≤ _
    omega
  | .dig, t, n, cs, x, ⟨e, ht, he, hce, hct⟩, _, h => by
    obtain ⟨xs, m, rfl, rfl, hl, hxl, hi⟩ := DataW.trod_array ht h
    rw [hct] at hl
    obtain ⟨l, hll, hlp⟩ := choose_list (α := UInt8) (p := fun i b => cs[i]? = some (.int .u8 b.toNat)) 32 fun i hi32 => by
      have h1 := hi i hi32
      rw [hce, Nat.mul_one] at h1
      have hx : xs[i]? = some (xs[i]'(by omega)) := List.getElem?_eq_getElem _
      rw [hx] at h1
      obtain ⟨z, hz, hw⟩ := trod_int_open he h1
      refine ⟨UInt8.ofNat z.toNat, ?_⟩
      have h2 : cs.drop i = cs[i]'(by omega) :: cs.drop (i + 1) := List.drop_eq_getElem_cons (by omega)
      rw [h2] at hz
      simp only [List.take_succ_cons, List.take_zero, List.cons.injEq, and_true] at hz
      rw [List.getElem?_eq_getElem (by omega), hz, byte_of hw]
    refine ⟨l, ⟨?_, hll⟩, ?_⟩
    · apply List.ext_getElem?
      intro i
      rcases Nat.lt_or_ge i 32 with h1 | h1
      · have h2 : l[i]? = some (l[i]'(by omega)) := List.getElem?_eq_getElem _
        rw [hlp i _ h2, u8s_get l i (by omega)]
      · rw [List.getElem?_eq_none (by omega), List.getElem?_eq_none (by rw [u8s_length]; omega)]
    · show List.length (α := UInt8) l + 8 ≤ _
      have h2 := bulks.length_le (xs.map (·.1))
      rw [List.length_map, hxl] at h2
      simp only [Rows.uptoBulk]
      omega
  | .byt, t, n, cs, x, ⟨e, ht, he, hce⟩, hB, h => by
    rcases open_ints ht he hce h with ⟨hcs, hx⟩ | ⟨a, len, cap, zs, hcs, _, hl, hm, hz, hx, hcell, hwz⟩
    · subst hcs hx
      exact ⟨[], ⟨_, rfl, Bs.nil_ _ _⟩, by simp [Sh.enc, Rows.uptoBulk]⟩
    · subst hcs hx
      simp only [if_true] at hz
      have hB : Rows.uptoBulk (DataW.slice (lits (H := H) .u8 (zs.take len)) (lits (H := H) .u8 (zs.drop len))) ≤ 1048576 := hB.elim (fun h => by cases h) id
      have hsl := bulks.slice_le (lits (H := H) .u8 (zs.take len)) (lits (H := H) .u8 (zs.drop len))
      rw [show (lits (H := H) .u8 (zs.take len)).length = len by simp [lits]; omega] at hsl
      have hlen : ((zs.take len).map fun z => UInt8.ofNat z.toNat).length = len := by simp; omega
      refine ⟨(zs.take len).map fun z => UInt8.ofNat z.toNat, ⟨_, rfl, ⟨by rw [u8s_length]; omega, some a, cap, by rw [hlen], by rw [hlen]; exact hl, hm, fun hpos => ?_⟩, ?_⟩, ?_⟩
      · rw [hlen] at hpos
        obtain ⟨b, off, spot⟩ := a
        have hc0 := hcell 0 (by omega)
        obtain rfl : spot = none := by simpa [Addr.add] using World.cell?_spot hc0
        refine ⟨b, off, rfl, by have := World.block_lt_of_cell? _ _ hc0; simpa [Addr.add] using this, by have := World.block_lt_of_cell? _ _ hc0; simpa [Addr.add] using this, fun j u hu => ?_⟩
        have hj : j < len := by have := (List.getElem?_eq_some_iff.1 hu).1; rw [u8s_length] at this; omega
        have hcj := hcell j (by omega)
        rw [add_plain] at hcj
        rw [hcj]
        have hjz : j < zs.length := by omega
        simp only [u8s, List.map_map, List.getElem?_map, List.getElem?_take, if_pos hj, List.getElem?_eq_getElem hjz, Option.map_some, Function.comp_apply] at hu
        rw [← hu]
        simp only [List.getD, List.getElem?_eq_getElem hjz, Option.getD_some]
        rw [byte_of (hwz zs[j] (List.getElem_mem hjz))]
      · rw [hlen]; omega
      · show List.length (α := UInt8) _ + 8 ≤ _
        show (List.map (fun z : Int => UInt8.ofNat z.toNat) (List.take len zs)).length + 8 ≤ _
        rw [hlen]
        show len + 8 ≤ 24 * Rows.uptoBulk (DataW.slice (lits (H := H) .u8 (zs.take len)) (lits (H := H) .u8 (zs.drop len)))
        omega
  | .list s, t, n, cs, x, ⟨e, ht, hfe, hce, h0⟩, hB, h => by
    rcases open_slice ht h with ⟨hcs, hx⟩ | ⟨a, len, cap, m, n', D, Pl, hcs, _, hl, hm, hmm, hx, hi⟩
    · subst hcs hx
      exact ⟨[], ⟨_, [], rfl, Cs.nil_ _ _ _, .nil⟩, by simp [Sh.enc, joinB_length, joinP, Rows.uptoBulk]⟩
    · subst hcs hx
      simp only [if_true] at hmm
      have hmm' := hmm.symm
      subst hmm'
      clear hmm
      have hB : Rows.uptoBulk (DataW.slice ((List.range len).map D) ((List.range (cap - len)).map fun j => D (len + j))) ≤ 1048576 := hB.elim (fun h => by cases h) id
      have hpart : ∀ i, i < len → Rows.uptoBulk (D i) ≤ 1048576 := fun i hil => by
        have := bulks.part_le (List.mem_map.2 ⟨i, List.mem_range.2 hil, rfl⟩ : D i ∈ (List.range len).map D)
        simp only [Rows.uptoBulk] at hB
        omega
      obtain ⟨l, hll, hlp⟩ := choose_list (α := s.El × List Value) (p := fun i z => (∀ j u, z.2[j]? = some u → w.cell? ((a.add (i * P.cellsOf e)).add j) = some u) ∧ s.rep w (fun b => b < w.heap.size) z.1 z.2 ∧ (s.enc z.1).length + 8 ≤ 24 * Rows.uptoBulk (D i)) len fun i hil => by
        obtain ⟨cs', hc, ht'⟩ := hi i (by omega)
        obtain ⟨y, hr, hb⟩ := Sh.open_ s e n' cs' (D i, Pl i) hfe (.inr (hpart i hil)) ht'
        obtain ⟨_, hcl, hat⟩ := World.cells?_some hc
        exact ⟨(y, cs'), fun j u hu => by have hjl : j < cs'.length := (List.getElem?_eq_some_iff.1 hu).1; rw [hat j (by omega)]; exact hu, hr, hb⟩
      have hcl : ∀ c ∈ l.map (·.2), c.length = s.cells := fun c hc => by
        obtain ⟨z, hz, rfl⟩ := List.mem_map.1 hc
        obtain ⟨i, hi, rfl⟩ := List.getElem_of_mem hz
        exact Sh.rep_size s _ _ (hlp i _ (List.getElem?_eq_getElem hi)).2.1
      have hfl : (l.map (·.2)).flatten.length = len * s.cells := by
        rw [← hll]
        clear hlp hll
        induction l with
        | nil => simp
        | cons z r ih => rw [List.map_cons, List.flatten_cons, List.length_append, hcl z.2 (by simp), ih fun c hc => hcl c (by simp at hc ⊢; exact .inr hc), List.length_cons, Nat.succ_mul]; omega
      refine ⟨l.map (·.1), ⟨_, l.map (·.2), rfl, ⟨by rw [hfl]; simp [hll], some a, cap, by simp [hll], by simpa [hll] using hl, hm, fun hpos => ?_⟩, ?_⟩, ?_⟩
      · have hpos : 0 < len := by simpa [hll] using hpos
        obtain ⟨b, off, spot⟩ := a
        have hz0 : l[0]? = some (l[0]'(by omega)) := List.getElem?_eq_getElem _
        obtain ⟨q1, q2, _⟩ := hlp 0 _ hz0
        have hsz := Sh.rep_size s _ _ q2
        have hc0 := q1 0 _ (List.getElem?_eq_getElem (by omega))
        rw [Nat.zero_mul] at hc0
        obtain rfl : spot = none := by simpa [Addr.add] using World.cell?_spot hc0
        refine ⟨b, off, rfl, by have := World.block_lt_of_cell? _ _ hc0; simpa [Addr.add] using this, by have := World.block_lt_of_cell? _ _ hc0; simpa [Addr.add] using this, fun j u hu => ?_⟩
        obtain ⟨c, hc1, hc2⟩ := flatten_back h0 _ hcl hu
        rw [List.getElem?_map] at hc1
        obtain ⟨z, hz, rfl⟩ := Option.map_eq_some_iff.1 hc1
        have := (hlp _ z hz).1 _ u hc2
        rw [add_plain, add_plain, hce, Nat.add_assoc, Nat.mul_comm, Nat.div_add_mod] at this
        exact this
      · have : ∀ (l : List (s.El × List Value)), (∀ z ∈ l, s.rep w (fun b => b < w.heap.size) z.1 z.2) → Two (s.rep w (fun b => b < w.heap.size)) (l.map (·.1)) (l.map (·.2)) := by
          intro l
          induction l with
          | nil => intro _; exact .nil
          | cons z r ih => intro hz; exact .cons (hz z (by simp)) (ih fun y hy => hz y (by simp [hy]))
        exact this l fun z hz => by obtain ⟨i, hi, rfl⟩ := List.getElem_of_mem hz; exact (hlp i _ (List.getElem?_eq_getElem hi)).2.1
      · show (joinB (List.map s.enc (l.map (·.1)))).length + 8 ≤ 24 * Rows.uptoBulk (DataW.slice ((List.range len).map D) ((List.range (cap - len)).map fun j => D (len + j)))
        have hjb := joinP_bulk s.enc (l.map (·.1)) ((List.range len).map D) (by simp [hll]) fun i a d h1 h2 => by
          rw [List.getElem?_map] at h1 h2
          obtain ⟨z, hz, rfl⟩ := Option.map_eq_some_iff.1 h1
          have hil := (List.getElem?_eq_some_iff.1 hz).1
          rw [List.getElem?_range (by omega)] at h2
          injection h2 with h2
          subst h2
          exact (hlp i z hz).2.2
        rw [joinB_length]
        have := bulks.slice_elems ((List.range len).map D) ((List.range (cap - len)).map fun j => D (len + j))
        omega
  | .tup fs, t, n, cs, x, ⟨F, ht, hf, hct⟩, hB, h => by
    obtain ⟨xs, m, rfl, rfl, hl, hxl, hi⟩ := DataW.trod_struct ht h
    obtain ⟨y, hr, hb⟩ := Fs.open_ fs F.toList 0 m cs xs hf (hB.imp id fun h => by simp only [Rows.uptoBulk] at h; omega) (fun i f hif => hi i f (by simpa using hif)) (by simpa using hxl) (by rw [Nat.zero_add, hl, hct])
    rw [List.drop_zero] at hr
    refine ⟨y, hr, ?_⟩
    show (joinB (fs.encs y)).length + 8 ≤ _
    rw [joinB_length]
    simp only [Rows.uptoBulk]
    omega
theorem Fs.open_ : ∀ (fs : Fs) (l : List Field) (o m : Nat) (cs : List Value) (xs : List (DataW H × List MemPlace)), fs.fits P l o → (fs.plain = true ∨ Rows.uptoBulkAll (xs.map (·.1)) ≤ 1048576) →
    (∀ (i : Nat) (f : Field), l[i]? = some f → DataW.trod enc P w base (fun _ => true) held m f.type ((cs.drop f.offset).take (P.cellsOf f.type)) = xs[i]?) → xs.length = l.length → o + fs.cells = cs.length →
    ∃ y : fs.El, fs.rep w (fun b => b < w.heap.size) y (cs.drop o) ∧ (joinP (fs.encs y)).length ≤ 24 * Rows.uptoBulkAll (xs.map (·.1))
  | .nil, [], o, m, cs, xs, _, _, _, _, hl => by
    have hl : o + 0 = cs.length := hl
    exact ⟨(), List.drop_eq_nil_of_le (by omega), Nat.zero_le _⟩
  | .nil, _ :: _, _, _, _, _, h, _, _, _, _ => by cases h
  | .cons _ _, [], _, _, _, _, h, _, _, _, _ => by cases h
  | .cons s fs, f :: l, o, m, cs, xs, ⟨ho, hc, hs, hfs⟩, hB, hi, hx, hl => by
    have hl : o + (s.cells + fs.cells) = cs.length := hl
    cases xs with
    | nil => simp at hx
    | cons x xs =>
      have h1 := hi 0 f rfl
      rw [ho, hc] at h1
      simp only [List.map_cons, Rows.uptoBulkAll] at hB
      obtain ⟨a, ha, hab⟩ := Sh.open_ s f.type m _ x hs (hB.imp (fun h => by have h : (s.plain && fs.plain) = true := h; simp at h; exact h.1) fun h => by omega) h1
      obtain ⟨b, hb, hbb⟩ := Fs.open_ fs l (o + s.cells) m cs xs hfs (hB.imp (fun h => by have h : (s.plain && fs.plain) = true := h; simp at h; exact h.2) fun h => by omega) (fun i g hg => hi (i + 1) g hg) (by simpa using hx) (by omega)
      refine ⟨(a, b), ⟨_, _, ?_, ha, hb⟩, ?_⟩
      · rw [← List.drop_drop, List.take_append_drop]
      · show (joinP (s.enc a :: fs.encs b)).length ≤ _
        simp only [joinP, List.length_append, be8_length, List.map_cons, Rows.uptoBulkAll]
        omega
end
end
end
section
open Go.ChangeShapes Go.WideShapes Go.ChangeAt Go.RowKit
theorem fits_num {P : Program} {sg : Bool} {t : TypeId} (h : P.underlying t = some (.int (nk sg))) : (Sh.num sg).fits P t := h
theorem fits_bool {P : Program} {t : TypeId} (h : P.underlying t = some .bool) : Sh.bool.fits P t := h
theorem fitsSig : tSig.fits Tryz.prog 148 := ⟨_, Tryz.underlying148, ⟨rfl, by kernel_rfl, (fits_num (by kernel_rfl)), ⟨rfl, by kernel_rfl, ⟨5, by kernel_rfl, Tryz.underlying5, by kernel_rfl, by kernel_rfl⟩, trivial⟩⟩, by kernel_rfl⟩
theorem fitsHeader : tHeader.fits Tryz.prog 125 := ⟨_, Tryz.underlying125, ⟨rfl, by kernel_rfl, (fits_num (by kernel_rfl)), ⟨rfl, by kernel_rfl, (fits_num (by kernel_rfl)), ⟨rfl, by kernel_rfl, (fits_num (by kernel_rfl)), ⟨rfl, by kernel_rfl, (fits_num (by kernel_rfl)), ⟨rfl, by kernel_rfl, ⟨5, by kernel_rfl, Tryz.underlying5, by kernel_rfl, by kernel_rfl⟩, ⟨rfl, by kernel_rfl, ⟨5, by kernel_rfl, Tryz.underlying5, by kernel_rfl, by kernel_rfl⟩, ⟨rfl, by kernel_rfl, ⟨5, by kernel_rfl, Tryz.underlying5, by kernel_rfl, by kernel_rfl⟩, ⟨rfl, by kernel_rfl, (fits_num (by kernel_rfl)), trivial⟩⟩⟩⟩⟩⟩⟩⟩, by kernel_rfl⟩
theorem fitsQC : tQC.fits Tryz.prog 88 := ⟨_, Tryz.underlying88, ⟨rfl, by kernel_rfl, (fits_num (by kernel_rfl)), ⟨rfl, by kernel_rfl, (fits_num (by kernel_rfl)), ⟨rfl, by kernel_rfl, (fits_num (by kernel_rfl)), ⟨rfl, by kernel_rfl, ⟨5, by kernel_rfl, Tryz.underlying5, by kernel_rfl, by kernel_rfl⟩, ⟨rfl, by kernel_rfl, ⟨3, by kernel_rfl, (fits_num (by kernel_rfl)), by kernel_rfl, by decide⟩, ⟨rfl, by kernel_rfl, ⟨148, by kernel_rfl, fitsSig, by kernel_rfl, by decide⟩, trivial⟩⟩⟩⟩⟩⟩, by kernel_rfl⟩
theorem fitsCommit : tCommit.fits Tryz.prog 90 := ⟨_, Tryz.underlying90, ⟨rfl, by kernel_rfl, ⟨125, by kernel_rfl, fitsHeader, by kernel_rfl, by decide⟩, ⟨rfl, by kernel_rfl, fitsQC, trivial⟩⟩, by kernel_rfl⟩
theorem fitsFact : tFact.fits Tryz.prog 92 := ⟨_, Tryz.underlying92, ⟨rfl, by kernel_rfl, fitsCommit, ⟨rfl, by kernel_rfl, ⟨5, by kernel_rfl, Tryz.underlying5, by kernel_rfl, by kernel_rfl⟩, ⟨rfl, by kernel_rfl, ⟨5, by kernel_rfl, Tryz.underlying5, by kernel_rfl⟩, ⟨rfl, by kernel_rfl, (fits_bool (by kernel_rfl)), ⟨rfl, by kernel_rfl, ⟨5, by kernel_rfl, Tryz.underlying5, by kernel_rfl⟩, trivial⟩⟩⟩⟩⟩, by kernel_rfl⟩
theorem fitsRecord : tRecord.fits Tryz.prog 75 := ⟨_, Tryz.underlying75, ⟨rfl, by kernel_rfl, (fits_num (by kernel_rfl)), ⟨rfl, by kernel_rfl, ⟨3, by kernel_rfl, (fits_num (by kernel_rfl)), by kernel_rfl, by decide⟩, ⟨rfl, by kernel_rfl, ⟨32, by kernel_rfl, ⟨3, by kernel_rfl, (fits_num (by kernel_rfl)), by kernel_rfl, by decide⟩, by kernel_rfl, by decide⟩, trivial⟩⟩⟩, by kernel_rfl⟩
theorem fitsTx : tTx.fits Tryz.prog 40 := ⟨_, Tryz.underlying40, ⟨rfl, by kernel_rfl, (fits_num (by kernel_rfl)), ⟨rfl, by kernel_rfl, (fits_num (by kernel_rfl)), ⟨rfl, by kernel_rfl, (fits_num (by kernel_rfl)), ⟨rfl, by kernel_rfl, (fits_num (by kernel_rfl)), ⟨rfl, by kernel_rfl, (fits_num (by kernel_rfl)), ⟨rfl, by kernel_rfl, (fits_num (by kernel_rfl)), ⟨rfl, by kernel_rfl, (fits_num (by kernel_rfl)), ⟨rfl, by kernel_rfl, ⟨5, by kernel_rfl, Tryz.underlying5, by kernel_rfl, by kernel_rfl⟩, ⟨rfl, by kernel_rfl, (fits_num (by kernel_rfl)), ⟨rfl, by kernel_rfl, ⟨92, by kernel_rfl, fitsFact, by kernel_rfl, by decide⟩, trivial⟩⟩⟩⟩⟩⟩⟩⟩⟩⟩, by kernel_rfl⟩
theorem fitsAccount : tAccount.fits Tryz.prog 57 := ⟨_, Tryz.underlying57, ⟨rfl, by kernel_rfl, (fits_num (by kernel_rfl)), ⟨rfl, by kernel_rfl, (fits_num (by kernel_rfl)), ⟨rfl, by kernel_rfl, (fits_num (by kernel_rfl)), trivial⟩⟩⟩, by kernel_rfl⟩
theorem fitsLock : tLock.fits Tryz.prog 71 := ⟨_, Tryz.underlying71, ⟨rfl, by kernel_rfl, ⟨5, by kernel_rfl, Tryz.underlying5, by kernel_rfl, by kernel_rfl⟩, ⟨rfl, by kernel_rfl, (fits_num (by kernel_rfl)), ⟨rfl, by kernel_rfl, (fits_num (by kernel_rfl)), ⟨rfl, by kernel_rfl, (fits_num (by kernel_rfl)), ⟨rfl, by kernel_rfl, (fits_num (by kernel_rfl)), ⟨rfl, by kernel_rfl, (fits_num (by kernel_rfl)), ⟨rfl, by kernel_rfl, (fits_num (by kernel_rfl)), trivial⟩⟩⟩⟩⟩⟩⟩, by kernel_rfl⟩
theorem fitsState : tState.fits Tryz.prog 34 := ⟨_, Tryz.underlying34, ⟨rfl, by kernel_rfl, (fits_num (by kernel_rfl)), ⟨rfl, by kernel_rfl, ⟨57, by kernel_rfl, fitsAccount, by kernel_rfl, by decide⟩, ⟨rfl, by kernel_rfl, ⟨71, by kernel_rfl, fitsLock, by kernel_rfl, by decide⟩, ⟨rfl, by kernel_rfl, ⟨37, by kernel_rfl, ⟨5, by kernel_rfl, Tryz.underlying5, by kernel_rfl, by kernel_rfl⟩, by kernel_rfl, by decide⟩, ⟨rfl, by kernel_rfl, ⟨75, by kernel_rfl, fitsRecord, by kernel_rfl, by decide⟩, ⟨rfl, by kernel_rfl, ⟨3, by kernel_rfl, (fits_num (by kernel_rfl)), by kernel_rfl, by decide⟩, trivial⟩⟩⟩⟩⟩⟩, by kernel_rfl⟩
theorem bulk_le {n k : Nat} (h : n + 8 ≤ 24 * k) (hk : k ≤ 1048576) : n ≤ 1099511627776 := by omega
theorem open_thing {P : Program} {H : Type} {enc : TypeId × Value → H} {W : World} {base : Nat} {fs : Fs} {t : TypeId} {v : Value} {d : DataW H} {p : List MemPlace} (hf : (Sh.tup fs).fits P t) (hB : (Sh.tup fs).plain = true ∨ Rows.uptoBulk d ≤ 1048576)
    (hv : Value.okWide P W .any base t v) (h : DataW.Trod enc P W 0 (fun _ => true) true t v d p) :
    ∃ (cs : List Value) (x : (Sh.tup fs).El), v = .agg cs.toArray ∧ (Sh.tup fs).rep W (fun b => b < W.heap.size) x cs ∧ (∀ u ∈ cs, u.oneCell' = true) ∧ (Rows.uptoBulk d ≤ 1048576 → ((Sh.tup fs).enc x).length ≤ 1099511627776) := by
  obtain ⟨F, hF, hfit, hc⟩ := hf
  obtain ⟨ca, hva, _⟩ := okWide_struct hF hv
  obtain ⟨n, h⟩ := h
  obtain ⟨cs, hcs⟩ : ∃ cs, cs = ca.toList := ⟨_, rfl⟩
  have hca : ca = cs.toArray := by rw [hcs]
  rw [hva, show (Value.agg ca).cells = ca from rfl, ← hcs] at h
  obtain ⟨x, hr, hl⟩ := Sh.open_ (Sh.tup fs) t n cs (d, p) ⟨F, hF, hfit, hc⟩ hB h
  exact ⟨cs, x, by rw [hva, hca], hr, Sh.rep_one _ _ _ hr, fun hd => bulk_le hl hd⟩
theorem open_list {P : Program} {H : Type} {enc : TypeId × Value → H} {W : World} {base : Nat} {s : Sh} {t : TypeId} {v : Value} {d : DataW H} {p : List MemPlace} (hf : (Sh.list s).fits P t) (hB : Rows.uptoBulk d ≤ 1048576)
    (hv : Value.okWide P W .any base t v) (h : DataW.Trod enc P W 0 (fun _ => true) true t v d p) :
    ∃ (x : List s.El), (Sh.list s).rep W (fun b => b < W.heap.size) x [v] ∧ ((Sh.list s).enc x).length ≤ 1099511627776 := by
  obtain ⟨e, he, hfit, hc⟩ := hf
  obtain ⟨a1, len, cap, rfl⟩ := okWide_slice he hv
  obtain ⟨n, h⟩ := h
  obtain ⟨x, hr, hl⟩ := Sh.open_ (Sh.list s) t n _ (d, p) ⟨e, he, hfit, hc⟩ (.inr hB) h
  exact ⟨x, hr, bulk_le hl hB⟩
theorem wpList_load_blk_g {P : Program} {ops : Array Oper} {rest : List Oper} {op : Oper} {a : Act} {w : World} {Q : Exit → Act → World → Prop} (hgd : Region.wanted op (yielded ops a.tmps) = true) (ty : TypeId) (x : Operand) (ho : op.op = .load ty x) {X : Nat} {t : TypeId} {cs : List Value} (hb : Blk w X t cs.toArray) (hx : a.eval x = .pointer (some ⟨X, 0, none⟩)) {d : TypeDesc} (hu : P.underlying ty = some d) (hd : d.isRow = true)
    (hi : (P.info? ty).map (·.size) = some cs.length) (h : wpList P ops Q rest (a.put op.dst (.agg cs.toArray)) w) : wpList P ops Q (op :: rest) a w := by
  unfold wpList
  rw [if_pos hgd]
  exact .inl (wp_load_mid ty x ho X 0 hx cs _ hb.range hu hd hi h)
mutual
def Sh.zero : Sh → List Value
  | .num sg => [.int (nk sg) 0]
  | .dig => List.replicate 32 (.int .u8 0)
  | .byt => [.slice none 0 0]
  | .bool => [.bool false]
  | .list _ => [.slice none 0 0]
  | .tup fs => fs.zero
def Fs.zero : Fs → List Value
  | .nil => []
  | .cons s fs => s.zero ++ fs.zero
end
end
end Go.Proofs.YtkclkmjlodomkaaGreatDoor
