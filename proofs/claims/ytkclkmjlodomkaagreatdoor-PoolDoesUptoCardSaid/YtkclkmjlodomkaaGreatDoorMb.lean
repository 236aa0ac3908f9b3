/- Texts joined: PmD1 PmD2 PmD3 PmD4 PmD5 PmD6 PmD7 PmD8 PmE PmF CdA CdC CdG CdH CdB CdI CdJ CdK CdM CdN CdS PmG CfA. -/
import Derived.Test.YtkclkmjlodomkaaGreatDoorMa
import Derived.Deep.QuietTactic
import Derived.BigQuiet
namespace Go.Proofs.YtkclkmjlodomkaaGreatDoor
open List (setIfInBounds_toArray getElem_toArray getElem_cons_succ getElem_cons_zero set_cons_succ set_cons_zero filterMap_cons filterMap_nil getElem?_toArray getElem?_cons_succ getElem?_cons_zero)
section
open Go.RowKit Go.Maps
attribute [-simp] Tryz.isAgg40 Tryz.typeInfo40 Tryz.isAgg37 Tryz.typeInfo37
set_option maxHeartbeats 8000000 in
set_option maxRecDepth 100000 in
theorem form_1 (w : World) (f t a n d dl : Int) (id : List UInt8) (hid : id.length = 32) (m : Int) (A : Option Addr) (nf cap : Nat) (v : Int)
    (hv : v = if nf ≠ 0 ∨ d ≠ 0 ∨ dl ≠ 0 ∨ id ≠ (List.replicate 32 (0 : UInt8)) ∨ m ≠ 0 then 1 else 0) :
    Calls Tryz.prog 29 #[.agg (txl 1 f t a n d dl id m (.slice A nf cap)).toArray] w fun e w' => e = .returned (.int .i64 v) ∧ Below w.heap.size w w' := by
  obtain ⟨cs, hcs⟩ : ∃ cs, cs = (txl 1 f t a n d dl id m (.slice A nf cap)) := ⟨_, rfl⟩
  have hl : cs.length = 41 := by rw [hcs]; exact txl_len hid
  have HI := Lib.hid (tx_size hl)
  have HZL := Lib.hid (show zTx.length = cs.length from by rw [hl]; rfl)
  have H1 := Lib.hid (show ∀ u ∈ cs, u.oneCell' = true by rw [hcs]; exact txl_one rfl)
  have hal := (Below.refl w.heap.size w).alloc (Nat.le_refl _) (.cells cs.toArray 40)
  have hx := (Blk.new w 40 cs.toArray)
  have hz := Blk.new (w.alloc (.cells cs.toArray 40)) 40 zTx.toArray
  rw [show (w.alloc (.cells cs.toArray 40)).heap.size = w.heap.size + 1 by simp] at hz
  have HX := Lib.hid hx
  have HX0 := Lib.hid (hx.alloc (.cells zTx.toArray 40))
  have HZ0 := Lib.hid hz
  have HAL := Lib.hid (hal.alloc (by simp) (.cells zTx.toArray 40))
  have HCS := Lib.hid hcs
  have HID := Lib.hid hid
  have HV := Lib.hid hv
  rw [← hcs]
  clear hal hx hz hl hid hv hcs
  go_enter Tryz.func29, Tryz.ntmps29
  go_wp2_with (first
    | (refine wpList_load_blk' rfl 40 _ rfl HX.out rfl Tryz.underlying40 rfl HI.out ?_)
    | (refine wpList_store_blk (cs0 := zTx) (cs := cs) rfl 40 _ _ rfl HZ0.out rfl rfl HZL.out HI.out H1.out ?_; intro w1 hb hc; have HZ1 := Lib.hid (show Blk w1 (w.heap.size + 1) 40 (txl 1 f t a n d dl id m (.slice A nf cap)).toArray from HCS.out ▸ hb); have HX1 := Lib.hid (HX0.out.chg hc fun h => by have h : w.heap.size = w.heap.size + 1 := h; omega); have HB1 := Lib.hid (HAL.out.trans (hc.below HAL.out.size fun b h => by have h : b = w.heap.size + 1 := h; omega)); clear hb hc)
    | (refine wpList_store_cell rfl 3 _ _ rfl HZ1.out rfl (by rw [txl_len (by first | exact HID.out | rfl)]; decide) (v := .int .i64 0) rfl rfl (by kernel_rfl) rfl ?_; intro w2 hb hc; have HZ2 := Lib.hid (show Blk w2 (w.heap.size + 1) 40 (txl 0 f t a n d dl id m (.slice A nf cap)).toArray from hb); have HX2 := Lib.hid (HX1.out.chg hc fun h => by have h : w.heap.size = w.heap.size + 1 := h; omega); have HB2 := Lib.hid (HB1.out.trans (hc.below HB1.out.size fun b h => by have h : b = w.heap.size + 1 := h; omega)); have hxk : w2.cell? ⟨w.heap.size, 0, none⟩ = some (.int .i64 1) := (by rw [HX2.out.cell, HCS.out]; rfl); clear hb hc)
    | (refine wpList_store_cell rfl 35 _ _ rfl HZ2.out rfl (by rw [txl_len (by first | exact HID.out | rfl)]; decide) (v := .int .u64 0) rfl rfl (by kernel_rfl) rfl ?_; intro w3 hb hc; have HZ3 := Lib.hid (show Blk w3 (w.heap.size + 1) 40 (txl 0 0 t a n d dl id m (.slice A nf cap)).toArray from hb); have HX3 := Lib.hid (HX2.out.chg hc fun h => by have h : w.heap.size = w.heap.size + 1 := h; omega); have HB3 := Lib.hid (HB2.out.trans (hc.below HB2.out.size fun b h => by have h : b = w.heap.size + 1 := h; omega)); have hxk : w3.cell? ⟨w.heap.size, 0, none⟩ = some (.int .i64 1) := (by rw [HX3.out.cell, HCS.out]; rfl); clear hb hc)
    | (refine wpList_store_cell rfl 35 _ _ rfl HZ3.out rfl (by rw [txl_len (by first | exact HID.out | rfl)]; decide) (v := .int .u64 0) rfl rfl (by kernel_rfl) rfl ?_; intro w4 hb hc; have HZ4 := Lib.hid (show Blk w4 (w.heap.size + 1) 40 (txl 0 0 0 a n d dl id m (.slice A nf cap)).toArray from hb); have HX4 := Lib.hid (HX3.out.chg hc fun h => by have h : w.heap.size = w.heap.size + 1 := h; omega); have HB4 := Lib.hid (HB3.out.trans (hc.below HB3.out.size fun b h => by have h : b = w.heap.size + 1 := h; omega)); have hxk : w4.cell? ⟨w.heap.size, 0, none⟩ = some (.int .i64 1) := (by rw [HX4.out.cell, HCS.out]; rfl); clear hb hc)
    | (refine wpList_store_cell rfl 35 _ _ rfl HZ4.out rfl (by rw [txl_len (by first | exact HID.out | rfl)]; decide) (v := .int .u64 0) rfl rfl (by kernel_rfl) rfl ?_; intro w5 hb hc; have HZ5 := Lib.hid (show Blk w5 (w.heap.size + 1) 40 (txl 0 0 0 0 n d dl id m (.slice A nf cap)).toArray from hb); have HX5 := Lib.hid (HX4.out.chg hc fun h => by have h : w.heap.size = w.heap.size + 1 := h; omega); have HB5 := Lib.hid (HB4.out.trans (hc.below HB4.out.size fun b h => by have h : b = w.heap.size + 1 := h; omega)); have hxk : w5.cell? ⟨w.heap.size, 0, none⟩ = some (.int .i64 1) := (by rw [HX5.out.cell, HCS.out]; rfl); clear hb hc)
    | (refine wpList_store_cell rfl 35 _ _ rfl HZ5.out rfl (by rw [txl_len (by first | exact HID.out | rfl)]; decide) (v := .int .u64 0) rfl rfl (by kernel_rfl) rfl ?_; intro w6 hb hc; have HZ6 := Lib.hid (show Blk w6 (w.heap.size + 1) 40 (txl 0 0 0 0 0 d dl id m (.slice A nf cap)).toArray from hb); have HX6 := Lib.hid (HX5.out.chg hc fun h => by have h : w.heap.size = w.heap.size + 1 := h; omega); have HB6 := Lib.hid (HB5.out.trans (hc.below HB5.out.size fun b h => by have h : b = w.heap.size + 1 := h; omega)); have hxk : w6.cell? ⟨w.heap.size, 0, none⟩ = some (.int .i64 1) := (by rw [HX6.out.cell, HCS.out]; rfl); clear hb hc; refine Hid.out ?_))
  refine Lib.hid ?_
  have hx0 : w6.cell? ⟨w.heap.size, 0, none⟩ = some (.int .i64 1) := by rw [HX6.out.cell, HCS.out]; rfl
  have hx40 : w6.cell? ⟨w.heap.size, 40, none⟩ = some (.slice A nf cap) := by rw [HX6.out.cell, HCS.out, getElem?_toArray]; exact txl_40 HID.out
  have hqf : w6.cell? ⟨w.heap.size + 1, 1, none⟩ = some (.int .u64 0) := by rw [HZ6.out.cell]; rfl
  have hqt : w6.cell? ⟨w.heap.size + 1, 2, none⟩ = some (.int .u64 0) := by rw [HZ6.out.cell]; rfl
  have hqa : w6.cell? ⟨w.heap.size + 1, 3, none⟩ = some (.int .u64 0) := by rw [HZ6.out.cell]; rfl
  have hqn : w6.cell? ⟨w.heap.size + 1, 4, none⟩ = some (.int .u64 0) := by rw [HZ6.out.cell]; rfl
  have hqd : w6.cell? ⟨w.heap.size + 1, 5, none⟩ = some (.int .i64 d) := by rw [HZ6.out.cell]; rfl
  have hqdl : w6.cell? ⟨w.heap.size + 1, 6, none⟩ = some (.int .i64 dl) := by rw [HZ6.out.cell]; rfl
  have hqm : w6.cell? ⟨w.heap.size + 1, 39, none⟩ = some (.int .i64 m) := by rw [HZ6.out.cell, getElem?_toArray]; exact txl_39 (by first | exact HID.out | rfl)
  have hdig : ∀ w', (Op.equalIn 10000 37 (.agg (u8s id).toArray) (.agg #[.int .u8 0, .int .u8 0, .int .u8 0, .int .u8 0, .int .u8 0, .int .u8 0, .int .u8 0, .int .u8 0, .int .u8 0, .int .u8 0, .int .u8 0, .int .u8 0, .int .u8 0, .int .u8 0, .int .u8 0, .int .u8 0, .int .u8 0, .int .u8 0, .int .u8 0, .int .u8 0, .int .u8 0, .int .u8 0, .int .u8 0, .int .u8 0, .int .u8 0, .int .u8 0, .int .u8 0, .int .u8 0, .int .u8 0, .int .u8 0, .int .u8 0, .int .u8 0])).run Tryz.prog w' = .ok (decide (id = (List.replicate 32 (0 : UInt8)))) w' := fun w' => run_eq_dig HID.out (m := (List.replicate 32 (0 : UInt8))) rfl
  by_cases hnf : nf = 0
  rotate_left
  · have hnI : ¬ (nf : Int) = 0 := by omega
    have HQ := Lib.hid hnf
    go_wp2_with (refine wpList_load_mid_g (by rfl) 37 _ rfl (w.heap.size + 1) 7 rfl (u8s id) _ (txl_id HZ6.out) Tryz.underlying37 rfl (by rw [u8s_length, HID.out]; kernel_rfl) ?_)
    go_ret
    exact ⟨by rw [HV.out, if_pos (.inl HQ.out)]; rfl, HB6.out⟩
  subst hnf
  by_cases hq0 : d = 0
  rotate_left
  · have HQ := Lib.hid hq0
    go_wp2_with (refine wpList_load_mid_g (by rfl) 37 _ rfl (w.heap.size + 1) 7 rfl (u8s id) _ (txl_id HZ6.out) Tryz.underlying37 rfl (by rw [u8s_length, HID.out]; kernel_rfl) ?_)
    go_ret
    exact ⟨by rw [HV.out, if_pos (.inr (.inl HQ.out))]; rfl, HB6.out⟩
  subst hq0
  by_cases hq0 : dl = 0
  rotate_left
  · have HQ := Lib.hid hq0
    go_wp2_with (refine wpList_load_mid_g (by rfl) 37 _ rfl (w.heap.size + 1) 7 rfl (u8s id) _ (txl_id HZ6.out) Tryz.underlying37 rfl (by rw [u8s_length, HID.out]; kernel_rfl) ?_)
    go_ret
    exact ⟨by rw [HV.out, if_pos (.inr (.inr (.inl HQ.out)))]; rfl, HB6.out⟩
  subst hq0
  by_cases hid0 : id = (List.replicate 32 (0 : UInt8))
  rotate_left
  · have hde : decide (id = (List.replicate 32 (0 : UInt8))) = false := decide_eq_false hid0
    have HQ := Lib.hid hid0
    go_wp2_with (refine wpList_load_mid_g (by rfl) 37 _ rfl (w.heap.size + 1) 7 rfl (u8s id) _ (txl_id HZ6.out) Tryz.underlying37 rfl (by rw [u8s_length, HID.out]; kernel_rfl) ?_)
    go_ret
    exact ⟨by rw [HV.out, if_pos (.inr (.inr (.inr (.inl HQ.out))))]; rfl, HB6.out⟩
  have hde : decide (id = (List.replicate 32 (0 : UInt8))) = true := decide_eq_true hid0
  have HE := Lib.hid hid0
  clear hid0
  by_cases hq0 : m = 0
  rotate_left
  · have HQ := Lib.hid hq0
    go_wp2_with (refine wpList_load_mid_g (by rfl) 37 _ rfl (w.heap.size + 1) 7 rfl (u8s id) _ (txl_id HZ6.out) Tryz.underlying37 rfl (by rw [u8s_length, HID.out]; kernel_rfl) ?_)
    go_ret
    exact ⟨by rw [HV.out, if_pos (.inr (.inr (.inr (.inr (HQ.out)))))]; rfl, HB6.out⟩
  subst hq0
  go_wp2_with (refine wpList_load_mid_g (by rfl) 37 _ rfl (w.heap.size + 1) 7 rfl (u8s id) _ (txl_id HZ6.out) Tryz.underlying37 rfl (by rw [u8s_length, HID.out]; kernel_rfl) ?_)
  go_ret
  exact ⟨by rw [HV.out, if_neg (by simp [HE.out])]; rfl, HB6.out⟩
end
section
open Go.RowKit Go.Maps
attribute [-simp] Tryz.isAgg40 Tryz.typeInfo40 Tryz.isAgg37 Tryz.typeInfo37
set_option maxHeartbeats 8000000 in
set_option maxRecDepth 100000 in
theorem form_2 (w : World) (f t a n d dl : Int) (id : List UInt8) (hid : id.length = 32) (m : Int) (A : Option Addr) (nf cap : Nat) (v : Int)
    (hv : v = if nf ≠ 0 ∨ id ≠ (List.replicate 32 (0 : UInt8)) ∨ m ≠ 0 then 1 else 0) :
    Calls Tryz.prog 29 #[.agg (txl 2 f t a n d dl id m (.slice A nf cap)).toArray] w fun e w' => e = .returned (.int .i64 v) ∧ Below w.heap.size w w' := by
  obtain ⟨cs, hcs⟩ : ∃ cs, cs = (txl 2 f t a n d dl id m (.slice A nf cap)) := ⟨_, rfl⟩
  have hl : cs.length = 41 := by rw [hcs]; exact txl_len hid
  have HI := Lib.hid (tx_size hl)
  have HZL := Lib.hid (show zTx.length = cs.length from by rw [hl]; rfl)
  have H1 := Lib.hid (show ∀ u ∈ cs, u.oneCell' = true by rw [hcs]; exact txl_one rfl)
  have hal := (Below.refl w.heap.size w).alloc (Nat.le_refl _) (.cells cs.toArray 40)
  have hx := (Blk.new w 40 cs.toArray)
  have hz := Blk.new (w.alloc (.cells cs.toArray 40)) 40 zTx.toArray
  rw [show (w.alloc (.cells cs.toArray 40)).heap.size = w.heap.size + 1 by simp] at hz
  have HX := Lib.hid hx
  have HX0 := Lib.hid (hx.alloc (.cells zTx.toArray 40))
  have HZ0 := Lib.hid hz
  have HAL := Lib.hid (hal.alloc (by simp) (.cells zTx.toArray 40))
  have HCS := Lib.hid hcs
  have HID := Lib.hid hid
  have HV := Lib.hid hv
  rw [← hcs]
  clear hal hx hz hl hid hv hcs
  go_enter Tryz.func29, Tryz.ntmps29
  go_wp2_with (first
    | (refine wpList_load_blk' rfl 40 _ rfl HX.out rfl Tryz.underlying40 rfl HI.out ?_)
    | (refine wpList_store_blk (cs0 := zTx) (cs := cs) rfl 40 _ _ rfl HZ0.out rfl rfl HZL.out HI.out H1.out ?_; intro w1 hb hc; have HZ1 := Lib.hid (show Blk w1 (w.heap.size + 1) 40 (txl 2 f t a n d dl id m (.slice A nf cap)).toArray from HCS.out ▸ hb); have HX1 := Lib.hid (HX0.out.chg hc fun h => by have h : w.heap.size = w.heap.size + 1 := h; omega); have HB1 := Lib.hid (HAL.out.trans (hc.below HAL.out.size fun b h => by have h : b = w.heap.size + 1 := h; omega)); clear hb hc)
    | (refine wpList_store_cell rfl 3 _ _ rfl HZ1.out rfl (by rw [txl_len (by first | exact HID.out | rfl)]; decide) (v := .int .i64 0) rfl rfl (by kernel_rfl) rfl ?_; intro w2 hb hc; have HZ2 := Lib.hid (show Blk w2 (w.heap.size + 1) 40 (txl 0 f t a n d dl id m (.slice A nf cap)).toArray from hb); have HX2 := Lib.hid (HX1.out.chg hc fun h => by have h : w.heap.size = w.heap.size + 1 := h; omega); have HB2 := Lib.hid (HB1.out.trans (hc.below HB1.out.size fun b h => by have h : b = w.heap.size + 1 := h; omega)); have hxk : w2.cell? ⟨w.heap.size, 0, none⟩ = some (.int .i64 2) := (by rw [HX2.out.cell, HCS.out]; rfl); clear hb hc)
    | (refine wpList_store_cell rfl 3 _ _ rfl HZ2.out rfl (by rw [txl_len (by first | exact HID.out | rfl)]; decide) (v := .int .i64 0) rfl rfl (by kernel_rfl) rfl ?_; intro w3 hb hc; have HZ3 := Lib.hid (show Blk w3 (w.heap.size + 1) 40 (txl 0 f t a n 0 dl id m (.slice A nf cap)).toArray from hb); have HX3 := Lib.hid (HX2.out.chg hc fun h => by have h : w.heap.size = w.heap.size + 1 := h; omega); have HB3 := Lib.hid (HB2.out.trans (hc.below HB2.out.size fun b h => by have h : b = w.heap.size + 1 := h; omega)); have hxk : w3.cell? ⟨w.heap.size, 0, none⟩ = some (.int .i64 2) := (by rw [HX3.out.cell, HCS.out]; rfl); clear hb hc)
    | (refine wpList_store_cell rfl 2 _ _ rfl HZ3.out rfl (by rw [txl_len (by first | exact HID.out | rfl)]; decide) (v := .int .i64 0) rfl rfl (by kernel_rfl) rfl ?_; intro w4 hb hc; have HZ4 := Lib.hid (show Blk w4 (w.heap.size + 1) 40 (txl 0 f t a n 0 0 id m (.slice A nf cap)).toArray from hb); have HX4 := Lib.hid (HX3.out.chg hc fun h => by have h : w.heap.size = w.heap.size + 1 := h; omega); have HB4 := Lib.hid (HB3.out.trans (hc.below HB3.out.size fun b h => by have h : b = w.heap.size + 1 := h; omega)); have hxk : w4.cell? ⟨w.heap.size, 0, none⟩ = some (.int .i64 2) := (by rw [HX4.out.cell, HCS.out]; rfl); clear hb hc)
    | (refine wpList_store_cell rfl 35 _ _ rfl HZ4.out rfl (by rw [txl_len (by first | exact HID.out | rfl)]; decide) (v := .int .u64 0) rfl rfl (by kernel_rfl) rfl ?_; intro w5 hb hc; have HZ5 := Lib.hid (show Blk w5 (w.heap.size + 1) 40 (txl 0 0 t a n 0 0 id m (.slice A nf cap)).toArray from hb); have HX5 := Lib.hid (HX4.out.chg hc fun h => by have h : w.heap.size = w.heap.size + 1 := h; omega); have HB5 := Lib.hid (HB4.out.trans (hc.below HB4.out.size fun b h => by have h : b = w.heap.size + 1 := h; omega)); have hxk : w5.cell? ⟨w.heap.size, 0, none⟩ = some (.int .i64 2) := (by rw [HX5.out.cell, HCS.out]; rfl); clear hb hc)
    | (refine wpList_store_cell rfl 35 _ _ rfl HZ5.out rfl (by rw [txl_len (by first | exact HID.out | rfl)]; decide) (v := .int .u64 0) rfl rfl (by kernel_rfl) rfl ?_; intro w6 hb hc; have HZ6 := Lib.hid (show Blk w6 (w.heap.size + 1) 40 (txl 0 0 0 a n 0 0 id m (.slice A nf cap)).toArray from hb); have HX6 := Lib.hid (HX5.out.chg hc fun h => by have h : w.heap.size = w.heap.size + 1 := h; omega); have HB6 := Lib.hid (HB5.out.trans (hc.below HB5.out.size fun b h => by have h : b = w.heap.size + 1 := h; omega)); have hxk : w6.cell? ⟨w.heap.size, 0, none⟩ = some (.int .i64 2) := (by rw [HX6.out.cell, HCS.out]; rfl); clear hb hc)
    | (refine wpList_store_cell rfl 35 _ _ rfl HZ6.out rfl (by rw [txl_len (by first | exact HID.out | rfl)]; decide) (v := .int .u64 0) rfl rfl (by kernel_rfl) rfl ?_; intro w7 hb hc; have HZ7 := Lib.hid (show Blk w7 (w.heap.size + 1) 40 (txl 0 0 0 0 n 0 0 id m (.slice A nf cap)).toArray from hb); have HX7 := Lib.hid (HX6.out.chg hc fun h => by have h : w.heap.size = w.heap.size + 1 := h; omega); have HB7 := Lib.hid (HB6.out.trans (hc.below HB6.out.size fun b h => by have h : b = w.heap.size + 1 := h; omega)); have hxk : w7.cell? ⟨w.heap.size, 0, none⟩ = some (.int .i64 2) := (by rw [HX7.out.cell, HCS.out]; rfl); clear hb hc)
    | (refine wpList_store_cell rfl 35 _ _ rfl HZ7.out rfl (by rw [txl_len (by first | exact HID.out | rfl)]; decide) (v := .int .u64 0) rfl rfl (by kernel_rfl) rfl ?_; intro w8 hb hc; have HZ8 := Lib.hid (show Blk w8 (w.heap.size + 1) 40 (txl 0 0 0 0 0 0 0 id m (.slice A nf cap)).toArray from hb); have HX8 := Lib.hid (HX7.out.chg hc fun h => by have h : w.heap.size = w.heap.size + 1 := h; omega); have HB8 := Lib.hid (HB7.out.trans (hc.below HB7.out.size fun b h => by have h : b = w.heap.size + 1 := h; omega)); have hxk : w8.cell? ⟨w.heap.size, 0, none⟩ = some (.int .i64 2) := (by rw [HX8.out.cell, HCS.out]; rfl); clear hb hc; refine Hid.out ?_))
  refine Lib.hid ?_
  have hx0 : w8.cell? ⟨w.heap.size, 0, none⟩ = some (.int .i64 2) := by rw [HX8.out.cell, HCS.out]; rfl
  have hx40 : w8.cell? ⟨w.heap.size, 40, none⟩ = some (.slice A nf cap) := by rw [HX8.out.cell, HCS.out, getElem?_toArray]; exact txl_40 HID.out
  have hqf : w8.cell? ⟨w.heap.size + 1, 1, none⟩ = some (.int .u64 0) := by rw [HZ8.out.cell]; rfl
  have hqt : w8.cell? ⟨w.heap.size + 1, 2, none⟩ = some (.int .u64 0) := by rw [HZ8.out.cell]; rfl
  have hqa : w8.cell? ⟨w.heap.size + 1, 3, none⟩ = some (.int .u64 0) := by rw [HZ8.out.cell]; rfl
  have hqn : w8.cell? ⟨w.heap.size + 1, 4, none⟩ = some (.int .u64 0) := by rw [HZ8.out.cell]; rfl
  have hqd : w8.cell? ⟨w.heap.size + 1, 5, none⟩ = some (.int .i64 0) := by rw [HZ8.out.cell]; rfl
  have hqdl : w8.cell? ⟨w.heap.size + 1, 6, none⟩ = some (.int .i64 0) := by rw [HZ8.out.cell]; rfl
  have hqm : w8.cell? ⟨w.heap.size + 1, 39, none⟩ = some (.int .i64 m) := by rw [HZ8.out.cell, getElem?_toArray]; exact txl_39 (by first | exact HID.out | rfl)
  have hdig : ∀ w', (Op.equalIn 10000 37 (.agg (u8s id).toArray) (.agg #[.int .u8 0, .int .u8 0, .int .u8 0, .int .u8 0, .int .u8 0, .int .u8 0, .int .u8 0, .int .u8 0, .int .u8 0, .int .u8 0, .int .u8 0, .int .u8 0, .int .u8 0, .int .u8 0, .int .u8 0, .int .u8 0, .int .u8 0, .int .u8 0, .int .u8 0, .int .u8 0, .int .u8 0, .int .u8 0, .int .u8 0, .int .u8 0, .int .u8 0, .int .u8 0, .int .u8 0, .int .u8 0, .int .u8 0, .int .u8 0, .int .u8 0, .int .u8 0])).run Tryz.prog w' = .ok (decide (id = (List.replicate 32 (0 : UInt8)))) w' := fun w' => run_eq_dig HID.out (m := (List.replicate 32 (0 : UInt8))) rfl
  by_cases hnf : nf = 0
  rotate_left
  · have hnI : ¬ (nf : Int) = 0 := by omega
    have HQ := Lib.hid hnf
    go_wp2_with (refine wpList_load_mid_g (by rfl) 37 _ rfl (w.heap.size + 1) 7 rfl (u8s id) _ (txl_id HZ8.out) Tryz.underlying37 rfl (by rw [u8s_length, HID.out]; kernel_rfl) ?_)
    go_ret
    exact ⟨by rw [HV.out, if_pos (.inl HQ.out)]; rfl, HB8.out⟩
  subst hnf
  by_cases hid0 : id = (List.replicate 32 (0 : UInt8))
  rotate_left
  · have hde : decide (id = (List.replicate 32 (0 : UInt8))) = false := decide_eq_false hid0
    have HQ := Lib.hid hid0
    go_wp2_with (refine wpList_load_mid_g (by rfl) 37 _ rfl (w.heap.size + 1) 7 rfl (u8s id) _ (txl_id HZ8.out) Tryz.underlying37 rfl (by rw [u8s_length, HID.out]; kernel_rfl) ?_)
    go_ret
    exact ⟨by rw [HV.out, if_pos (.inr (.inl HQ.out))]; rfl, HB8.out⟩
  have hde : decide (id = (List.replicate 32 (0 : UInt8))) = true := decide_eq_true hid0
  have HE := Lib.hid hid0
  clear hid0
  by_cases hq0 : m = 0
  rotate_left
  · have HQ := Lib.hid hq0
    go_wp2_with (refine wpList_load_mid_g (by rfl) 37 _ rfl (w.heap.size + 1) 7 rfl (u8s id) _ (txl_id HZ8.out) Tryz.underlying37 rfl (by rw [u8s_length, HID.out]; kernel_rfl) ?_)
    go_ret
    exact ⟨by rw [HV.out, if_pos (.inr (.inr (HQ.out)))]; rfl, HB8.out⟩
  subst hq0
  go_wp2_with (refine wpList_load_mid_g (by rfl) 37 _ rfl (w.heap.size + 1) 7 rfl (u8s id) _ (txl_id HZ8.out) Tryz.underlying37 rfl (by rw [u8s_length, HID.out]; kernel_rfl) ?_)
  go_ret
  exact ⟨by rw [HV.out, if_neg (by simp [HE.out])]; rfl, HB8.out⟩
end
section
open Go.RowKit Go.Maps
attribute [-simp] Tryz.isAgg40 Tryz.typeInfo40 Tryz.isAgg37 Tryz.typeInfo37
set_option maxHeartbeats 8000000 in
set_option maxRecDepth 100000 in
theorem form_3 (w : World) (f t a n d dl : Int) (id : List UInt8) (hid : id.length = 32) (m : Int) (A : Option Addr) (nf cap : Nat) (v : Int)
    (hv : v = if nf ≠ 1 ∨ f ≠ 0 ∨ t ≠ 0 ∨ a ≠ 0 ∨ n ≠ 0 ∨ d ≠ 0 ∨ dl ≠ 0 ∨ m ≠ 0 then 1 else 0) :
    Calls Tryz.prog 29 #[.agg (txl 3 f t a n d dl id m (.slice A nf cap)).toArray] w fun e w' => e = .returned (.int .i64 v) ∧ Below w.heap.size w w' := by
  obtain ⟨cs, hcs⟩ : ∃ cs, cs = (txl 3 f t a n d dl id m (.slice A nf cap)) := ⟨_, rfl⟩
  have hl : cs.length = 41 := by rw [hcs]; exact txl_len hid
  have HI := Lib.hid (tx_size hl)
  have HZL := Lib.hid (show zTx.length = cs.length from by rw [hl]; rfl)
  have H1 := Lib.hid (show ∀ u ∈ cs, u.oneCell' = true by rw [hcs]; exact txl_one rfl)
  have hal := (Below.refl w.heap.size w).alloc (Nat.le_refl _) (.cells cs.toArray 40)
  have hx := (Blk.new w 40 cs.toArray)
  have hz := Blk.new (w.alloc (.cells cs.toArray 40)) 40 zTx.toArray
  rw [show (w.alloc (.cells cs.toArray 40)).heap.size = w.heap.size + 1 by simp] at hz
  have HX := Lib.hid hx
  have HX0 := Lib.hid (hx.alloc (.cells zTx.toArray 40))
  have HZ0 := Lib.hid hz
  have HAL := Lib.hid (hal.alloc (by simp) (.cells zTx.toArray 40))
  have HCS := Lib.hid hcs
  have HID := Lib.hid hid
  have HV := Lib.hid hv
  rw [← hcs]
  clear hal hx hz hl hid hv hcs
  go_enter Tryz.func29, Tryz.ntmps29
  go_wp2_with (first
    | (refine wpList_load_blk' rfl 40 _ rfl HX.out rfl Tryz.underlying40 rfl HI.out ?_)
    | (refine wpList_store_blk (cs0 := zTx) (cs := cs) rfl 40 _ _ rfl HZ0.out rfl rfl HZL.out HI.out H1.out ?_; intro w1 hb hc; have HZ1 := Lib.hid (show Blk w1 (w.heap.size + 1) 40 (txl 3 f t a n d dl id m (.slice A nf cap)).toArray from HCS.out ▸ hb); have HX1 := Lib.hid (HX0.out.chg hc fun h => by have h : w.heap.size = w.heap.size + 1 := h; omega); have HB1 := Lib.hid (HAL.out.trans (hc.below HAL.out.size fun b h => by have h : b = w.heap.size + 1 := h; omega)); clear hb hc)
    | (refine wpList_store_cell rfl 3 _ _ rfl HZ1.out rfl (by rw [txl_len (by first | exact HID.out | rfl)]; decide) (v := .int .i64 0) rfl rfl (by kernel_rfl) rfl ?_; intro w2 hb hc; have HZ2 := Lib.hid (show Blk w2 (w.heap.size + 1) 40 (txl 0 f t a n d dl id m (.slice A nf cap)).toArray from hb); have HX2 := Lib.hid (HX1.out.chg hc fun h => by have h : w.heap.size = w.heap.size + 1 := h; omega); have HB2 := Lib.hid (HB1.out.trans (hc.below HB1.out.size fun b h => by have h : b = w.heap.size + 1 := h; omega)); have hxk : w2.cell? ⟨w.heap.size, 0, none⟩ = some (.int .i64 3) := (by rw [HX2.out.cell, HCS.out]; rfl); clear hb hc)
    | (refine wpList_store_part (pre := [.int .i64 0, .int .u64 f, .int .u64 t, .int .u64 a, .int .u64 n, .int .i64 d, .int .i64 dl]) (old := u8s id) (vals := u8s (List.replicate 32 (0 : UInt8))) (post := [.int .i64 m, .slice A nf cap]) rfl 37 _ _ rfl HZ2.out rfl rfl (v := .agg (u8s (List.replicate 32 (0 : UInt8))).toArray) rfl rfl (by rw [u8s_length, HID.out]; rfl) (by kernel_rfl) (u8s_one _) ?_; intro w3 hb hc; have HZ3 := Lib.hid (show Blk w3 (w.heap.size + 1) 40 (txl 0 f t a n d dl (List.replicate 32 (0 : UInt8)) m (.slice A nf cap)).toArray from hb); have HX3 := Lib.hid (HX2.out.chg hc fun h => by have h : w.heap.size = w.heap.size + 1 := h; omega); have HB3 := Lib.hid (HB2.out.trans (hc.below HB2.out.size fun b h => by have h : b = w.heap.size + 1 := h; omega)); have hxk : w3.cell? ⟨w.heap.size, 0, none⟩ = some (.int .i64 3) := (by rw [HX3.out.cell, HCS.out]; rfl); clear hb hc; refine Hid.out ?_))
  refine Lib.hid ?_
  have hx0 : w3.cell? ⟨w.heap.size, 0, none⟩ = some (.int .i64 3) := by rw [HX3.out.cell, HCS.out]; rfl
  have hx40 : w3.cell? ⟨w.heap.size, 40, none⟩ = some (.slice A nf cap) := by rw [HX3.out.cell, HCS.out, getElem?_toArray]; exact txl_40 HID.out
  have hqf : w3.cell? ⟨w.heap.size + 1, 1, none⟩ = some (.int .u64 f) := by rw [HZ3.out.cell]; rfl
  have hqt : w3.cell? ⟨w.heap.size + 1, 2, none⟩ = some (.int .u64 t) := by rw [HZ3.out.cell]; rfl
  have hqa : w3.cell? ⟨w.heap.size + 1, 3, none⟩ = some (.int .u64 a) := by rw [HZ3.out.cell]; rfl
  have hqn : w3.cell? ⟨w.heap.size + 1, 4, none⟩ = some (.int .u64 n) := by rw [HZ3.out.cell]; rfl
  have hqd : w3.cell? ⟨w.heap.size + 1, 5, none⟩ = some (.int .i64 d) := by rw [HZ3.out.cell]; rfl
  have hqdl : w3.cell? ⟨w.heap.size + 1, 6, none⟩ = some (.int .i64 dl) := by rw [HZ3.out.cell]; rfl
  have hqm : w3.cell? ⟨w.heap.size + 1, 39, none⟩ = some (.int .i64 m) := by rw [HZ3.out.cell, getElem?_toArray]; exact txl_39 (by first | exact HID.out | rfl)
  have hdig : ∀ w', (Op.equalIn 10000 37 (.agg #[.int .u8 0, .int .u8 0, .int .u8 0, .int .u8 0, .int .u8 0, .int .u8 0, .int .u8 0, .int .u8 0, .int .u8 0, .int .u8 0, .int .u8 0, .int .u8 0, .int .u8 0, .int .u8 0, .int .u8 0, .int .u8 0, .int .u8 0, .int .u8 0, .int .u8 0, .int .u8 0, .int .u8 0, .int .u8 0, .int .u8 0, .int .u8 0, .int .u8 0, .int .u8 0, .int .u8 0, .int .u8 0, .int .u8 0, .int .u8 0, .int .u8 0, .int .u8 0]) (.agg #[.int .u8 0, .int .u8 0, .int .u8 0, .int .u8 0, .int .u8 0, .int .u8 0, .int .u8 0, .int .u8 0, .int .u8 0, .int .u8 0, .int .u8 0, .int .u8 0, .int .u8 0, .int .u8 0, .int .u8 0, .int .u8 0, .int .u8 0, .int .u8 0, .int .u8 0, .int .u8 0, .int .u8 0, .int .u8 0, .int .u8 0, .int .u8 0, .int .u8 0, .int .u8 0, .int .u8 0, .int .u8 0, .int .u8 0, .int .u8 0, .int .u8 0, .int .u8 0])).run Tryz.prog w' = .ok true w' := fun w' => (run_eq_dig (l := (List.replicate 32 (0 : UInt8))) (m := (List.replicate 32 (0 : UInt8))) rfl rfl).trans (by simp)
  by_cases hnf : nf = 1
  rotate_left
  · have hnI : ¬ (nf : Int) = 1 := by omega
    have HQ := Lib.hid hnf
    go_wp2_with (refine wpList_load_mid_g (by rfl) 37 _ rfl (w.heap.size + 1) 7 rfl [.int .u8 0, .int .u8 0, .int .u8 0, .int .u8 0, .int .u8 0, .int .u8 0, .int .u8 0, .int .u8 0, .int .u8 0, .int .u8 0, .int .u8 0, .int .u8 0, .int .u8 0, .int .u8 0, .int .u8 0, .int .u8 0, .int .u8 0, .int .u8 0, .int .u8 0, .int .u8 0, .int .u8 0, .int .u8 0, .int .u8 0, .int .u8 0, .int .u8 0, .int .u8 0, .int .u8 0, .int .u8 0, .int .u8 0, .int .u8 0, .int .u8 0, .int .u8 0] _ (txl_id HZ3.out) Tryz.underlying37 rfl (by kernel_rfl) ?_)
    go_ret
    exact ⟨by rw [HV.out, if_pos (.inl HQ.out)]; rfl, HB3.out⟩
  subst hnf
  by_cases hq0 : f = 0
  rotate_left
  · have HQ := Lib.hid hq0
    go_wp2_with (refine wpList_load_mid_g (by rfl) 37 _ rfl (w.heap.size + 1) 7 rfl [.int .u8 0, .int .u8 0, .int .u8 0, .int .u8 0, .int .u8 0, .int .u8 0, .int .u8 0, .int .u8 0, .int .u8 0, .int .u8 0, .int .u8 0, .int .u8 0, .int .u8 0, .int .u8 0, .int .u8 0, .int .u8 0, .int .u8 0, .int .u8 0, .int .u8 0, .int .u8 0, .int .u8 0, .int .u8 0, .int .u8 0, .int .u8 0, .int .u8 0, .int .u8 0, .int .u8 0, .int .u8 0, .int .u8 0, .int .u8 0, .int .u8 0, .int .u8 0] _ (txl_id HZ3.out) Tryz.underlying37 rfl (by kernel_rfl) ?_)
    go_ret
    exact ⟨by rw [HV.out, if_pos (.inr (.inl HQ.out))]; rfl, HB3.out⟩
  subst hq0
  by_cases hq0 : t = 0
  rotate_left
  · have HQ := Lib.hid hq0
    go_wp2_with (refine wpList_load_mid_g (by rfl) 37 _ rfl (w.heap.size + 1) 7 rfl [.int .u8 0, .int .u8 0, .int .u8 0, .int .u8 0, .int .u8 0, .int .u8 0, .int .u8 0, .int .u8 0, .int .u8 0, .int .u8 0, .int .u8 0, .int .u8 0, .int .u8 0, .int .u8 0, .int .u8 0, .int .u8 0, .int .u8 0, .int .u8 0, .int .u8 0, .int .u8 0, .int .u8 0, .int .u8 0, .int .u8 0, .int .u8 0, .int .u8 0, .int .u8 0, .int .u8 0, .int .u8 0, .int .u8 0, .int .u8 0, .int .u8 0, .int .u8 0] _ (txl_id HZ3.out) Tryz.underlying37 rfl (by kernel_rfl) ?_)
    go_ret
    exact ⟨by rw [HV.out, if_pos (.inr (.inr (.inl HQ.out)))]; rfl, HB3.out⟩
  subst hq0
  by_cases hq0 : a = 0
  rotate_left
  · have HQ := Lib.hid hq0
    go_wp2_with (refine wpList_load_mid_g (by rfl) 37 _ rfl (w.heap.size + 1) 7 rfl [.int .u8 0, .int .u8 0, .int .u8 0, .int .u8 0, .int .u8 0, .int .u8 0, .int .u8 0, .int .u8 0, .int .u8 0, .int .u8 0, .int .u8 0, .int .u8 0, .int .u8 0, .int .u8 0, .int .u8 0, .int .u8 0, .int .u8 0, .int .u8 0, .int .u8 0, .int .u8 0, .int .u8 0, .int .u8 0, .int .u8 0, .int .u8 0, .int .u8 0, .int .u8 0, .int .u8 0, .int .u8 0, .int .u8 0, .int .u8 0, .int .u8 0, .int .u8 0] _ (txl_id HZ3.out) Tryz.underlying37 rfl (by kernel_rfl) ?_)
    go_ret
    exact ⟨by rw [HV.out, if_pos (.inr (.inr (.inr (.inl HQ.out))))]; rfl, HB3.out⟩
  subst hq0
  by_cases hq0 : n = 0
  rotate_left
  · have HQ := Lib.hid hq0
    go_wp2_with (refine wpList_load_mid_g (by rfl) 37 _ rfl (w.heap.size + 1) 7 rfl [.int .u8 0, .int .u8 0, .int .u8 0, .int .u8 0, .int .u8 0, .int .u8 0, .int .u8 0, .int .u8 0, .int .u8 0, .int .u8 0, .int .u8 0, .int .u8 0, .int .u8 0, .int .u8 0, .int .u8 0, .int .u8 0, .int .u8 0, .int .u8 0, .int .u8 0, .int .u8 0, .int .u8 0, .int .u8 0, .int .u8 0, .int .u8 0, .int .u8 0, .int .u8 0, .int .u8 0, .int .u8 0, .int .u8 0, .int .u8 0, .int .u8 0, .int .u8 0] _ (txl_id HZ3.out) Tryz.underlying37 rfl (by kernel_rfl) ?_)
    go_ret
    exact ⟨by rw [HV.out, if_pos (.inr (.inr (.inr (.inr (.inl HQ.out)))))]; rfl, HB3.out⟩
  subst hq0
  by_cases hq0 : d = 0
  rotate_left
  · have HQ := Lib.hid hq0
    go_wp2_with (refine wpList_load_mid_g (by rfl) 37 _ rfl (w.heap.size + 1) 7 rfl [.int .u8 0, .int .u8 0, .int .u8 0, .int .u8 0, .int .u8 0, .int .u8 0, .int .u8 0, .int .u8 0, .int .u8 0, .int .u8 0, .int .u8 0, .int .u8 0, .int .u8 0, .int .u8 0, .int .u8 0, .int .u8 0, .int .u8 0, .int .u8 0, .int .u8 0, .int .u8 0, .int .u8 0, .int .u8 0, .int .u8 0, .int .u8 0, .int .u8 0, .int .u8 0, .int .u8 0, .int .u8 0, .int .u8 0, .int .u8 0, .int .u8 0, .int .u8 0] _ (txl_id HZ3.out) Tryz.underlying37 rfl (by kernel_rfl) ?_)
    go_ret
    exact ⟨by rw [HV.out, if_pos (.inr (.inr (.inr (.inr (.inr (.inl HQ.out))))))]; rfl, HB3.out⟩
  subst hq0
  by_cases hq0 : dl = 0
  rotate_left
  · have HQ := Lib.hid hq0
    go_wp2_with (refine wpList_load_mid_g (by rfl) 37 _ rfl (w.heap.size + 1) 7 rfl [.int .u8 0, .int .u8 0, .int .u8 0, .int .u8 0, .int .u8 0, .int .u8 0, .int .u8 0, .int .u8 0, .int .u8 0, .int .u8 0, .int .u8 0, .int .u8 0, .int .u8 0, .int .u8 0, .int .u8 0, .int .u8 0, .int .u8 0, .int .u8 0, .int .u8 0, .int .u8 0, .int .u8 0, .int .u8 0, .int .u8 0, .int .u8 0, .int .u8 0, .int .u8 0, .int .u8 0, .int .u8 0, .int .u8 0, .int .u8 0, .int .u8 0, .int .u8 0] _ (txl_id HZ3.out) Tryz.underlying37 rfl (by kernel_rfl) ?_)
    go_ret
    exact ⟨by rw [HV.out, if_pos (.inr (.inr (.inr (.inr (.inr (.inr (.inl HQ.out)))))))]; rfl, HB3.out⟩
  subst hq0
  by_cases hq0 : m = 0
  rotate_left
  · have HQ := Lib.hid hq0
    go_wp2_with (refine wpList_load_mid_g (by rfl) 37 _ rfl (w.heap.size + 1) 7 rfl [.int .u8 0, .int .u8 0, .int .u8 0, .int .u8 0, .int .u8 0, .int .u8 0, .int .u8 0, .int .u8 0, .int .u8 0, .int .u8 0, .int .u8 0, .int .u8 0, .int .u8 0, .int .u8 0, .int .u8 0, .int .u8 0, .int .u8 0, .int .u8 0, .int .u8 0, .int .u8 0, .int .u8 0, .int .u8 0, .int .u8 0, .int .u8 0, .int .u8 0, .int .u8 0, .int .u8 0, .int .u8 0, .int .u8 0, .int .u8 0, .int .u8 0, .int .u8 0] _ (txl_id HZ3.out) Tryz.underlying37 rfl (by kernel_rfl) ?_)
    go_ret
    exact ⟨by rw [HV.out, if_pos (.inr (.inr (.inr (.inr (.inr (.inr (.inr (HQ.out))))))))]; rfl, HB3.out⟩
  subst hq0
  go_wp2_with (refine wpList_load_mid_g (by rfl) 37 _ rfl (w.heap.size + 1) 7 rfl [.int .u8 0, .int .u8 0, .int .u8 0, .int .u8 0, .int .u8 0, .int .u8 0, .int .u8 0, .int .u8 0, .int .u8 0, .int .u8 0, .int .u8 0, .int .u8 0, .int .u8 0, .int .u8 0, .int .u8 0, .int .u8 0, .int .u8 0, .int .u8 0, .int .u8 0, .int .u8 0, .int .u8 0, .int .u8 0, .int .u8 0, .int .u8 0, .int .u8 0, .int .u8 0, .int .u8 0, .int .u8 0, .int .u8 0, .int .u8 0, .int .u8 0, .int .u8 0] _ (txl_id HZ3.out) Tryz.underlying37 rfl (by kernel_rfl) ?_)
  go_ret
  exact ⟨by rw [HV.out, if_neg (by simp)]; rfl, HB3.out⟩
end
section
open Go.RowKit Go.Maps
attribute [-simp] Tryz.isAgg40 Tryz.typeInfo40 Tryz.isAgg37 Tryz.typeInfo37
set_option maxHeartbeats 8000000 in
set_option maxRecDepth 100000 in
theorem form_4 (w : World) (f t a n d dl : Int) (id : List UInt8) (hid : id.length = 32) (m : Int) (A : Option Addr) (nf cap : Nat) (v : Int)
    (hv : v = if nf ≠ 1 ∨ f ≠ 0 ∨ t ≠ 0 ∨ a ≠ 0 ∨ n ≠ 0 ∨ d ≠ 0 ∨ dl ≠ 0 ∨ m ≠ 0 then 1 else 0) :
    Calls Tryz.prog 29 #[.agg (txl 4 f t a n d dl id m (.slice A nf cap)).toArray] w fun e w' => e = .returned (.int .i64 v) ∧ Below w.heap.size w w' := by
  obtain ⟨cs, hcs⟩ : ∃ cs, cs = (txl 4 f t a n d dl id m (.slice A nf cap)) := ⟨_, rfl⟩
  have hl : cs.length = 41 := by rw [hcs]; exact txl_len hid
  have HI := Lib.hid (tx_size hl)
  have HZL := Lib.hid (show zTx.length = cs.length from by rw [hl]; rfl)
  have H1 := Lib.hid (show ∀ u ∈ cs, u.oneCell' = true by rw [hcs]; exact txl_one rfl)
  have hal := (Below.refl w.heap.size w).alloc (Nat.le_refl _) (.cells cs.toArray 40)
  have hx := (Blk.new w 40 cs.toArray)
  have hz := Blk.new (w.alloc (.cells cs.toArray 40)) 40 zTx.toArray
  rw [show (w.alloc (.cells cs.toArray 40)).heap.size = w.heap.size + 1 by simp] at hz
  have HX := Lib.hid hx
  have HX0 := Lib.hid (hx.alloc (.cells zTx.toArray 40))
  have HZ0 := Lib.hid hz
  have HAL := Lib.hid (hal.alloc (by simp) (.cells zTx.toArray 40))
  have HCS := Lib.hid hcs
  have HID := Lib.hid hid
  have HV := Lib.hid hv
  rw [← hcs]
  clear hal hx hz hl hid hv hcs
  go_enter Tryz.func29, Tryz.ntmps29
  go_wp2_with (first
    | (refine wpList_load_blk' rfl 40 _ rfl HX.out rfl Tryz.underlying40 rfl HI.out ?_)
    | (refine wpList_store_blk (cs0 := zTx) (cs := cs) rfl 40 _ _ rfl HZ0.out rfl rfl HZL.out HI.out H1.out ?_; intro w1 hb hc; have HZ1 := Lib.hid (show Blk w1 (w.heap.size + 1) 40 (txl 4 f t a n d dl id m (.slice A nf cap)).toArray from HCS.out ▸ hb); have HX1 := Lib.hid (HX0.out.chg hc fun h => by have h : w.heap.size = w.heap.size + 1 := h; omega); have HB1 := Lib.hid (HAL.out.trans (hc.below HAL.out.size fun b h => by have h : b = w.heap.size + 1 := h; omega)); clear hb hc)
    | (refine wpList_store_cell rfl 3 _ _ rfl HZ1.out rfl (by rw [txl_len (by first | exact HID.out | rfl)]; decide) (v := .int .i64 0) rfl rfl (by kernel_rfl) rfl ?_; intro w2 hb hc; have HZ2 := Lib.hid (show Blk w2 (w.heap.size + 1) 40 (txl 0 f t a n d dl id m (.slice A nf cap)).toArray from hb); have HX2 := Lib.hid (HX1.out.chg hc fun h => by have h : w.heap.size = w.heap.size + 1 := h; omega); have HB2 := Lib.hid (HB1.out.trans (hc.below HB1.out.size fun b h => by have h : b = w.heap.size + 1 := h; omega)); have hxk : w2.cell? ⟨w.heap.size, 0, none⟩ = some (.int .i64 4) := (by rw [HX2.out.cell, HCS.out]; rfl); clear hb hc)
    | (refine wpList_store_part (pre := [.int .i64 0, .int .u64 f, .int .u64 t, .int .u64 a, .int .u64 n, .int .i64 d, .int .i64 dl]) (old := u8s id) (vals := u8s (List.replicate 32 (0 : UInt8))) (post := [.int .i64 m, .slice A nf cap]) rfl 37 _ _ rfl HZ2.out rfl rfl (v := .agg (u8s (List.replicate 32 (0 : UInt8))).toArray) rfl rfl (by rw [u8s_length, HID.out]; rfl) (by kernel_rfl) (u8s_one _) ?_; intro w3 hb hc; have HZ3 := Lib.hid (show Blk w3 (w.heap.size + 1) 40 (txl 0 f t a n d dl (List.replicate 32 (0 : UInt8)) m (.slice A nf cap)).toArray from hb); have HX3 := Lib.hid (HX2.out.chg hc fun h => by have h : w.heap.size = w.heap.size + 1 := h; omega); have HB3 := Lib.hid (HB2.out.trans (hc.below HB2.out.size fun b h => by have h : b = w.heap.size + 1 := h; omega)); have hxk : w3.cell? ⟨w.heap.size, 0, none⟩ = some (.int .i64 4) := (by rw [HX3.out.cell, HCS.out]; rfl); clear hb hc; refine Hid.out ?_))
  refine Lib.hid ?_
  have hx0 : w3.cell? ⟨w.heap.size, 0, none⟩ = some (.int .i64 4) := by rw [HX3.out.cell, HCS.out]; rfl
  have hx40 : w3.cell? ⟨w.heap.size, 40, none⟩ = some (.slice A nf cap) := by rw [HX3.out.cell, HCS.out, getElem?_toArray]; exact txl_40 HID.out
  have hqf : w3.cell? ⟨w.heap.size + 1, 1, none⟩ = some (.int .u64 f) := by rw [HZ3.out.cell]; rfl
  have hqt : w3.cell? ⟨w.heap.size + 1, 2, none⟩ = some (.int .u64 t) := by rw [HZ3.out.cell]; rfl
  have hqa : w3.cell? ⟨w.heap.size + 1, 3, none⟩ = some (.int .u64 a) := by rw [HZ3.out.cell]; rfl
  have hqn : w3.cell? ⟨w.heap.size + 1, 4, none⟩ = some (.int .u64 n) := by rw [HZ3.out.cell]; rfl
  have hqd : w3.cell? ⟨w.heap.size + 1, 5, none⟩ = some (.int .i64 d) := by rw [HZ3.out.cell]; rfl
  have hqdl : w3.cell? ⟨w.heap.size + 1, 6, none⟩ = some (.int .i64 dl) := by rw [HZ3.out.cell]; rfl
  have hqm : w3.cell? ⟨w.heap.size + 1, 39, none⟩ = some (.int .i64 m) := by rw [HZ3.out.cell, getElem?_toArray]; exact txl_39 (by first | exact HID.out | rfl)
  have hdig : ∀ w', (Op.equalIn 10000 37 (.agg #[.int .u8 0, .int .u8 0, .int .u8 0, .int .u8 0, .int .u8 0, .int .u8 0, .int .u8 0, .int .u8 0, .int .u8 0, .int .u8 0, .int .u8 0, .int .u8 0, .int .u8 0, .int .u8 0, .int .u8 0, .int .u8 0, .int .u8 0, .int .u8 0, .int .u8 0, .int .u8 0, .int .u8 0, .int .u8 0, .int .u8 0, .int .u8 0, .int .u8 0, .int .u8 0, .int .u8 0, .int .u8 0, .int .u8 0, .int .u8 0, .int .u8 0, .int .u8 0]) (.agg #[.int .u8 0, .int .u8 0, .int .u8 0, .int .u8 0, .int .u8 0, .int .u8 0, .int .u8 0, .int .u8 0, .int .u8 0, .int .u8 0, .int .u8 0, .int .u8 0, .int .u8 0, .int .u8 0, .int .u8 0, .int .u8 0, .int .u8 0, .int .u8 0, .int .u8 0, .int .u8 0, .int .u8 0, .int .u8 0, .int .u8 0, .int .u8 0, .int .u8 0, .int .u8 0, .int .u8 0, .int .u8 0, .int .u8 0, .int .u8 0, .int .u8 0, .int .u8 0])).run Tryz.prog w' = .ok true w' := fun w' => (run_eq_dig (l := (List.replicate 32 (0 : UInt8))) (m := (List.replicate 32 (0 : UInt8))) rfl rfl).trans (by simp)
  by_cases hnf : nf = 1
  rotate_left
  · have hnI : ¬ (nf : Int) = 1 := by omega
    have HQ := Lib.hid hnf
    go_wp2_with (refine wpList_load_mid_g (by rfl) 37 _ rfl (w.heap.size + 1) 7 rfl [.int .u8 0, .int .u8 0, .int .u8 0, .int .u8 0, .int .u8 0, .int .u8 0, .int .u8 0, .int .u8 0, .int .u8 0, .int .u8 0, .int .u8 0, .int .u8 0, .int .u8 0, .int .u8 0, .int .u8 0, .int .u8 0, .int .u8 0, .int .u8 0, .int .u8 0, .int .u8 0, .int .u8 0, .int .u8 0, .int .u8 0, .int .u8 0, .int .u8 0, .int .u8 0, .int .u8 0, .int .u8 0, .int .u8 0, .int .u8 0, .int .u8 0, .int .u8 0] _ (txl_id HZ3.out) Tryz.underlying37 rfl (by kernel_rfl) ?_)
    go_ret
    exact ⟨by rw [HV.out, if_pos (.inl HQ.out)]; rfl, HB3.out⟩
  subst hnf
  by_cases hq0 : f = 0
  rotate_left
  · have HQ := Lib.hid hq0
    go_wp2_with (refine wpList_load_mid_g (by rfl) 37 _ rfl (w.heap.size + 1) 7 rfl [.int .u8 0, .int .u8 0, .int .u8 0, .int .u8 0, .int .u8 0, .int .u8 0, .int .u8 0, .int .u8 0, .int .u8 0, .int .u8 0, .int .u8 0, .int .u8 0, .int .u8 0, .int .u8 0, .int .u8 0, .int .u8 0, .int .u8 0, .int .u8 0, .int .u8 0, .int .u8 0, .int .u8 0, .int .u8 0, .int .u8 0, .int .u8 0, .int .u8 0, .int .u8 0, .int .u8 0, .int .u8 0, .int .u8 0, .int .u8 0, .int .u8 0, .int .u8 0] _ (txl_id HZ3.out) Tryz.underlying37 rfl (by kernel_rfl) ?_)
    go_ret
    exact ⟨by rw [HV.out, if_pos (.inr (.inl HQ.out))]; rfl, HB3.out⟩
  subst hq0
  by_cases hq0 : t = 0
  rotate_left
  · have HQ := Lib.hid hq0
    go_wp2_with (refine wpList_load_mid_g (by rfl) 37 _ rfl (w.heap.size + 1) 7 rfl [.int .u8 0, .int .u8 0, .int .u8 0, .int .u8 0, .int .u8 0, .int .u8 0, .int .u8 0, .int .u8 0, .int .u8 0, .int .u8 0, .int .u8 0, .int .u8 0, .int .u8 0, .int .u8 0, .int .u8 0, .int .u8 0, .int .u8 0, .int .u8 0, .int .u8 0, .int .u8 0, .int .u8 0, .int .u8 0, .int .u8 0, .int .u8 0, .int .u8 0, .int .u8 0, .int .u8 0, .int .u8 0, .int .u8 0, .int .u8 0, .int .u8 0, .int .u8 0] _ (txl_id HZ3.out) Tryz.underlying37 rfl (by kernel_rfl) ?_)
    go_ret
    exact ⟨by rw [HV.out, if_pos (.inr (.inr (.inl HQ.out)))]; rfl, HB3.out⟩
  subst hq0
  by_cases hq0 : a = 0
  rotate_left
  · have HQ := Lib.hid hq0
    go_wp2_with (refine wpList_load_mid_g (by rfl) 37 _ rfl (w.heap.size + 1) 7 rfl [.int .u8 0, .int .u8 0, .int .u8 0, .int .u8 0, .int .u8 0, .int .u8 0, .int .u8 0, .int .u8 0, .int .u8 0, .int .u8 0, .int .u8 0, .int .u8 0, .int .u8 0, .int .u8 0, .int .u8 0, .int .u8 0, .int .u8 0, .int .u8 0, .int .u8 0, .int .u8 0, .int .u8 0, .int .u8 0, .int .u8 0, .int .u8 0, .int .u8 0, .int .u8 0, .int .u8 0, .int .u8 0, .int .u8 0, .int .u8 0, .int .u8 0, .int .u8 0] _ (txl_id HZ3.out) Tryz.underlying37 rfl (by kernel_rfl) ?_)
    go_ret
    exact ⟨by rw [HV.out, if_pos (.inr (.inr (.inr (.inl HQ.out))))]; rfl, HB3.out⟩
  subst hq0
  by_cases hq0 : n = 0
  rotate_left
  · have HQ := Lib.hid hq0
    go_wp2_with (refine wpList_load_mid_g (by rfl) 37 _ rfl (w.heap.size + 1) 7 rfl [.int .u8 0, .int .u8 0, .int .u8 0, .int .u8 0, .int .u8 0, .int .u8 0, .int .u8 0, .int .u8 0, .int .u8 0, .int .u8 0, .int .u8 0, .int .u8 0, .int .u8 0, .int .u8 0, .int .u8 0, .int .u8 0, .int .u8 0, .int .u8 0, .int .u8 0, .int .u8 0, .int .u8 0, .int .u8 0, .int .u8 0, .int .u8 0, .int .u8 0, .int .u8 0, .int .u8 0, .int .u8 0, .int .u8 0, .int .u8 0, .int .u8 0, .int .u8 0] _ (txl_id HZ3.out) Tryz.underlying37 rfl (by kernel_rfl) ?_)
    go_ret
    exact ⟨by rw [HV.out, if_pos (.inr (.inr (.inr (.inr (.inl HQ.out)))))]; rfl, HB3.out⟩
  subst hq0
  by_cases hq0 : d = 0
  rotate_left
  · have HQ := Lib.hid hq0
    go_wp2_with (refine wpList_load_mid_g (by rfl) 37 _ rfl (w.heap.size + 1) 7 rfl [.int .u8 0, .int .u8 0, .int .u8 0, .int .u8 0, .int .u8 0, .int .u8 0, .int .u8 0, .int .u8 0, .int .u8 0, .int .u8 0, .int .u8 0, .int .u8 0, .int .u8 0, .int .u8 0, .int .u8 0, .int .u8 0, .int .u8 0, .int .u8 0, .int .u8 0, .int .u8 0, .int .u8 0, .int .u8 0, .int .u8 0, .int .u8 0, .int .u8 0, .int .u8 0, .int .u8 0, .int .u8 0, .int .u8 0, .int .u8 0, .int .u8 0, .int .u8 0] _ (txl_id HZ3.out) Tryz.underlying37 rfl (by kernel_rfl) ?_)
    go_ret
    exact ⟨by rw [HV.out, if_pos (.inr (.inr (.inr (.inr (.inr (.inl HQ.out))))))]; rfl, HB3.out⟩
  subst hq0
  by_cases hq0 : dl = 0
  rotate_left
  · have HQ := Lib.hid hq0
    go_wp2_with (refine wpList_load_mid_g (by rfl) 37 _ rfl (w.heap.size + 1) 7 rfl [.int .u8 0, .int .u8 0, .int .u8 0, .int .u8 0, .int .u8 0, .int .u8 0, .int .u8 0, .int .u8 0, .int .u8 0, .int .u8 0, .int .u8 0, .int .u8 0, .int .u8 0, .int .u8 0, .int .u8 0, .int .u8 0, .int .u8 0, .int .u8 0, .int .u8 0, .int .u8 0, .int .u8 0, .int .u8 0, .int .u8 0, .int .u8 0, .int .u8 0, .int .u8 0, .int .u8 0, .int .u8 0, .int .u8 0, .int .u8 0, .int .u8 0, .int .u8 0] _ (txl_id HZ3.out) Tryz.underlying37 rfl (by kernel_rfl) ?_)
    go_ret
    exact ⟨by rw [HV.out, if_pos (.inr (.inr (.inr (.inr (.inr (.inr (.inl HQ.out)))))))]; rfl, HB3.out⟩
  subst hq0
  by_cases hq0 : m = 0
  rotate_left
  · have HQ := Lib.hid hq0
    go_wp2_with (refine wpList_load_mid_g (by rfl) 37 _ rfl (w.heap.size + 1) 7 rfl [.int .u8 0, .int .u8 0, .int .u8 0, .int .u8 0, .int .u8 0, .int .u8 0, .int .u8 0, .int .u8 0, .int .u8 0, .int .u8 0, .int .u8 0, .int .u8 0, .int .u8 0, .int .u8 0, .int .u8 0, .int .u8 0, .int .u8 0, .int .u8 0, .int .u8 0, .int .u8 0, .int .u8 0, .int .u8 0, .int .u8 0, .int .u8 0, .int .u8 0, .int .u8 0, .int .u8 0, .int .u8 0, .int .u8 0, .int .u8 0, .int .u8 0, .int .u8 0] _ (txl_id HZ3.out) Tryz.underlying37 rfl (by kernel_rfl) ?_)
    go_ret
    exact ⟨by rw [HV.out, if_pos (.inr (.inr (.inr (.inr (.inr (.inr (.inr (HQ.out))))))))]; rfl, HB3.out⟩
  subst hq0
  go_wp2_with (refine wpList_load_mid_g (by rfl) 37 _ rfl (w.heap.size + 1) 7 rfl [.int .u8 0, .int .u8 0, .int .u8 0, .int .u8 0, .int .u8 0, .int .u8 0, .int .u8 0, .int .u8 0, .int .u8 0, .int .u8 0, .int .u8 0, .int .u8 0, .int .u8 0, .int .u8 0, .int .u8 0, .int .u8 0, .int .u8 0, .int .u8 0, .int .u8 0, .int .u8 0, .int .u8 0, .int .u8 0, .int .u8 0, .int .u8 0, .int .u8 0, .int .u8 0, .int .u8 0, .int .u8 0, .int .u8 0, .int .u8 0, .int .u8 0, .int .u8 0] _ (txl_id HZ3.out) Tryz.underlying37 rfl (by kernel_rfl) ?_)
  go_ret
  exact ⟨by rw [HV.out, if_neg (by simp)]; rfl, HB3.out⟩
end
section
open Go.RowKit Go.Maps
attribute [-simp] Tryz.isAgg40 Tryz.typeInfo40 Tryz.isAgg37 Tryz.typeInfo37
set_option maxHeartbeats 8000000 in
set_option maxRecDepth 100000 in
theorem form_5 (w : World) (f t a n d dl : Int) (id : List UInt8) (hid : id.length = 32) (m : Int) (A : Option Addr) (nf cap : Nat) (v : Int)
    (hv : v = if nf ≠ 1 ∨ f ≠ 0 ∨ t ≠ 0 ∨ a ≠ 0 ∨ n ≠ 0 ∨ d ≠ 0 ∨ dl ≠ 0 ∨ m ≠ 0 then 1 else 0) :
    Calls Tryz.prog 29 #[.agg (txl 5 f t a n d dl id m (.slice A nf cap)).toArray] w fun e w' => e = .returned (.int .i64 v) ∧ Below w.heap.size w w' := by
  obtain ⟨cs, hcs⟩ : ∃ cs, cs = (txl 5 f t a n d dl id m (.slice A nf cap)) := ⟨_, rfl⟩
  have hl : cs.length = 41 := by rw [hcs]; exact txl_len hid
  have HI := Lib.hid (tx_size hl)
  have HZL := Lib.hid (show zTx.length = cs.length from by rw [hl]; rfl)
  have H1 := Lib.hid (show ∀ u ∈ cs, u.oneCell' = true by rw [hcs]; exact txl_one rfl)
  have hal := (Below.refl w.heap.size w).alloc (Nat.le_refl _) (.cells cs.toArray 40)
  have hx := (Blk.new w 40 cs.toArray)
  have hz := Blk.new (w.alloc (.cells cs.toArray 40)) 40 zTx.toArray
  rw [show (w.alloc (.cells cs.toArray 40)).heap.size = w.heap.size + 1 by simp] at hz
  have HX := Lib.hid hx
  have HX0 := Lib.hid (hx.alloc (.cells zTx.toArray 40))
  have HZ0 := Lib.hid hz
  have HAL := Lib.hid (hal.alloc (by simp) (.cells zTx.toArray 40))
  have HCS := Lib.hid hcs
  have HID := Lib.hid hid
  have HV := Lib.hid hv
  rw [← hcs]
  clear hal hx hz hl hid hv hcs
  go_enter Tryz.func29, Tryz.ntmps29
  go_wp2_with (first
    | (refine wpList_load_blk' rfl 40 _ rfl HX.out rfl Tryz.underlying40 rfl HI.out ?_)
    | (refine wpList_store_blk (cs0 := zTx) (cs := cs) rfl 40 _ _ rfl HZ0.out rfl rfl HZL.out HI.out H1.out ?_; intro w1 hb hc; have HZ1 := Lib.hid (show Blk w1 (w.heap.size + 1) 40 (txl 5 f t a n d dl id m (.slice A nf cap)).toArray from HCS.out ▸ hb); have HX1 := Lib.hid (HX0.out.chg hc fun h => by have h : w.heap.size = w.heap.size + 1 := h; omega); have HB1 := Lib.hid (HAL.out.trans (hc.below HAL.out.size fun b h => by have h : b = w.heap.size + 1 := h; omega)); clear hb hc)
    | (refine wpList_store_cell rfl 3 _ _ rfl HZ1.out rfl (by rw [txl_len (by first | exact HID.out | rfl)]; decide) (v := .int .i64 0) rfl rfl (by kernel_rfl) rfl ?_; intro w2 hb hc; have HZ2 := Lib.hid (show Blk w2 (w.heap.size + 1) 40 (txl 0 f t a n d dl id m (.slice A nf cap)).toArray from hb); have HX2 := Lib.hid (HX1.out.chg hc fun h => by have h : w.heap.size = w.heap.size + 1 := h; omega); have HB2 := Lib.hid (HB1.out.trans (hc.below HB1.out.size fun b h => by have h : b = w.heap.size + 1 := h; omega)); have hxk : w2.cell? ⟨w.heap.size, 0, none⟩ = some (.int .i64 5) := (by rw [HX2.out.cell, HCS.out]; rfl); clear hb hc)
    | (refine wpList_store_part (pre := [.int .i64 0, .int .u64 f, .int .u64 t, .int .u64 a, .int .u64 n, .int .i64 d, .int .i64 dl]) (old := u8s id) (vals := u8s (List.replicate 32 (0 : UInt8))) (post := [.int .i64 m, .slice A nf cap]) rfl 37 _ _ rfl HZ2.out rfl rfl (v := .agg (u8s (List.replicate 32 (0 : UInt8))).toArray) rfl rfl (by rw [u8s_length, HID.out]; rfl) (by kernel_rfl) (u8s_one _) ?_; intro w3 hb hc; have HZ3 := Lib.hid (show Blk w3 (w.heap.size + 1) 40 (txl 0 f t a n d dl (List.replicate 32 (0 : UInt8)) m (.slice A nf cap)).toArray from hb); have HX3 := Lib.hid (HX2.out.chg hc fun h => by have h : w.heap.size = w.heap.size + 1 := h; omega); have HB3 := Lib.hid (HB2.out.trans (hc.below HB2.out.size fun b h => by have h : b = w.heap.size + 1 := h; omega)); have hxk : w3.cell? ⟨w.heap.size, 0, none⟩ = some (.int .i64 5) := (by rw [HX3.out.cell, HCS.out]; rfl); clear hb hc; refine Hid.out ?_))
  refine Lib.hid ?_
  have hx0 : w3.cell? ⟨w.heap.size, 0, none⟩ = some (.int .i64 5) := by rw [HX3.out.cell, HCS.out]; rfl
  have hx40 : w3.cell? ⟨w.heap.size, 40, none⟩ = some (.slice A nf cap) := by rw [HX3.out.cell, HCS.out, getElem?_toArray]; exact txl_40 HID.out
  have hqf : w3.cell? ⟨w.heap.size + 1, 1, none⟩ = some (.int .u64 f) := by rw [HZ3.out.cell]; rfl
  have hqt : w3.cell? ⟨w.heap.size + 1, 2, none⟩ = some (.int .u64 t) := by rw [HZ3.out.cell]; rfl
  have hqa : w3.cell? ⟨w.heap.size + 1, 3, none⟩ = some (.int .u64 a) := by rw [HZ3.out.cell]; rfl
  have hqn : w3.cell? ⟨w.heap.size + 1, 4, none⟩ = some (.int .u64 n) := by rw [HZ3.out.cell]; rfl
  have hqd : w3.cell? ⟨w.heap.size + 1, 5, none⟩ = some (.int .i64 d) := by rw [HZ3.out.cell]; rfl
  have hqdl : w3.cell? ⟨w.heap.size + 1, 6, none⟩ = some (.int .i64 dl) := by rw [HZ3.out.cell]; rfl
  have hqm : w3.cell? ⟨w.heap.size + 1, 39, none⟩ = some (.int .i64 m) := by rw [HZ3.out.cell, getElem?_toArray]; exact txl_39 (by first | exact HID.out | rfl)
  have hdig : ∀ w', (Op.equalIn 10000 37 (.agg #[.int .u8 0, .int .u8 0, .int .u8 0, .int .u8 0, .int .u8 0, .int .u8 0, .int .u8 0, .int .u8 0, .int .u8 0, .int .u8 0, .int .u8 0, .int .u8 0, .int .u8 0, .int .u8 0, .int .u8 0, .int .u8 0, .int .u8 0, .int .u8 0, .int .u8 0, .int .u8 0, .int .u8 0, .int .u8 0, .int .u8 0, .int .u8 0, .int .u8 0, .int .u8 0, .int .u8 0, .int .u8 0, .int .u8 0, .int .u8 0, .int .u8 0, .int .u8 0]) (.agg #[.int .u8 0, .int .u8 0, .int .u8 0, .int .u8 0, .int .u8 0, .int .u8 0, .int .u8 0, .int .u8 0, .int .u8 0, .int .u8 0, .int .u8 0, .int .u8 0, .int .u8 0, .int .u8 0, .int .u8 0, .int .u8 0, .int .u8 0, .int .u8 0, .int .u8 0, .int .u8 0, .int .u8 0, .int .u8 0, .int .u8 0, .int .u8 0, .int .u8 0, .int .u8 0, .int .u8 0, .int .u8 0, .int .u8 0, .int .u8 0, .int .u8 0, .int .u8 0])).run Tryz.prog w' = .ok true w' := fun w' => (run_eq_dig (l := (List.replicate 32 (0 : UInt8))) (m := (List.replicate 32 (0 : UInt8))) rfl rfl).trans (by simp)
  by_cases hnf : nf = 1
  rotate_left
  · have hnI : ¬ (nf : Int) = 1 := by omega
    have HQ := Lib.hid hnf
    go_wp2_with (refine wpList_load_mid_g (by rfl) 37 _ rfl (w.heap.size + 1) 7 rfl [.int .u8 0, .int .u8 0, .int .u8 0, .int .u8 0, .int .u8 0, .int .u8 0, .int .u8 0, .int .u8 0, .int .u8 0, .int .u8 0, .int .u8 0, .int .u8 0, .int .u8 0, .int .u8 0, .int .u8 0, .int .u8 0, .int .u8 0, .int .u8 0, .int .u8 0, .int .u8 0, .int .u8 0, .int .u8 0, .int .u8 0, .int .u8 0, .int .u8 0, .int .u8 0, .int .u8 0, .int .u8 0, .int .u8 0, .int .u8 0, .int .u8 0, .int .u8 0] _ (txl_id HZ3.out) Tryz.underlying37 rfl (by kernel_rfl) ?_)
    go_ret
    exact ⟨by rw [HV.out, if_pos (.inl HQ.out)]; rfl, HB3.out⟩
  subst hnf
  by_cases hq0 : f = 0
  rotate_left
  · have HQ := Lib.hid hq0
    go_wp2_with (refine wpList_load_mid_g (by rfl) 37 _ rfl (w.heap.size + 1) 7 rfl [.int .u8 0, .int .u8 0, .int .u8 0, .int .u8 0, .int .u8 0, .int .u8 0, .int .u8 0, .int .u8 0, .int .u8 0, .int .u8 0, .int .u8 0, .int .u8 0, .int .u8 0, .int .u8 0, .int .u8 0, .int .u8 0, .int .u8 0, .int .u8 0, .int .u8 0, .int .u8 0, .int .u8 0, .int .u8 0, .int .u8 0, .int .u8 0, .int .u8 0, .int .u8 0, .int .u8 0, .int .u8 0, .int .u8 0, .int .u8 0, .int .u8 0, .int .u8 0] _ (txl_id HZ3.out) Tryz.underlying37 rfl (by kernel_rfl) ?_)
    go_ret
    exact ⟨by rw [HV.out, if_pos (.inr (.inl HQ.out))]; rfl, HB3.out⟩
  subst hq0
  by_cases hq0 : t = 0
  rotate_left
  · have HQ := Lib.hid hq0
    go_wp2_with (refine wpList_load_mid_g (by rfl) 37 _ rfl (w.heap.size + 1) 7 rfl [.int .u8 0, .int .u8 0, .int .u8 0, .int .u8 0, .int .u8 0, .int .u8 0, .int .u8 0, .int .u8 0, .int .u8 0, .int .u8 0, .int .u8 0, .int .u8 0, .int .u8 0, .int .u8 0, .int .u8 0, .int .u8 0, .int .u8 0, .int .u8 0, .int .u8 0, .int .u8 0, .int .u8 0, .int .u8 0, .int .u8 0, .int .u8 0, .int .u8 0, .int .u8 0, .int .u8 0, .int .u8 0, .int .u8 0, .int .u8 0, .int .u8 0, .int .u8 0] _ (txl_id HZ3.out) Tryz.underlying37 rfl (by kernel_rfl) ?_)
    go_ret
    exact ⟨by rw [HV.out, if_pos (.inr (.inr (.inl HQ.out)))]; rfl, HB3.out⟩
  subst hq0
  by_cases hq0 : a = 0
  rotate_left
  · have HQ := Lib.hid hq0
    go_wp2_with (refine wpList_load_mid_g (by rfl) 37 _ rfl (w.heap.size + 1) 7 rfl [.int .u8 0, .int .u8 0, .int .u8 0, .int .u8 0, .int .u8 0, .int .u8 0, .int .u8 0, .int .u8 0, .int .u8 0, .int .u8 0, .int .u8 0, .int .u8 0, .int .u8 0, .int .u8 0, .int .u8 0, .int .u8 0, .int .u8 0, .int .u8 0, .int .u8 0, .int .u8 0, .int .u8 0, .int .u8 0, .int .u8 0, .int .u8 0, .int .u8 0, .int .u8 0, .int .u8 0, .int .u8 0, .int .u8 0, .int .u8 0, .int .u8 0, .int .u8 0] _ (txl_id HZ3.out) Tryz.underlying37 rfl (by kernel_rfl) ?_)
    go_ret
    exact ⟨by rw [HV.out, if_pos (.inr (.inr (.inr (.inl HQ.out))))]; rfl, HB3.out⟩
  subst hq0
  by_cases hq0 : n = 0
  rotate_left
  · have HQ := Lib.hid hq0
    go_wp2_with (refine wpList_load_mid_g (by rfl) 37 _ rfl (w.heap.size + 1) 7 rfl [.int .u8 0, .int .u8 0, .int .u8 0, .int .u8 0, .int .u8 0, .int .u8 0, .int .u8 0, .int .u8 0, .int .u8 0, .int .u8 0, .int .u8 0, .int .u8 0, .int .u8 0, .int .u8 0, .int .u8 0, .int .u8 0, .int .u8 0, .int .u8 0, .int .u8 0, .int .u8 0, .int .u8 0, .int .u8 0, .int .u8 0, .int .u8 0, .int .u8 0, .int .u8 0, .int .u8 0, .int .u8 0, .int .u8 0, .int .u8 0, .int .u8 0, .int .u8 0] _ (txl_id HZ3.out) Tryz.underlying37 rfl (by kernel_rfl) ?_)
    go_ret
    exact ⟨by rw [HV.out, if_pos (.inr (.inr (.inr (.inr (.inl HQ.out)))))]; rfl, HB3.out⟩
  subst hq0
  by_cases hq0 : d = 0
  rotate_left
  · have HQ := Lib.hid hq0
    go_wp2_with (refine wpList_load_mid_g (by rfl) 37 _ rfl (w.heap.size + 1) 7 rfl [.int .u8 0, .int .u8 0, .int .u8 0, .int .u8 0, .int .u8 0, .int .u8 0, .int .u8 0, .int .u8 0, .int .u8 0, .int .u8 0, .int .u8 0, .int .u8 0, .int .u8 0, .int .u8 0, .int .u8 0, .int .u8 0, .int .u8 0, .int .u8 0, .int .u8 0, .int .u8 0, .int .u8 0, .int .u8 0, .int .u8 0, .int .u8 0, .int .u8 0, .int .u8 0, .int .u8 0, .int .u8 0, .int .u8 0, .int .u8 0, .int .u8 0, .int .u8 0] _ (txl_id HZ3.out) Tryz.underlying37 rfl (by kernel_rfl) ?_)
    go_ret
    exact ⟨by rw [HV.out, if_pos (.inr (.inr (.inr (.inr (.inr (.inl HQ.out))))))]; rfl, HB3.out⟩
  subst hq0
  by_cases hq0 : dl = 0
  rotate_left
  · have HQ := Lib.hid hq0
    go_wp2_with (refine wpList_load_mid_g (by rfl) 37 _ rfl (w.heap.size + 1) 7 rfl [.int .u8 0, .int .u8 0, .int .u8 0, .int .u8 0, .int .u8 0, .int .u8 0, .int .u8 0, .int .u8 0, .int .u8 0, .int .u8 0, .int .u8 0, .int .u8 0, .int .u8 0, .int .u8 0, .int .u8 0, .int .u8 0, .int .u8 0, .int .u8 0, .int .u8 0, .int .u8 0, .int .u8 0, .int .u8 0, .int .u8 0, .int .u8 0, .int .u8 0, .int .u8 0, .int .u8 0, .int .u8 0, .int .u8 0, .int .u8 0, .int .u8 0, .int .u8 0] _ (txl_id HZ3.out) Tryz.underlying37 rfl (by kernel_rfl) ?_)
    go_ret
    exact ⟨by rw [HV.out, if_pos (.inr (.inr (.inr (.inr (.inr (.inr (.inl HQ.out)))))))]; rfl, HB3.out⟩
  subst hq0
  by_cases hq0 : m = 0
  rotate_left
  · have HQ := Lib.hid hq0
    go_wp2_with (refine wpList_load_mid_g (by rfl) 37 _ rfl (w.heap.size + 1) 7 rfl [.int .u8 0, .int .u8 0, .int .u8 0, .int .u8 0, .int .u8 0, .int .u8 0, .int .u8 0, .int .u8 0, .int .u8 0, .int .u8 0, .int .u8 0, .int .u8 0, .int .u8 0, .int .u8 0, .int .u8 0, .int .u8 0, .int .u8 0, .int .u8 0, .int .u8 0, .int .u8 0, .int .u8 0, .int .u8 0, .int .u8 0, .int .u8 0, .int .u8 0, .int .u8 0, .int .u8 0, .int .u8 0, .int .u8 0, .int .u8 0, .int .u8 0, .int .u8 0] _ (txl_id HZ3.out) Tryz.underlying37 rfl (by kernel_rfl) ?_)
    go_ret
    exact ⟨by rw [HV.out, if_pos (.inr (.inr (.inr (.inr (.inr (.inr (.inr (HQ.out))))))))]; rfl, HB3.out⟩
  subst hq0
  go_wp2_with (refine wpList_load_mid_g (by rfl) 37 _ rfl (w.heap.size + 1) 7 rfl [.int .u8 0, .int .u8 0, .int .u8 0, .int .u8 0, .int .u8 0, .int .u8 0, .int .u8 0, .int .u8 0, .int .u8 0, .int .u8 0, .int .u8 0, .int .u8 0, .int .u8 0, .int .u8 0, .int .u8 0, .int .u8 0, .int .u8 0, .int .u8 0, .int .u8 0, .int .u8 0, .int .u8 0, .int .u8 0, .int .u8 0, .int .u8 0, .int .u8 0, .int .u8 0, .int .u8 0, .int .u8 0, .int .u8 0, .int .u8 0, .int .u8 0, .int .u8 0] _ (txl_id HZ3.out) Tryz.underlying37 rfl (by kernel_rfl) ?_)
  go_ret
  exact ⟨by rw [HV.out, if_neg (by simp)]; rfl, HB3.out⟩
end
section
open Go.RowKit Go.Maps
attribute [-simp] Tryz.isAgg40 Tryz.typeInfo40 Tryz.isAgg37 Tryz.typeInfo37
set_option maxHeartbeats 8000000 in
set_option maxRecDepth 100000 in
theorem form_6 (w : World) (f t a n d dl : Int) (id : List UInt8) (hid : id.length = 32) (m : Int) (A : Option Addr) (nf cap : Nat) (v : Int)
    (hv : v = if nf ≠ 1 ∨ f ≠ 0 ∨ t ≠ 0 ∨ a ≠ 0 ∨ n ≠ 0 ∨ d ≠ 0 ∨ dl ≠ 0 ∨ id ≠ (List.replicate 32 (0 : UInt8)) ∨ m ≠ 0 then 1 else 0) :
    Calls Tryz.prog 29 #[.agg (txl 6 f t a n d dl id m (.slice A nf cap)).toArray] w fun e w' => e = .returned (.int .i64 v) ∧ Below w.heap.size w w' := by
  obtain ⟨cs, hcs⟩ : ∃ cs, cs = (txl 6 f t a n d dl id m (.slice A nf cap)) := ⟨_, rfl⟩
  have hl : cs.length = 41 := by rw [hcs]; exact txl_len hid
  have HI := Lib.hid (tx_size hl)
  have HZL := Lib.hid (show zTx.length = cs.length from by rw [hl]; rfl)
  have H1 := Lib.hid (show ∀ u ∈ cs, u.oneCell' = true by rw [hcs]; exact txl_one rfl)
  have hal := (Below.refl w.heap.size w).alloc (Nat.le_refl _) (.cells cs.toArray 40)
  have hx := (Blk.new w 40 cs.toArray)
  have hz := Blk.new (w.alloc (.cells cs.toArray 40)) 40 zTx.toArray
  rw [show (w.alloc (.cells cs.toArray 40)).heap.size = w.heap.size + 1 by simp] at hz
  have HX := Lib.hid hx
  have HX0 := Lib.hid (hx.alloc (.cells zTx.toArray 40))
  have HZ0 := Lib.hid hz
  have HAL := Lib.hid (hal.alloc (by simp) (.cells zTx.toArray 40))
  have HCS := Lib.hid hcs
  have HID := Lib.hid hid
  have HV := Lib.hid hv
  rw [← hcs]
  clear hal hx hz hl hid hv hcs
  go_enter Tryz.func29, Tryz.ntmps29
  go_wp2_with (first
    | (refine wpList_load_blk' rfl 40 _ rfl HX.out rfl Tryz.underlying40 rfl HI.out ?_)
    | (refine wpList_store_blk (cs0 := zTx) (cs := cs) rfl 40 _ _ rfl HZ0.out rfl rfl HZL.out HI.out H1.out ?_; intro w1 hb hc; have HZ1 := Lib.hid (show Blk w1 (w.heap.size + 1) 40 (txl 6 f t a n d dl id m (.slice A nf cap)).toArray from HCS.out ▸ hb); have HX1 := Lib.hid (HX0.out.chg hc fun h => by have h : w.heap.size = w.heap.size + 1 := h; omega); have HB1 := Lib.hid (HAL.out.trans (hc.below HAL.out.size fun b h => by have h : b = w.heap.size + 1 := h; omega)); clear hb hc)
    | (refine wpList_store_cell rfl 3 _ _ rfl HZ1.out rfl (by rw [txl_len (by first | exact HID.out | rfl)]; decide) (v := .int .i64 0) rfl rfl (by kernel_rfl) rfl ?_; intro w2 hb hc; have HZ2 := Lib.hid (show Blk w2 (w.heap.size + 1) 40 (txl 0 f t a n d dl id m (.slice A nf cap)).toArray from hb); have HX2 := Lib.hid (HX1.out.chg hc fun h => by have h : w.heap.size = w.heap.size + 1 := h; omega); have HB2 := Lib.hid (HB1.out.trans (hc.below HB1.out.size fun b h => by have h : b = w.heap.size + 1 := h; omega)); have hxk : w2.cell? ⟨w.heap.size, 0, none⟩ = some (.int .i64 6) := (by rw [HX2.out.cell, HCS.out]; rfl); clear hb hc; refine Hid.out ?_))
  refine Lib.hid ?_
  have hx0 : w2.cell? ⟨w.heap.size, 0, none⟩ = some (.int .i64 6) := by rw [HX2.out.cell, HCS.out]; rfl
  have hx40 : w2.cell? ⟨w.heap.size, 40, none⟩ = some (.slice A nf cap) := by rw [HX2.out.cell, HCS.out, getElem?_toArray]; exact txl_40 HID.out
  have hqf : w2.cell? ⟨w.heap.size + 1, 1, none⟩ = some (.int .u64 f) := by rw [HZ2.out.cell]; rfl
  have hqt : w2.cell? ⟨w.heap.size + 1, 2, none⟩ = some (.int .u64 t) := by rw [HZ2.out.cell]; rfl
  have hqa : w2.cell? ⟨w.heap.size + 1, 3, none⟩ = some (.int .u64 a) := by rw [HZ2.out.cell]; rfl
  have hqn : w2.cell? ⟨w.heap.size + 1, 4, none⟩ = some (.int .u64 n) := by rw [HZ2.out.cell]; rfl
  have hqd : w2.cell? ⟨w.heap.size + 1, 5, none⟩ = some (.int .i64 d) := by rw [HZ2.out.cell]; rfl
  have hqdl : w2.cell? ⟨w.heap.size + 1, 6, none⟩ = some (.int .i64 dl) := by rw [HZ2.out.cell]; rfl
  have hqm : w2.cell? ⟨w.heap.size + 1, 39, none⟩ = some (.int .i64 m) := by rw [HZ2.out.cell, getElem?_toArray]; exact txl_39 (by first | exact HID.out | rfl)
  have hdig : ∀ w', (Op.equalIn 10000 37 (.agg (u8s id).toArray) (.agg #[.int .u8 0, .int .u8 0, .int .u8 0, .int .u8 0, .int .u8 0, .int .u8 0, .int .u8 0, .int .u8 0, .int .u8 0, .int .u8 0, .int .u8 0, .int .u8 0, .int .u8 0, .int .u8 0, .int .u8 0, .int .u8 0, .int .u8 0, .int .u8 0, .int .u8 0, .int .u8 0, .int .u8 0, .int .u8 0, .int .u8 0, .int .u8 0, .int .u8 0, .int .u8 0, .int .u8 0, .int .u8 0, .int .u8 0, .int .u8 0, .int .u8 0, .int .u8 0])).run Tryz.prog w' = .ok (decide (id = (List.replicate 32 (0 : UInt8)))) w' := fun w' => run_eq_dig HID.out (m := (List.replicate 32 (0 : UInt8))) rfl
  by_cases hnf : nf = 1
  rotate_left
  · have hnI : ¬ (nf : Int) = 1 := by omega
    have HQ := Lib.hid hnf
    go_wp2_with (refine wpList_load_mid_g (by rfl) 37 _ rfl (w.heap.size + 1) 7 rfl (u8s id) _ (txl_id HZ2.out) Tryz.underlying37 rfl (by rw [u8s_length, HID.out]; kernel_rfl) ?_)
    go_ret
    exact ⟨by rw [HV.out, if_pos (.inl HQ.out)]; rfl, HB2.out⟩
  subst hnf
  by_cases hq0 : f = 0
  rotate_left
  · have HQ := Lib.hid hq0
    go_wp2_with (refine wpList_load_mid_g (by rfl) 37 _ rfl (w.heap.size + 1) 7 rfl (u8s id) _ (txl_id HZ2.out) Tryz.underlying37 rfl (by rw [u8s_length, HID.out]; kernel_rfl) ?_)
    go_ret
    exact ⟨by rw [HV.out, if_pos (.inr (.inl HQ.out))]; rfl, HB2.out⟩
  subst hq0
  by_cases hq0 : t = 0
  rotate_left
  · have HQ := Lib.hid hq0
    go_wp2_with (refine wpList_load_mid_g (by rfl) 37 _ rfl (w.heap.size + 1) 7 rfl (u8s id) _ (txl_id HZ2.out) Tryz.underlying37 rfl (by rw [u8s_length, HID.out]; kernel_rfl) ?_)
    go_ret
    exact ⟨by rw [HV.out, if_pos (.inr (.inr (.inl HQ.out)))]; rfl, HB2.out⟩
  subst hq0
  by_cases hq0 : a = 0
  rotate_left
  · have HQ := Lib.hid hq0
    go_wp2_with (refine wpList_load_mid_g (by rfl) 37 _ rfl (w.heap.size + 1) 7 rfl (u8s id) _ (txl_id HZ2.out) Tryz.underlying37 rfl (by rw [u8s_length, HID.out]; kernel_rfl) ?_)
    go_ret
    exact ⟨by rw [HV.out, if_pos (.inr (.inr (.inr (.inl HQ.out))))]; rfl, HB2.out⟩
  subst hq0
  by_cases hq0 : n = 0
  rotate_left
  · have HQ := Lib.hid hq0
    go_wp2_with (refine wpList_load_mid_g (by rfl) 37 _ rfl (w.heap.size + 1) 7 rfl (u8s id) _ (txl_id HZ2.out) Tryz.underlying37 rfl (by rw [u8s_length, HID.out]; kernel_rfl) ?_)
    go_ret
    exact ⟨by rw [HV.out, if_pos (.inr (.inr (.inr (.inr (.inl HQ.out)))))]; rfl, HB2.out⟩
  subst hq0
  by_cases hq0 : d = 0
  rotate_left
  · have HQ := Lib.hid hq0
    go_wp2_with (refine wpList_load_mid_g (by rfl) 37 _ rfl (w.heap.size + 1) 7 rfl (u8s id) _ (txl_id HZ2.out) Tryz.underlying37 rfl (by rw [u8s_length, HID.out]; kernel_rfl) ?_)
    go_ret
    exact ⟨by rw [HV.out, if_pos (.inr (.inr (.inr (.inr (.inr (.inl HQ.out))))))]; rfl, HB2.out⟩
  subst hq0
  by_cases hq0 : dl = 0
  rotate_left
  · have HQ := Lib.hid hq0
    go_wp2_with (refine wpList_load_mid_g (by rfl) 37 _ rfl (w.heap.size + 1) 7 rfl (u8s id) _ (txl_id HZ2.out) Tryz.underlying37 rfl (by rw [u8s_length, HID.out]; kernel_rfl) ?_)
    go_ret
    exact ⟨by rw [HV.out, if_pos (.inr (.inr (.inr (.inr (.inr (.inr (.inl HQ.out)))))))]; rfl, HB2.out⟩
  subst hq0
  by_cases hid0 : id = (List.replicate 32 (0 : UInt8))
  rotate_left
  · have hde : decide (id = (List.replicate 32 (0 : UInt8))) = false := decide_eq_false hid0
    have HQ := Lib.hid hid0
    go_wp2_with (refine wpList_load_mid_g (by rfl) 37 _ rfl (w.heap.size + 1) 7 rfl (u8s id) _ (txl_id HZ2.out) Tryz.underlying37 rfl (by rw [u8s_length, HID.out]; kernel_rfl) ?_)
    go_ret
    exact ⟨by rw [HV.out, if_pos (.inr (.inr (.inr (.inr (.inr (.inr (.inr (.inl HQ.out))))))))]; rfl, HB2.out⟩
  have hde : decide (id = (List.replicate 32 (0 : UInt8))) = true := decide_eq_true hid0
  have HE := Lib.hid hid0
  clear hid0
  by_cases hq0 : m = 0
  rotate_left
  · have HQ := Lib.hid hq0
    go_wp2_with (refine wpList_load_mid_g (by rfl) 37 _ rfl (w.heap.size + 1) 7 rfl (u8s id) _ (txl_id HZ2.out) Tryz.underlying37 rfl (by rw [u8s_length, HID.out]; kernel_rfl) ?_)
    go_ret
    exact ⟨by rw [HV.out, if_pos (.inr (.inr (.inr (.inr (.inr (.inr (.inr (.inr (HQ.out)))))))))]; rfl, HB2.out⟩
  subst hq0
  go_wp2_with (refine wpList_load_mid_g (by rfl) 37 _ rfl (w.heap.size + 1) 7 rfl (u8s id) _ (txl_id HZ2.out) Tryz.underlying37 rfl (by rw [u8s_length, HID.out]; kernel_rfl) ?_)
  go_ret
  exact ⟨by rw [HV.out, if_neg (by simp [HE.out])]; rfl, HB2.out⟩
end
section
open Go.RowKit Go.Maps
attribute [-simp] Tryz.isAgg40 Tryz.typeInfo40 Tryz.isAgg37 Tryz.typeInfo37
set_option maxHeartbeats 8000000 in
set_option maxRecDepth 100000 in
theorem form_7 (w : World) (f t a n d dl : Int) (id : List UInt8) (hid : id.length = 32) (m : Int) (A : Option Addr) (nf cap : Nat) (v : Int)
    (hv : v = if nf ≠ 0 ∨ f ≠ 0 ∨ t ≠ 0 ∨ a ≠ 0 ∨ n ≠ 0 ∨ d ≠ 0 ∨ dl ≠ 0 ∨ id ≠ (List.replicate 32 (0 : UInt8)) then 1 else 0) :
    Calls Tryz.prog 29 #[.agg (txl 7 f t a n d dl id m (.slice A nf cap)).toArray] w fun e w' => e = .returned (.int .i64 v) ∧ Below w.heap.size w w' := by
  obtain ⟨cs, hcs⟩ : ∃ cs, cs = (txl 7 f t a n d dl id m (.slice A nf cap)) := ⟨_, rfl⟩
  have hl : cs.length = 41 := by rw [hcs]; exact txl_len hid
  have HI := Lib.hid (tx_size hl)
  have HZL := Lib.hid (show zTx.length = cs.length from by rw [hl]; rfl)
  have H1 := Lib.hid (show ∀ u ∈ cs, u.oneCell' = true by rw [hcs]; exact txl_one rfl)
  have hal := (Below.refl w.heap.size w).alloc (Nat.le_refl _) (.cells cs.toArray 40)
  have hx := (Blk.new w 40 cs.toArray)
  have hz := Blk.new (w.alloc (.cells cs.toArray 40)) 40 zTx.toArray
  rw [show (w.alloc (.cells cs.toArray 40)).heap.size = w.heap.size + 1 by simp] at hz
  have HX := Lib.hid hx
  have HX0 := Lib.hid (hx.alloc (.cells zTx.toArray 40))
  have HZ0 := Lib.hid hz
  have HAL := Lib.hid (hal.alloc (by simp) (.cells zTx.toArray 40))
  have HCS := Lib.hid hcs
  have HID := Lib.hid hid
  have HV := Lib.hid hv
  rw [← hcs]
  clear hal hx hz hl hid hv hcs
  go_enter Tryz.func29, Tryz.ntmps29
  go_wp2_with (first
    | (refine wpList_load_blk' rfl 40 _ rfl HX.out rfl Tryz.underlying40 rfl HI.out ?_)
    | (refine wpList_store_blk (cs0 := zTx) (cs := cs) rfl 40 _ _ rfl HZ0.out rfl rfl HZL.out HI.out H1.out ?_; intro w1 hb hc; have HZ1 := Lib.hid (show Blk w1 (w.heap.size + 1) 40 (txl 7 f t a n d dl id m (.slice A nf cap)).toArray from HCS.out ▸ hb); have HX1 := Lib.hid (HX0.out.chg hc fun h => by have h : w.heap.size = w.heap.size + 1 := h; omega); have HB1 := Lib.hid (HAL.out.trans (hc.below HAL.out.size fun b h => by have h : b = w.heap.size + 1 := h; omega)); clear hb hc)
    | (refine wpList_store_cell rfl 3 _ _ rfl HZ1.out rfl (by rw [txl_len (by first | exact HID.out | rfl)]; decide) (v := .int .i64 0) rfl rfl (by kernel_rfl) rfl ?_; intro w2 hb hc; have HZ2 := Lib.hid (show Blk w2 (w.heap.size + 1) 40 (txl 0 f t a n d dl id m (.slice A nf cap)).toArray from hb); have HX2 := Lib.hid (HX1.out.chg hc fun h => by have h : w.heap.size = w.heap.size + 1 := h; omega); have HB2 := Lib.hid (HB1.out.trans (hc.below HB1.out.size fun b h => by have h : b = w.heap.size + 1 := h; omega)); have hxk : w2.cell? ⟨w.heap.size, 0, none⟩ = some (.int .i64 7) := (by rw [HX2.out.cell, HCS.out]; rfl); clear hb hc)
    | (refine wpList_store_cell rfl 3 _ _ rfl HZ2.out rfl (by rw [txl_len (by first | exact HID.out | rfl)]; decide) (v := .int .i64 0) rfl rfl (by kernel_rfl) rfl ?_; intro w3 hb hc; have HZ3 := Lib.hid (show Blk w3 (w.heap.size + 1) 40 (txl 0 f t a n d dl id 0 (.slice A nf cap)).toArray from (txl_set39 HID.out ▸ hb)); have HX3 := Lib.hid (HX2.out.chg hc fun h => by have h : w.heap.size = w.heap.size + 1 := h; omega); have HB3 := Lib.hid (HB2.out.trans (hc.below HB2.out.size fun b h => by have h : b = w.heap.size + 1 := h; omega)); have hxk : w3.cell? ⟨w.heap.size, 0, none⟩ = some (.int .i64 7) := (by rw [HX3.out.cell, HCS.out]; rfl); clear hb hc; refine Hid.out ?_))
  refine Lib.hid ?_
  have hx0 : w3.cell? ⟨w.heap.size, 0, none⟩ = some (.int .i64 7) := by rw [HX3.out.cell, HCS.out]; rfl
  have hx40 : w3.cell? ⟨w.heap.size, 40, none⟩ = some (.slice A nf cap) := by rw [HX3.out.cell, HCS.out, getElem?_toArray]; exact txl_40 HID.out
  have hqf : w3.cell? ⟨w.heap.size + 1, 1, none⟩ = some (.int .u64 f) := by rw [HZ3.out.cell]; rfl
  have hqt : w3.cell? ⟨w.heap.size + 1, 2, none⟩ = some (.int .u64 t) := by rw [HZ3.out.cell]; rfl
  have hqa : w3.cell? ⟨w.heap.size + 1, 3, none⟩ = some (.int .u64 a) := by rw [HZ3.out.cell]; rfl
  have hqn : w3.cell? ⟨w.heap.size + 1, 4, none⟩ = some (.int .u64 n) := by rw [HZ3.out.cell]; rfl
  have hqd : w3.cell? ⟨w.heap.size + 1, 5, none⟩ = some (.int .i64 d) := by rw [HZ3.out.cell]; rfl
  have hqdl : w3.cell? ⟨w.heap.size + 1, 6, none⟩ = some (.int .i64 dl) := by rw [HZ3.out.cell]; rfl
  have hqm : w3.cell? ⟨w.heap.size + 1, 39, none⟩ = some (.int .i64 0) := by rw [HZ3.out.cell, getElem?_toArray]; exact txl_39 (by first | exact HID.out | rfl)
  have hdig : ∀ w', (Op.equalIn 10000 37 (.agg (u8s id).toArray) (.agg #[.int .u8 0, .int .u8 0, .int .u8 0, .int .u8 0, .int .u8 0, .int .u8 0, .int .u8 0, .int .u8 0, .int .u8 0, .int .u8 0, .int .u8 0, .int .u8 0, .int .u8 0, .int .u8 0, .int .u8 0, .int .u8 0, .int .u8 0, .int .u8 0, .int .u8 0, .int .u8 0, .int .u8 0, .int .u8 0, .int .u8 0, .int .u8 0, .int .u8 0, .int .u8 0, .int .u8 0, .int .u8 0, .int .u8 0, .int .u8 0, .int .u8 0, .int .u8 0])).run Tryz.prog w' = .ok (decide (id = (List.replicate 32 (0 : UInt8)))) w' := fun w' => run_eq_dig HID.out (m := (List.replicate 32 (0 : UInt8))) rfl
  by_cases hnf : nf = 0
  rotate_left
  · have hnI : ¬ (nf : Int) = 0 := by omega
    have HQ := Lib.hid hnf
    go_wp2_with (refine wpList_load_mid_g (by rfl) 37 _ rfl (w.heap.size + 1) 7 rfl (u8s id) _ (txl_id HZ3.out) Tryz.underlying37 rfl (by rw [u8s_length, HID.out]; kernel_rfl) ?_)
    go_ret
    exact ⟨by rw [HV.out, if_pos (.inl HQ.out)]; rfl, HB3.out⟩
  subst hnf
  by_cases hq0 : f = 0
  rotate_left
  · have HQ := Lib.hid hq0
    go_wp2_with (refine wpList_load_mid_g (by rfl) 37 _ rfl (w.heap.size + 1) 7 rfl (u8s id) _ (txl_id HZ3.out) Tryz.underlying37 rfl (by rw [u8s_length, HID.out]; kernel_rfl) ?_)
    go_ret
    exact ⟨by rw [HV.out, if_pos (.inr (.inl HQ.out))]; rfl, HB3.out⟩
  subst hq0
  by_cases hq0 : t = 0
  rotate_left
  · have HQ := Lib.hid hq0
    go_wp2_with (refine wpList_load_mid_g (by rfl) 37 _ rfl (w.heap.size + 1) 7 rfl (u8s id) _ (txl_id HZ3.out) Tryz.underlying37 rfl (by rw [u8s_length, HID.out]; kernel_rfl) ?_)
    go_ret
    exact ⟨by rw [HV.out, if_pos (.inr (.inr (.inl HQ.out)))]; rfl, HB3.out⟩
  subst hq0
  by_cases hq0 : a = 0
  rotate_left
  · have HQ := Lib.hid hq0
    go_wp2_with (refine wpList_load_mid_g (by rfl) 37 _ rfl (w.heap.size + 1) 7 rfl (u8s id) _ (txl_id HZ3.out) Tryz.underlying37 rfl (by rw [u8s_length, HID.out]; kernel_rfl) ?_)
    go_ret
    exact ⟨by rw [HV.out, if_pos (.inr (.inr (.inr (.inl HQ.out))))]; rfl, HB3.out⟩
  subst hq0
  by_cases hq0 : n = 0
  rotate_left
  · have HQ := Lib.hid hq0
    go_wp2_with (refine wpList_load_mid_g (by rfl) 37 _ rfl (w.heap.size + 1) 7 rfl (u8s id) _ (txl_id HZ3.out) Tryz.underlying37 rfl (by rw [u8s_length, HID.out]; kernel_rfl) ?_)
    go_ret
    exact ⟨by rw [HV.out, if_pos (.inr (.inr (.inr (.inr (.inl HQ.out)))))]; rfl, HB3.out⟩
  subst hq0
  by_cases hq0 : d = 0
  rotate_left
  · have HQ := Lib.hid hq0
    go_wp2_with (refine wpList_load_mid_g (by rfl) 37 _ rfl (w.heap.size + 1) 7 rfl (u8s id) _ (txl_id HZ3.out) Tryz.underlying37 rfl (by rw [u8s_length, HID.out]; kernel_rfl) ?_)
    go_ret
    exact ⟨by rw [HV.out, if_pos (.inr (.inr (.inr (.inr (.inr (.inl HQ.out))))))]; rfl, HB3.out⟩
  subst hq0
  by_cases hq0 : dl = 0
  rotate_left
  · have HQ := Lib.hid hq0
    go_wp2_with (refine wpList_load_mid_g (by rfl) 37 _ rfl (w.heap.size + 1) 7 rfl (u8s id) _ (txl_id HZ3.out) Tryz.underlying37 rfl (by rw [u8s_length, HID.out]; kernel_rfl) ?_)
    go_ret
    exact ⟨by rw [HV.out, if_pos (.inr (.inr (.inr (.inr (.inr (.inr (.inl HQ.out)))))))]; rfl, HB3.out⟩
  subst hq0
  by_cases hid0 : id = (List.replicate 32 (0 : UInt8))
  rotate_left
  · have hde : decide (id = (List.replicate 32 (0 : UInt8))) = false := decide_eq_false hid0
    have HQ := Lib.hid hid0
    go_wp2_with (refine wpList_load_mid_g (by rfl) 37 _ rfl (w.heap.size + 1) 7 rfl (u8s id) _ (txl_id HZ3.out) Tryz.underlying37 rfl (by rw [u8s_length, HID.out]; kernel_rfl) ?_)
    go_ret
    exact ⟨by rw [HV.out, if_pos (.inr (.inr (.inr (.inr (.inr (.inr (.inr (HQ.out))))))))]; rfl, HB3.out⟩
  have hde : decide (id = (List.replicate 32 (0 : UInt8))) = true := decide_eq_true hid0
  have HE := Lib.hid hid0
  clear hid0
  go_wp2_with (refine wpList_load_mid_g (by rfl) 37 _ rfl (w.heap.size + 1) 7 rfl (u8s id) _ (txl_id HZ3.out) Tryz.underlying37 rfl (by rw [u8s_length, HID.out]; kernel_rfl) ?_)
  go_ret
  exact ⟨by rw [HV.out, if_neg (by simp [HE.out])]; rfl, HB3.out⟩
end
section
open Go.RowKit Go.Maps
attribute [-simp] Tryz.isAgg40 Tryz.typeInfo40 Tryz.isAgg37 Tryz.typeInfo37
set_option maxHeartbeats 8000000 in
set_option maxRecDepth 100000 in
theorem form_8 (w : World) (f t a n d dl : Int) (id : List UInt8) (hid : id.length = 32) (m : Int) (A : Option Addr) (nf cap : Nat) (v : Int)
    (hv : v = if nf ≠ 0 ∨ f ≠ 0 ∨ t ≠ 0 ∨ a ≠ 0 ∨ n ≠ 0 ∨ d ≠ 0 ∨ dl ≠ 0 ∨ id ≠ (List.replicate 32 (0 : UInt8)) then 1 else 0) :
    Calls Tryz.prog 29 #[.agg (txl 8 f t a n d dl id m (.slice A nf cap)).toArray] w fun e w' => e = .returned (.int .i64 v) ∧ Below w.heap.size w w' := by
  obtain ⟨cs, hcs⟩ : ∃ cs, cs = (txl 8 f t a n d dl id m (.slice A nf cap)) := ⟨_, rfl⟩
  have hl : cs.length = 41 := by rw [hcs]; exact txl_len hid
  have HI := Lib.hid (tx_size hl)
  have HZL := Lib.hid (show zTx.length = cs.length from by rw [hl]; rfl)
  have H1 := Lib.hid (show ∀ u ∈ cs, u.oneCell' = true by rw [hcs]; exact txl_one rfl)
  have hal := (Below.refl w.heap.size w).alloc (Nat.le_refl _) (.cells cs.toArray 40)
  have hx := (Blk.new w 40 cs.toArray)
  have hz := Blk.new (w.alloc (.cells cs.toArray 40)) 40 zTx.toArray
  rw [show (w.alloc (.cells cs.toArray 40)).heap.size = w.heap.size + 1 by simp] at hz
  have HX := Lib.hid hx
  have HX0 := Lib.hid (hx.alloc (.cells zTx.toArray 40))
  have HZ0 := Lib.hid hz
  have HAL := Lib.hid (hal.alloc (by simp) (.cells zTx.toArray 40))
  have HCS := Lib.hid hcs
  have HID := Lib.hid hid
  have HV := Lib.hid hv
  rw [← hcs]
  clear hal hx hz hl hid hv hcs
  go_enter Tryz.func29, Tryz.ntmps29
  go_wp2_with (first
    | (refine wpList_load_blk' rfl 40 _ rfl HX.out rfl Tryz.underlying40 rfl HI.out ?_)
    | (refine wpList_store_blk (cs0 := zTx) (cs := cs) rfl 40 _ _ rfl HZ0.out rfl rfl HZL.out HI.out H1.out ?_; intro w1 hb hc; have HZ1 := Lib.hid (show Blk w1 (w.heap.size + 1) 40 (txl 8 f t a n d dl id m (.slice A nf cap)).toArray from HCS.out ▸ hb); have HX1 := Lib.hid (HX0.out.chg hc fun h => by have h : w.heap.size = w.heap.size + 1 := h; omega); have HB1 := Lib.hid (HAL.out.trans (hc.below HAL.out.size fun b h => by have h : b = w.heap.size + 1 := h; omega)); clear hb hc)
    | (refine wpList_store_cell rfl 3 _ _ rfl HZ1.out rfl (by rw [txl_len (by first | exact HID.out | rfl)]; decide) (v := .int .i64 0) rfl rfl (by kernel_rfl) rfl ?_; intro w2 hb hc; have HZ2 := Lib.hid (show Blk w2 (w.heap.size + 1) 40 (txl 0 f t a n d dl id m (.slice A nf cap)).toArray from hb); have HX2 := Lib.hid (HX1.out.chg hc fun h => by have h : w.heap.size = w.heap.size + 1 := h; omega); have HB2 := Lib.hid (HB1.out.trans (hc.below HB1.out.size fun b h => by have h : b = w.heap.size + 1 := h; omega)); have hxk : w2.cell? ⟨w.heap.size, 0, none⟩ = some (.int .i64 8) := (by rw [HX2.out.cell, HCS.out]; rfl); clear hb hc)
    | (refine wpList_store_cell rfl 3 _ _ rfl HZ2.out rfl (by rw [txl_len (by first | exact HID.out | rfl)]; decide) (v := .int .i64 0) rfl rfl (by kernel_rfl) rfl ?_; intro w3 hb hc; have HZ3 := Lib.hid (show Blk w3 (w.heap.size + 1) 40 (txl 0 f t a n d dl id 0 (.slice A nf cap)).toArray from (txl_set39 HID.out ▸ hb)); have HX3 := Lib.hid (HX2.out.chg hc fun h => by have h : w.heap.size = w.heap.size + 1 := h; omega); have HB3 := Lib.hid (HB2.out.trans (hc.below HB2.out.size fun b h => by have h : b = w.heap.size + 1 := h; omega)); have hxk : w3.cell? ⟨w.heap.size, 0, none⟩ = some (.int .i64 8) := (by rw [HX3.out.cell, HCS.out]; rfl); clear hb hc; refine Hid.out ?_))
  refine Lib.hid ?_
  have hx0 : w3.cell? ⟨w.heap.size, 0, none⟩ = some (.int .i64 8) := by rw [HX3.out.cell, HCS.out]; rfl
  have hx40 : w3.cell? ⟨w.heap.size, 40, none⟩ = some (.slice A nf cap) := by rw [HX3.out.cell, HCS.out, getElem?_toArray]; exact txl_40 HID.out
  have hqf : w3.cell? ⟨w.heap.size + 1, 1, none⟩ = some (.int .u64 f) := by rw [HZ3.out.cell]; rfl
  have hqt : w3.cell? ⟨w.heap.size + 1, 2, none⟩ = some (.int .u64 t) := by rw [HZ3.out.cell]; rfl
  have hqa : w3.cell? ⟨w.heap.size + 1, 3, none⟩ = some (.int .u64 a) := by rw [HZ3.out.cell]; rfl
  have hqn : w3.cell? ⟨w.heap.size + 1, 4, none⟩ = some (.int .u64 n) := by rw [HZ3.out.cell]; rfl
  have hqd : w3.cell? ⟨w.heap.size + 1, 5, none⟩ = some (.int .i64 d) := by rw [HZ3.out.cell]; rfl
  have hqdl : w3.cell? ⟨w.heap.size + 1, 6, none⟩ = some (.int .i64 dl) := by rw [HZ3.out.cell]; rfl
  have hqm : w3.cell? ⟨w.heap.size + 1, 39, none⟩ = some (.int .i64 0) := by rw [HZ3.out.cell, getElem?_toArray]; exact txl_39 (by first | exact HID.out | rfl)
  have hdig : ∀ w', (Op.equalIn 10000 37 (.agg (u8s id).toArray) (.agg #[.int .u8 0, .int .u8 0, .int .u8 0, .int .u8 0, .int .u8 0, .int .u8 0, .int .u8 0, .int .u8 0, .int .u8 0, .int .u8 0, .int .u8 0, .int .u8 0, .int .u8 0, .int .u8 0, .int .u8 0, .int .u8 0, .int .u8 0, .int .u8 0, .int .u8 0, .int .u8 0, .int .u8 0, .int .u8 0, .int .u8 0, .int .u8 0, .int .u8 0, .int .u8 0, .int .u8 0, .int .u8 0, .int .u8 0, .int .u8 0, .int .u8 0, .int .u8 0])).run Tryz.prog w' = .ok (decide (id = (List.replicate 32 (0 : UInt8)))) w' := fun w' => run_eq_dig HID.out (m := (List.replicate 32 (0 : UInt8))) rfl
  by_cases hnf : nf = 0
  rotate_left
  · have hnI : ¬ (nf : Int) = 0 := by omega
    have HQ := Lib.hid hnf
    go_wp2_with (refine wpList_load_mid_g (by rfl) 37 _ rfl (w.heap.size + 1) 7 rfl (u8s id) _ (txl_id HZ3.out) Tryz.underlying37 rfl (by rw [u8s_length, HID.out]; kernel_rfl) ?_)
    go_ret
    exact ⟨by rw [HV.out, if_pos (.inl HQ.out)]; rfl, HB3.out⟩
  subst hnf
  by_cases hq0 : f = 0
  rotate_left
  · have HQ := Lib.hid hq0
    go_wp2_with (refine wpList_load_mid_g (by rfl) 37 _ rfl (w.heap.size + 1) 7 rfl (u8s id) _ (txl_id HZ3.out) Tryz.underlying37 rfl (by rw [u8s_length, HID.out]; kernel_rfl) ?_)
    go_ret
    exact ⟨by rw [HV.out, if_pos (.inr (.inl HQ.out))]; rfl, HB3.out⟩
  subst hq0
  by_cases hq0 : t = 0
  rotate_left
  · have HQ := Lib.hid hq0
    go_wp2_with (refine wpList_load_mid_g (by rfl) 37 _ rfl (w.heap.size + 1) 7 rfl (u8s id) _ (txl_id HZ3.out) Tryz.underlying37 rfl (by rw [u8s_length, HID.out]; kernel_rfl) ?_)
    go_ret
    exact ⟨by rw [HV.out, if_pos (.inr (.inr (.inl HQ.out)))]; rfl, HB3.out⟩
  subst hq0
  by_cases hq0 : a = 0
  rotate_left
  · have HQ := Lib.hid hq0
    go_wp2_with (refine wpList_load_mid_g (by rfl) 37 _ rfl (w.heap.size + 1) 7 rfl (u8s id) _ (txl_id HZ3.out) Tryz.underlying37 rfl (by rw [u8s_length, HID.out]; kernel_rfl) ?_)
    go_ret
    exact ⟨by rw [HV.out, if_pos (.inr (.inr (.inr (.inl HQ.out))))]; rfl, HB3.out⟩
  subst hq0
  by_cases hq0 : n = 0
  rotate_left
  · have HQ := Lib.hid hq0
    go_wp2_with (refine wpList_load_mid_g (by rfl) 37 _ rfl (w.heap.size + 1) 7 rfl (u8s id) _ (txl_id HZ3.out) Tryz.underlying37 rfl (by rw [u8s_length, HID.out]; kernel_rfl) ?_)
    go_ret
    exact ⟨by rw [HV.out, if_pos (.inr (.inr (.inr (.inr (.inl HQ.out)))))]; rfl, HB3.out⟩
  subst hq0
  by_cases hq0 : d = 0
  rotate_left
  · have HQ := Lib.hid hq0
    go_wp2_with (refine wpList_load_mid_g (by rfl) 37 _ rfl (w.heap.size + 1) 7 rfl (u8s id) _ (txl_id HZ3.out) Tryz.underlying37 rfl (by rw [u8s_length, HID.out]; kernel_rfl) ?_)
    go_ret
    exact ⟨by rw [HV.out, if_pos (.inr (.inr (.inr (.inr (.inr (.inl HQ.out))))))]; rfl, HB3.out⟩
  subst hq0
  by_cases hq0 : dl = 0
  rotate_left
  · have HQ := Lib.hid hq0
    go_wp2_with (refine wpList_load_mid_g (by rfl) 37 _ rfl (w.heap.size + 1) 7 rfl (u8s id) _ (txl_id HZ3.out) Tryz.underlying37 rfl (by rw [u8s_length, HID.out]; kernel_rfl) ?_)
    go_ret
    exact ⟨by rw [HV.out, if_pos (.inr (.inr (.inr (.inr (.inr (.inr (.inl HQ.out)))))))]; rfl, HB3.out⟩
  subst hq0
  by_cases hid0 : id = (List.replicate 32 (0 : UInt8))
  rotate_left
  · have hde : decide (id = (List.replicate 32 (0 : UInt8))) = false := decide_eq_false hid0
    have HQ := Lib.hid hid0
    go_wp2_with (refine wpList_load_mid_g (by rfl) 37 _ rfl (w.heap.size + 1) 7 rfl (u8s id) _ (txl_id HZ3.out) Tryz.underlying37 rfl (by rw [u8s_length, HID.out]; kernel_rfl) ?_)
    go_ret
    exact ⟨by rw [HV.out, if_pos (.inr (.inr (.inr (.inr (.inr (.inr (.inr (HQ.out))))))))]; rfl, HB3.out⟩
  have hde : decide (id = (List.replicate 32 (0 : UInt8))) = true := decide_eq_true hid0
  have HE := Lib.hid hid0
  clear hid0
  go_wp2_with (refine wpList_load_mid_g (by rfl) 37 _ rfl (w.heap.size + 1) 7 rfl (u8s id) _ (txl_id HZ3.out) Tryz.underlying37 rfl (by rw [u8s_length, HID.out]; kernel_rfl) ?_)
  go_ret
  exact ⟨by rw [HV.out, if_neg (by simp [HE.out])]; rfl, HB3.out⟩
end
section
open Go.RowKit Go.Maps
attribute [-simp] Tryz.isAgg40 Tryz.typeInfo40 Tryz.isAgg37 Tryz.typeInfo37
set_option maxHeartbeats 8000000 in
set_option maxRecDepth 100000 in
theorem form_else (w : World) (k f t a n d dl : Int) (id : List UInt8) (hid : id.length = 32) (m : Int) (A : Option Addr) (nf cap : Nat) (hk : k < 1 ∨ 8 < k) :
    Calls Tryz.prog 29 #[.agg (txl k f t a n d dl id m (.slice A nf cap)).toArray] w fun e w' => e = .returned (.int .i64 20) ∧ Below w.heap.size w w' := by
  obtain ⟨cs, hcs⟩ : ∃ cs, cs = (txl k f t a n d dl id m (.slice A nf cap)) := ⟨_, rfl⟩
  have hl : cs.length = 41 := by rw [hcs]; exact txl_len hid
  have HI := Lib.hid (tx_size hl)
  have HZL := Lib.hid (show zTx.length = cs.length from by rw [hl]; rfl)
  have H1 := Lib.hid (show ∀ u ∈ cs, u.oneCell' = true by rw [hcs]; exact txl_one rfl)
  have hal := (Below.refl w.heap.size w).alloc (Nat.le_refl _) (.cells cs.toArray 40)
  have hx := (Blk.new w 40 cs.toArray)
  have hz := Blk.new (w.alloc (.cells cs.toArray 40)) 40 zTx.toArray
  rw [show (w.alloc (.cells cs.toArray 40)).heap.size = w.heap.size + 1 by simp] at hz
  have HX := Lib.hid hx
  have HX0 := Lib.hid (hx.alloc (.cells zTx.toArray 40))
  have HZ0 := Lib.hid hz
  have HAL := Lib.hid (hal.alloc (by simp) (.cells zTx.toArray 40))
  have HCS := Lib.hid hcs
  have HID := Lib.hid hid
  have q1 : ¬ k = 1 := by omega
  have q2 : ¬ k = 2 := by omega
  have q3 : ¬ k = 3 := by omega
  have q4 : ¬ k = 4 := by omega
  have q5 : ¬ k = 5 := by omega
  have q6 : ¬ k = 6 := by omega
  have q7 : ¬ k = 7 := by omega
  have q8 : ¬ k = 8 := by omega
  rw [← hcs]
  clear hal hx hz hl hid hcs hk
  go_enter Tryz.func29, Tryz.ntmps29
  go_wp2_with (first
    | (refine wpList_load_blk' rfl 40 _ rfl HX.out rfl Tryz.underlying40 rfl HI.out ?_)
    | (refine wpList_store_blk (cs0 := zTx) (cs := cs) rfl 40 _ _ rfl HZ0.out rfl rfl HZL.out HI.out H1.out ?_; intro w1 hb hc; have HZ1 := Lib.hid (show Blk w1 (w.heap.size + 1) 40 (txl k f t a n d dl id m (.slice A nf cap)).toArray from HCS.out ▸ hb); have HX1 := Lib.hid (HX0.out.chg hc fun h => by have h : w.heap.size = w.heap.size + 1 := h; omega); have HB1 := Lib.hid (HAL.out.trans (hc.below HAL.out.size fun b h => by have h : b = w.heap.size + 1 := h; omega)); clear hb hc)
    | (refine wpList_store_cell rfl 3 _ _ rfl HZ1.out rfl (by rw [txl_len HID.out]; decide) (v := .int .i64 0) rfl rfl (by kernel_rfl) rfl ?_; intro w2 hb hc; have HX2 := Lib.hid (HX1.out.chg hc fun h => by have h : w.heap.size = w.heap.size + 1 := h; omega); have HB2 := Lib.hid (HB1.out.trans (hc.below HB1.out.size fun b h => by have h : b = w.heap.size + 1 := h; omega)); have hxk : w2.cell? ⟨w.heap.size, 0, none⟩ = some (.int .i64 k) := (by rw [HX2.out.cell, HCS.out]; rfl); clear hb hc))
  go_ret
  exact ⟨rfl, HB2.out⟩
theorem form_all (w : World) (k f t a n d dl : Int) (id : List UInt8) (hid : id.length = 32) (m : Int) (A : Option Addr) (fc : List tFact.El) (cap : Nat) :
    Calls Tryz.prog 29 #[.agg (txl k f t a n d dl id m (.slice A fc.length cap)).toArray] w fun e w' => e = .returned (.int .i64 (formX (k, f, t, a, n, d, dl, id, m, fc, ()))) ∧ Below w.heap.size w w' := by
  by_cases hk : k < 1 ∨ 8 < k
  · rw [show formX (k, f, t, a, n, d, dl, id, m, fc, ()) = 20 from by unfold formX kindX; exact if_pos hk]
    exact form_else w k f t a n d dl id hid m A _ cap hk
  · have hk' : k = 1 ∨ k = 2 ∨ k = 3 ∨ k = 4 ∨ k = 5 ∨ k = 6 ∨ k = 7 ∨ k = 8 := by omega
    rcases hk' with rfl | rfl | rfl | rfl | rfl | rfl | rfl | rfl
    · exact form_1 w f t a n d dl id hid m A _ cap _ (by unfold formX kindX; simp [or_assoc])
    · exact form_2 w f t a n d dl id hid m A _ cap _ (by unfold formX kindX; simp [])
    · exact form_3 w f t a n d dl id hid m A _ cap _ (by unfold formX kindX; simp [or_assoc])
    · exact form_4 w f t a n d dl id hid m A _ cap _ (by unfold formX kindX; simp [or_assoc])
    · exact form_5 w f t a n d dl id hid m A _ cap _ (by unfold formX kindX; simp [or_assoc])
    · exact form_6 w f t a n d dl id hid m A _ cap _ (by unfold formX kindX; simp [or_assoc])
    · exact form_7 w f t a n d dl id hid m A _ cap _ (by unfold formX kindX; simp [or_assoc])
    · exact form_8 w f t a n d dl id hid m A _ cap _ (by unfold formX kindX; simp [or_assoc])
theorem form_any (w : World) {S : Nat → Prop} {x : TxE} {cs : List Value} (h : tTx.rep w S x cs) : Calls Tryz.prog 29 #[.agg cs.toArray] w fun e w' => e = .returned (.int .i64 (formX x)) ∧ Below w.heap.size w w' := by
  obtain ⟨A, cap, hcs, hid⟩ := txl_of h
  rw [hcs]
  exact form_all w x.1 x.2.1 x.2.2.1 x.2.2.2.1 x.2.2.2.2.1 x.2.2.2.2.2.1 x.2.2.2.2.2.2.1 x.2.2.2.2.2.2.2.1 hid x.2.2.2.2.2.2.2.2.1 A x.2.2.2.2.2.2.2.2.2.1 cap
end
section
open Go.RowKit Go.Maps
def strV (b : List UInt8) : Value := .string (str b)
theorem strV_inj {a b : List UInt8} : strV a = strV b ↔ a = b := by
  constructor
  · intro h
    have h : Value.string (str a) = Value.string (str b) := h
    injection h with h
    exact str_inj h
  · intro h; rw [h]
def PoolI (w : World) (g : Nat) (v : Value) (most : Nat) (L : List (List UInt8)) : Prop :=
  most ≤ 32 ∧ L.length ≤ most ∧ Blk w g 69 #[.int .i64 most, v] ∧ Own w 9 1 v L.length (L.map strV) ∧ v.ownBlock ≠ some g
theorem PoolI.lt {w : World} {g most : Nat} {v : Value} {L : List (List UInt8)} (h : PoolI w g v most L) : g < w.heap.size := h.2.2.1.lt
theorem PoolI.chg {w w' : World} {M : Nat → Prop} {g most : Nat} {v : Value} {L : List (List UInt8)} (h : PoolI w g v most L) (hc : Chg M w w') (hM : ∀ b, (b = g ∨ v.ownBlock = some b) → ¬ M b) : PoolI w' g v most L := by
  obtain ⟨h1, h2, h3, h4, h5⟩ := h
  exact ⟨h1, h2, h3.chg hc (hM _ (.inl rfl)), own_keep h4 fun k hk => hc.block k (own_lt h4 hk) (hM _ (.inr hk)), h5⟩
theorem PoolI.below {w w' : World} {g most : Nat} {v : Value} {L : List (List UInt8)} (h : PoolI w g v most L) (hb : Below w.heap.size w w') : PoolI w' g v most L := h.chg (Chg.of_below hb fun _ => False) fun _ _ h => h
theorem info_str : (Tryz.prog.info? 9).map (fun i => (i.zero, i.size, i.bytes)) = some (some (.string ⟨#[]⟩), 1, 16) := by kernel_rfl
set_option maxRecDepth 100000 in
theorem poolNew_any (w : World) (most : Int) : Calls Tryz.prog 10 #[.int .i64 most] w fun e w' => e = .returned (.pointer (some ⟨w.heap.size, 0, none⟩)) ∧ PoolI w' w.heap.size (.slice none 0 0) (min (max most 0) 32).toNat [] ∧ Below w.heap.size w w' := by
  obtain ⟨q, hq⟩ : ∃ q : Nat, (q : Int) = min (max most 0) 32 := ⟨(min (max most 0) 32).toNat, by omega⟩
  have hq2 : (min (max most 0) 32).toNat = q := by omega
  rw [hq2]
  have HQ := Lib.hid hq
  clear hq2 hq
  go_enter Tryz.func10, Tryz.ntmps10
  have hend : ∀ m : Int, (q : Int) = m → PoolI (w.alloc (.cells #[.int .i64 m, .slice none 0 0] 69)) w.heap.size (.slice none 0 0) q [] ∧ Below w.heap.size w (w.alloc (.cells #[.int .i64 m, .slice none 0 0] 69)) := fun m hm => by
    have h := HQ.out
    subst hm
    exact ⟨⟨by omega, Nat.zero_le _, Blk.new w _ _, Own.nil_ _ _ _, by simp [Value.ownBlock]⟩, (Below.refl _ w).alloc (Nat.le_refl _) _⟩
  have HE := Lib.hid hend
  clear hend
  go_wp2_with fail
  all_goals
    go_ret
    exact ⟨rfl, HE.out _ (by have := HQ.out; omega)⟩
def idxS (L : List (List UInt8)) (b : List UInt8) : Int := match L.findIdx? (· == b) with | some i => i | none => -1
set_option maxHeartbeats 2000000 in
set_option maxRecDepth 100000 in
theorem index_any (w : World) {S : Nat → Prop} {v : Value} {L : List (List UInt8)} (h : Cs w S 1 v L.length (L.map strV)) (hl : L.length ≤ 1048576) (b : List UInt8) :
    Calls Tryz.prog 52 #[v, strV b] w fun e w' => e = .returned (.int .i64 (idxS L b)) ∧ w' = w := by
  obtain ⟨A, cap, rfl⟩ := h.form
  have H := Lib.hid h
  clear h
  go_enter Tryz.func52, Tryz.ntmps52
  go_wp2_with fail
  go_loopw [8] (fun i wr => ∃ k : Nat, k ≤ L.length ∧ i = .int .i64 k ∧ wr = w ∧ Hid (∀ j (hj : j < k) (hj2 : j < L.length), L[j] ≠ b)) (fun i _ => L.length - (intOf i).toNat)
  case atStart => exact ⟨0, Nat.zero_le _, rfl, rfl, Lib.hid fun j hj => absurd hj (Nat.not_lt_zero _)⟩
  case round =>
    obtain ⟨k, hk, rfl, rfl, hne⟩ := hrel
    by_cases hlt : k < L.length
    · obtain ⟨_, A', c', e, _, _, hp⟩ := H.out
      injection e with e1 e2 e3
      subst e1 e3
      obtain ⟨bb, off, rfl, _, _, hc⟩ := hp (by omega)
      have hck : wr.cell? ⟨bb, off + k, none⟩ = some (strV L[k]) := hc k _ (by simp [hlt])
      obtain ⟨y, hy⟩ : ∃ y, y = L[k] := ⟨_, rfl⟩
      rw [← hy] at hck
      have HY := Lib.hid hy
      clear hp hc hy
      have hne' := hne
      by_cases hyb : b = y
      · have heq : strV b = strV y := by rw [hyb]
        have HF := Lib.hid (show idxS L b = (k : Int) from by
          have : L.findIdx? (· == b) = some k := by
            rw [List.findIdx?_eq_some_iff_getElem]
            exact ⟨hlt, by rw [← HY.out, hyb]; simp, fun j hj => by simpa using hne.out j hj (by omega)⟩
          unfold idxS; rw [this])
        subst hyb
        unfold strV at hck
        unfold strV
        clear hne hne' heq
        go_wp2_with fail
        go_ret
        exact ⟨by rw [HF.out]; rfl, rfl⟩
      · have hs : ¬ str b = str y := fun h => hyb (str_inj h)
        have HN := Lib.hid (show ∀ j (hj : j < k + 1) (hj2 : j < L.length), L[j] ≠ b from fun j hj hj2 => by
          by_cases e : j = k
          · subst e; rw [← HY.out]; exact fun h => hyb h.symm
          · exact hne.out j (by omega) hj2)
        unfold strV at hck
        unfold strV
        have hs2 : ((str b).toList == (str y).toList) = false := by rw [str_tl, str_tl]; simpa using hyb
        clear hne hne' hyb
        go_wp2_with fail
        exact ⟨⟨k + 1, by omega, by push_cast; rfl, trivial, HN⟩, by simp only [intOf]; omega⟩
    · have hk' : k = L.length := by omega
      have HF := Lib.hid (show idxS L b = -1 from by
        have : L.findIdx? (· == b) = none := by
          rw [List.findIdx?_eq_none_iff]
          intro x hx
          obtain ⟨j, hj, rfl⟩ := List.getElem_of_mem hx
          simpa using hne.out j (by omega) hj
        unfold idxS; rw [this])
      subst hk'
      clear hne
      go_wp2_with fail
      go_ret
      exact ⟨by rw [HF.out]; rfl, rfl⟩
set_option maxRecDepth 100000 in
theorem contains_any (w : World) {S : Nat → Prop} {v : Value} {L : List (List UInt8)} (h : Cs w S 1 v L.length (L.map strV)) (hl : L.length ≤ 1048576) (b : List UInt8) :
    Calls Tryz.prog 31 #[v, strV b] w fun e w' => e = .returned (.bool (decide (b ∈ L))) ∧ w' = w := by
  have HI := Lib.hid (index_any w h hl b)
  obtain ⟨A, cap, rfl⟩ := h.form
  have hm : decide (b ∈ L) = decide (0 ≤ idxS L b) := by
    rw [Bool.eq_iff_iff, decide_eq_true_iff, decide_eq_true_iff]
    unfold idxS
    cases hf : L.findIdx? (· == b) with
    | none =>
      have := List.findIdx?_eq_none_iff.1 hf
      constructor
      · intro hb; have := this b hb; simp at this
      · intro h; exact absurd h (by decide)
    | some i =>
      obtain ⟨hi, h1, _⟩ := List.findIdx?_eq_some_iff_getElem.1 hf
      have h1 : L[i] = b := by simpa using h1
      exact ⟨fun _ => by simp, fun _ => h1 ▸ List.getElem_mem hi⟩
  rw [hm]
  obtain ⟨q, hq⟩ : ∃ q, q = idxS L b := ⟨_, rfl⟩
  rw [← hq] at HI ⊢
  clear h hl hm hq
  go_enter Tryz.func31, Tryz.ntmps31
  go_wp2_with fail
  refine HI.out.mono ?_
  rintro e w1 ⟨rfl, hw⟩
  obtain rfl := hw.symm
  go_wp2_with fail
  go_ret
  exact ⟨by first | rfl | simp, rfl⟩
end
section
open Go.RowKit Go.Maps
theorem numInt64_any (w : World) (n : Int) : Calls Tryz.prog 48 #[.int .i64 n] w fun e w' => ∃ v', e = .returned v' ∧ Fresh w w' v' (numB n) := by
  have ha := append64_any w (.slice none 0 0) [] ((n % 18446744073709551616).toNat) (by omega) (Own.nil_ _ _ _) (by simp)
  have hw : (((n % 18446744073709551616).toNat : Nat) : Int) = IntKind.u64.wrap n := by rw [show IntKind.u64 = nk false from rfl, wrap_u]; omega
  rw [hw] at ha
  have HA := Lib.hid ha; clear ha hw
  go_enter Tryz.func48, Tryz.ntmps48
  go_wp2_with fail
  refine HA.out.mono ?_
  rintro e w1 ⟨v1, rfl, ho, hc, hv⟩
  go_wp2_with fail
  go_ret
  exact ⟨v1, rfl, Fresh.of_own ho (hc.below (Nat.le_refl _) fun b h => by simp [Value.ownBlock] at h) (fun k hk => hv.elim (fun h => by rw [h] at hk; simp [Value.ownBlock] at hk) fun ⟨j, h1, h2⟩ => by rw [h1] at hk; injection hk with hk; omega) (by show (be8 _).length ≤ _; rw [be8_length]; omega)⟩
theorem numU64_any (w : World) (n : Int) (hn : (nk false).wrap n = n) : Calls Tryz.prog 47 #[.int .u64 n] w fun e w' => ∃ v', e = .returned v' ∧ Fresh w w' v' (numB n) := by
  have ha := append64_any w (.slice none 0 0) [] ((n % 18446744073709551616).toNat) (by omega) (Own.nil_ _ _ _) (by simp)
  have hw : (((n % 18446744073709551616).toNat : Nat) : Int) = IntKind.u64.wrap n := by rw [show IntKind.u64 = nk false from rfl, wrap_u]; omega
  rw [hw, show IntKind.u64 = nk false from rfl, hn] at ha
  have HA := Lib.hid ha; clear ha hw
  go_enter Tryz.func47, Tryz.ntmps47
  go_wp2_with fail
  refine HA.out.mono ?_
  rintro e w1 ⟨v1, rfl, ho, hc, hv⟩
  go_wp2_with fail
  go_ret
  exact ⟨v1, rfl, Fresh.of_own ho (hc.below (Nat.le_refl _) fun b h => by simp [Value.ownBlock] at h) (fun k hk => hv.elim (fun h => by rw [h] at hk; simp [Value.ownBlock] at hk) fun ⟨j, h1, h2⟩ => by rw [h1] at hk; injection hk with hk; omega) (by show (be8 _).length ≤ _; rw [be8_length]; omega)⟩
set_option maxRecDepth 100000 in
theorem digest_any (w : World) (l : List UInt8) (hl : l.length = 32) : Calls Tryz.prog 49 #[.agg (u8s l).toArray] w fun e w' => ∃ v', e = .returned v' ∧ Fresh w w' v' l := by
  have hn := Bs.of_new w 37 l (by rw [hl]; decide) (0, 0)
  rw [hl] at hn
  have HN := Lib.hid hn; clear hn
  go_enter Tryz.func49, Tryz.ntmps49
  go_wp2_with fail
  go_ret
  exact ⟨_, rfl, HN.out.sub (fun b hb _ => ⟨by omega, by subst hb; exact ⟨_, _, Blk.new w _ _⟩⟩), (Below.refl _ w).alloc (Nat.le_refl _) _⟩
end
section
open Go.RowKit Go.Maps
attribute [-simp] Tryz.isAgg37 Tryz.typeInfo37
set_option maxHeartbeats 4000000 in
set_option maxRecDepth 100000 in
theorem sig_any (w : World) {S : Nat → Prop} {x : tSig.El} {cs : List Value} (h : tSig.rep w S x cs) (hl : (tSig.enc x).length ≤ 1099511627776) :
    Calls Tryz.prog 85 #[.agg cs.toArray] w fun e w' => ∃ v', e = .returned v' ∧ Fresh w w' v' (tSig.enc x) := by
  obtain ⟨x0, x1, _⟩ := x
  obtain ⟨c0, _, rfl, ⟨rfl, _⟩, c1, _, rfl, ⟨rfl, l1⟩, rfl⟩ := h
  simp only [nk_t]
  obtain ⟨C, hC⟩ : ∃ C, C = [Value.int .i64 x0] ++ (u8s x1 ++ ([])) := ⟨_, rfl⟩
  rw [← hC]
  have hf : ∀ w', Blk w' w.heap.size 148 C.toArray → w'.cell? ⟨w.heap.size, 0, none⟩ = some (.int .i64 x0) ∧ w'.rangeAt w.heap.size 1 (u8s x1) := fun w' hb => by
    have := hb.lies [[Value.int .i64 x0], u8s x1] [] (by rw [hC]; simp)
    simp only [Lies, List.length_cons, List.length_nil] at this
    obtain ⟨s0, s1, _⟩ := this
    exact ⟨Lies.one s0, s1⟩
  have HF := Lib.hid hf
  clear hf hC
  have hrows : tSig.enc (x0, x1, ()) = joinB [numB x0, x1] := rfl
  have hl' : (joinB [numB x0, x1]).length ≤ 1099511627776 := hl
  have HLL := Lib.hid hl'
  clear hl hl'
  go_enter Tryz.func85, Tryz.ntmps85
  go_wp2_with fail
  have hsz : w.heap.size < w.heap.size + 1 := by omega
  refine wp_region_hoist [0, 1, 3, 4] [2, 5] [6, 7, 8] (fun w' => Blk w' w.heap.size 148 C.toArray)
    (by kernel_rfl) (by kernel_rfl) (by kernel_rfl) (by kernel_rfl) (by kernel_rfl) (by kernel_rfl) (Blk.new w _ _).drew ?_
  (refine HoistK.yes (by rfl) (by kernel_rfl) ⟨?_, fun w' hSw => ?_, ?_⟩; rotate_left; (· go_simp; try with_reducible rfl); simp only [Act.put, setIfInBounds_toArray, getElem_toArray, getElem_cons_zero, set_cons_succ, set_cons_zero])
  (refine HoistK.yes (by rfl) (by kernel_rfl) ⟨?_, fun w' hSw => ?_, ?_⟩; rotate_left; (· obtain ⟨s0, s1⟩ := HF.out _ hSw; go_simp; try with_reducible rfl); simp only [Act.put, setIfInBounds_toArray, getElem_toArray, getElem_cons_succ, getElem_cons_zero, set_cons_succ, set_cons_zero])
  (refine HoistK.yes (by rfl) (by kernel_rfl) ⟨?_, fun w' hSw => ?_, ?_⟩; rotate_left; (· go_simp; try with_reducible rfl); simp only [Act.put, setIfInBounds_toArray, getElem_toArray, getElem_cons_succ, getElem_cons_zero, set_cons_succ, set_cons_zero])
  (refine HoistK.load (by rfl) (by kernel_rfl) 37 _ rfl w.heap.size 1 rfl (u8s x1) _ (fun w' hw => (HF.out w' hw).2) Tryz.underlying37 rfl (by rw [u8s_length, l1]; kernel_rfl) ?_; simp only [Act.put, setIfInBounds_toArray, getElem_toArray, getElem_cons_succ, getElem_cons_zero, set_cons_succ, set_cons_zero])
  refine HoistK.nil_ ?_
  simp only [opsAt, filterMap_cons, filterMap_nil, getElem?_toArray, getElem?_cons_succ, getElem?_cons_zero]
  have hb0 : Blk (w.alloc (.cells C.toArray 148)).drew w.heap.size 148 C.toArray := (Blk.new w _ _).drew
  have g0 : Got w (w.alloc (.cells C.toArray 148)).drew [] [] := Got.start ((Below.refl _ w).alloc (Nat.le_refl _) _).drew
  refine Effects.cons_ fun _ hQ1 => ?_
  go_wp2_with fail
  refine (numInt64_any _ _).mono ?_
  rintro e w1 ⟨v1, rfl, f1⟩
  have g1 := g0.step f1
  have hb1 := hb0.below f1.2 hb0.lt
  clear f1
  go_wp2_with fail
  refine hQ1 _ _ hb1 (Effects.cons_ fun _ hQ2 => ?_)
  clear hQ1 hb0 g0
  go_wp2_with fail
  refine (digest_any _ _ l1).mono ?_
  rintro e w2 ⟨v2, rfl, f2⟩
  have g2 := g1.step f2
  have hb2 := hb1.below f2.2 hb1.lt
  clear f2
  go_wp2_with fail
  refine hQ2 _ _ hb2 (Effects.nil_ fun _ hQ3 => ?_)
  clear hQ2 hb1 g1
  have hcs : ∀ v ∈ [v1, v2], v.cells = #[v] := fun v hv => by
    obtain ⟨i, hi, rfl⟩ := List.getElem_of_mem hv
    obtain ⟨y, _, hr⟩ := g2.2.get i hi
    obtain ⟨A, c, e⟩ := hr.form
    have e' : [v1, v2][i] = .slice A y.length c := e
    rw [e']; rfl
  refine wpList_rows rfl 2 _ rfl [v1, v2] rfl (by decide) (by decide) hcs (by simp [Act.eval]) ?_
  have hr : Bsr (w2.alloc (.cells [v1, v2].toArray 77)) (fun b => b < w2.heap.size + 1) (.slice (some ⟨w2.heap.size, 0, none⟩) 2 2) [numB x0, x1] := g2.row (by simp [maxLen]) 77
  have hj := join_any _ hr (by have := HLL.out; omega) (fun b hb => by simpa using hb)
  have hbb : Below w.heap.size w (w2.alloc (.cells [v1, v2].toArray 77)) := g2.1.alloc g2.1.size _
  have HJ := Lib.hid hj
  have HBB := Lib.hid hbb
  clear hj hbb hr g2 hcs
  go_wp2_with fail
  refine HJ.out.mono ?_
  rintro e w3 ⟨v3, rfl, f3⟩
  go_wp2_with fail
  go_ret
  exact ⟨v3, rfl, f3.1.sub fun b hb _ => ⟨Nat.le_trans HBB.out.size hb.1, hb.2⟩, HBB.out.trans (f3.2.mono HBB.out.size)⟩
end
section
open Go.RowKit Go.Maps
attribute [-simp] Tryz.isAgg37 Tryz.typeInfo37 Tryz.isAgg148 Tryz.typeInfo148
set_option maxHeartbeats 2000000 in
set_option maxRecDepth 100000 in
theorem listSig_any (w : World) {S : Nat → Prop} {v : Value} {l : List (tSig).El} (h : (Sh.list tSig).rep w S l [v]) (hl : ((Sh.list tSig).enc l).length ≤ 1099511627776) :
    Calls Tryz.prog 84 #[v, .func (Fn.func 85) #[] #[]] w fun e w' => ∃ v', e = .returned v' ∧ Fresh w w' v' ((Sh.list tSig).enc l) := by
  obtain ⟨A, cap, rfl, hlen, hat⟩ := list_at h
  have H := Lib.hid h; clear h
  have hl' : (joinB (l.map (tSig).enc)).length ≤ 1099511627776 := hl
  have hcnt := joinP_count (l.map (tSig).enc)
  rw [joinB_length] at hl'
  rw [List.length_map] at hcnt
  have HLL := Lib.hid hl
  clear hl hat
  go_enter Tryz.func84, Tryz.ntmps84
  go_wp2_with fail
  go_loopw [5, 10] (fun a i wr => ∃ k : Nat, k ≤ l.length ∧ i = .int .i64 k ∧ Bss wr (fun b => w.heap.size ≤ b) (fun b => w.heap.size ≤ b) a ((l.take k).map (tSig).enc) ∧ Below w.heap.size w wr) (fun _ i _ => l.length - (intOf i).toNat)
  case atStart => exact ⟨0, Nat.zero_le _, rfl, Bss.nil_ _ _ _, Below.refl _ _⟩
  case round =>
    obtain ⟨k, hk, rfl, hB, hbl⟩ := hrel
    by_cases hlt : k < l.length
    · obtain ⟨R, hR⟩ : ∃ R, R = (l.take k).map (tSig).enc := ⟨_, rfl⟩
      rw [← hR] at hB
      have hRl : R.length = k := by rw [hR, List.length_map, List.length_take]; omega
      have hnext : (l.take (k + 1)).map (tSig).enc = R ++ [(tSig).enc l[k]] := by rw [List.take_succ_eq_append_getElem hlt, List.map_append, ← hR]; rfl
      obtain ⟨Aa, ca, rfl⟩ := hB.form
      obtain ⟨_, _, e, _, hat⟩ := list_at (Sh.rep_below H.out hbl)
      injection e with e1 e2 e3
      subst e1 e3
      obtain ⟨b, off, c, rfl, hca, hr, hcl, _, _⟩ := hat k hlt
      obtain ⟨x, hx⟩ : ∃ x, x = l[k] := ⟨_, rfl⟩
      rw [← hx] at hr hnext
      have hsm2 : ((tSig).enc x).length ≤ 1099511627776 := by
        have h1 := joinP_mem (List.mem_map.2 ⟨l[k], List.getElem_mem hlt, rfl⟩ : (tSig).enc l[k] ∈ l.map (tSig).enc)
        rw [hx]; omega
      have hinfo : (Tryz.prog.info? 148).map (·.size) = some c.length := by rw [hcl]; kernel_rfl
      have HC1 := Lib.hid (Sh.rep_one _ _ _ hr)
      have HCA := Lib.hid (show wr.rangeAt b (off + k * 33) c from hca)
      have HI := Lib.hid hinfo
      have HCL := Lib.hid hcl
      have HREP := Lib.hid hr
      have HSM := Lib.hid hsm2
      clear hinfo hr hsm2
      have hown : ∀ k, (Value.slice Aa R.length ca).ownBlock = some k → k < wr.heap.size := fun k hk => by obtain ⟨vs, ho, _⟩ := hB; exact own_lt ho hk
      have HB := Lib.hid hB
      have HN := Lib.hid hnext
      have HRL := Lib.hid hRl
      have HOWN := Lib.hid hown
      clear hB hca hcl hat hx hR hnext hRl hown
      go_wp2_with (first | (refine wpList_load_mid rfl 148 _ rfl b (off + k * 33) rfl c _ HCA.out Tryz.underlying148 rfl HI.out ?_) | (refine wpList_store_blk (cs0 := .int .i64 0 :: List.replicate 32 (.int .u8 0)) (cs := c) rfl 148 _ _ rfl (Blk.new wr _ _) rfl rfl (by rw [HCL.out]; rfl) HI.out HC1.out ?_; intro w4 hb4 hc4; have HB4 := Lib.hid hb4; have HC4 := Lib.hid hc4; clear hb4 hc4) | (refine wpList_load_blk' rfl 148 _ rfl HB4.out rfl Tryz.underlying148 rfl HI.out ?_))
      have hbw4 : Below wr.heap.size wr w4 := ((Below.refl _ wr).alloc (Nat.le_refl _) _).trans (HC4.out.below (by simp) fun b hb => Nat.le_of_eq hb.symm)
      have hr := Sh.rep_below HREP.out hbw4
      refine (sig_any _ hr HSM.out).mono ?_
      rintro e w1 ⟨v1, rfl, f4⟩
      have f1 : Fresh wr w1 v1 _ := ⟨f4.1.sub fun b hb _ => ⟨Nat.le_trans hbw4.size hb.1, hb.2⟩, hbw4.trans (f4.2.mono hbw4.size)⟩
      clear f4 hr
      have hb1 := hbl.trans (f1.2.mono hbl.size)
      obtain ⟨y, hy⟩ : ∃ y, y = (tSig).enc x := ⟨_, rfl⟩
      have f1 : Fresh wr w1 v1 y := hy ▸ f1
      rw [← hy] at HN
      obtain ⟨A1, c1, rfl⟩ := f1.1.form
      obtain ⟨vs, ho, hS, hr⟩ := HB.out.below f1.2
      have hsz1 := f1.2.size
      have hal : Below w1.heap.size w1 (w1.alloc (.cells #[.slice A1 y.length c1] 77)) := (Below.refl _ w1).alloc (Nat.le_refl _) _
      have HAL := Lib.hid hal
      have HO := Lib.hid (show Own (w1.alloc (.cells #[.slice A1 y.length c1] 77)) _ _ _ _ _ from own_keep ho fun k hk => hal.block k (own_lt ho hk))
      have HS := Lib.hid hS
      have HR := Lib.hid (fun i x u h1 h2 => (hr i x u h1 h2).below hal)
      have HU := Lib.hid ((f1.1.1.below hal).sub (T := fun b => w.heap.size ≤ b ∧ (Value.slice Aa R.length ca).ownBlock ≠ some b) fun b hb _ => ⟨Nat.le_trans hbl.size hb.1, fun e => by have := HOWN.out b e; omega⟩)
      have HS2 := Lib.hid (Cs.of_new w1 77 (size := 1) 1 (cs := [.slice A1 y.length c1]) rfl (by simp only [maxLen]; decide))
      have H63 := Lib.hid (show R.length + 1 ≤ maxLen ∧ (R.length + 1) * 24 ≤ 140737488355328 from by have := HRL.out; refine ⟨by simp only [maxLen]; omega, by omega⟩)
      clear ho hS hr hal f1 hy
      go_wp2_with (at_builtin; refine wpList_app _ rfl _ _ _ rfl Tryz.underlying107 info_row rfl (by decide) HO.out rfl HS2.out rfl (by simp [Value.oneCell']) H63.out.1 H63.out.2 ?_; intro v3 w3 ho3 hg3 hnil3 hat3; clear hnil3; have HO3 := Lib.hid ho3; clear ho3; have HG3 := Lib.hid hg3; clear hg3; have HAT3 := Lib.hid hat3; clear hat3)
      have hpush := Bss.push HO.out HS.out HR.out HU.out HO3.out HG3.out HAT3.out (by have := hb1.size; have := HAL.out.size; omega)
      rw [← HN.out] at hpush
      refine ⟨⟨k + 1, by omega, by push_cast; rfl, hpush, (hb1.trans (HAL.out.mono hb1.size)).trans (HG3.out.below (Nat.le_trans hb1.size HAL.out.size) fun b h => HS.out b h)⟩, ?_⟩
      simp only [intOf]
      omega
    · have hk' : k = l.length := by omega
      rw [hk', List.take_length] at hB
      have hsm : ∀ x ∈ l.map (tSig).enc, x.length ≤ 140737488355328 := fun x hx => by have := joinP_mem hx; omega
      have hj := join_any _ ((hB.read hsm).lt_ (T := fun b => w.heap.size ≤ b) fun b h => h.elim id id) (by rw [joinB_length]; omega) fun b h => h.2
      have HJ := Lib.hid hj
      obtain ⟨R, hR⟩ : ∃ R, R = l.map (tSig).enc := ⟨_, rfl⟩
      have HR := Lib.hid hR
      rw [← hR] at hB HJ
      obtain ⟨Aa, ca, rfl⟩ := hB.form
      clear hj hB hR hsm
      go_wp2_with fail
      refine HJ.out.mono ?_
      rintro e w1 ⟨v1, rfl, f1⟩
      go_wp2_with fail
      go_ret
      refine ⟨v1, rfl, ?_, hbl.trans (f1.2.mono hbl.size)⟩
      have := f1.1.sub (T := fun b => w.heap.size ≤ b ∧ Th w1 b) fun b hb _ => ⟨Nat.le_trans hbl.size hb.1, hb.2⟩
      rw [HR.out] at this
      exact this
end
section
open Go.RowKit Go.Maps
attribute [-simp] Tryz.isAgg37 Tryz.typeInfo37
set_option maxHeartbeats 4000000 in
set_option maxRecDepth 100000 in
theorem qc_any (w : World) {S : Nat → Prop} {x : tQC.El} {cs : List Value} (h : tQC.rep w S x cs) (hl : (tQC.enc x).length ≤ 1099511627776) :
    Calls Tryz.prog 72 #[.agg cs.toArray] w fun e w' => ∃ v', e = .returned v' ∧ Fresh w w' v' (tQC.enc x) := by
  obtain ⟨x0, x1, x2, x3, x4, x5, _⟩ := x
  obtain ⟨c0, _, rfl, ⟨rfl, _⟩, c1, _, rfl, ⟨rfl, _⟩, c2, _, rfl, ⟨rfl, _⟩, c3, _, rfl, ⟨rfl, l3⟩, c4, _, rfl, r4, c5, _, rfl, r5, rfl⟩ := h
  obtain ⟨y4, rfl⟩ : ∃ y, c4 = [y] := by obtain ⟨v, _, e, _⟩ := r4; exact ⟨v, e⟩
  obtain ⟨y5, rfl⟩ : ∃ y, c5 = [y] := by obtain ⟨v, _, e, _⟩ := r5; exact ⟨v, e⟩
  have R4 := Lib.hid r4; clear r4
  have R5 := Lib.hid r5; clear r5
  simp only [nk_t]
  obtain ⟨C, hC⟩ : ∃ C, C = [Value.int .i64 x0] ++ ([Value.int .i64 x1] ++ ([Value.int .i64 x2] ++ (u8s x3 ++ ([y4] ++ ([y5] ++ ([])))))) := ⟨_, rfl⟩
  rw [← hC]
  have hf : ∀ w', Blk w' w.heap.size 88 C.toArray → w'.cell? ⟨w.heap.size, 0, none⟩ = some (.int .i64 x0) ∧ w'.cell? ⟨w.heap.size, 1, none⟩ = some (.int .i64 x1) ∧ w'.cell? ⟨w.heap.size, 2, none⟩ = some (.int .i64 x2) ∧ w'.rangeAt w.heap.size 3 (u8s x3) ∧ w'.cell? ⟨w.heap.size, 35, none⟩ = some y4 ∧ w'.cell? ⟨w.heap.size, 36, none⟩ = some y5 := fun w' hb => by
    have := hb.lies [[Value.int .i64 x0], [Value.int .i64 x1], [Value.int .i64 x2], u8s x3, [y4], [y5]] [] (by rw [hC]; simp)
    simp only [Lies, u8s_length, l3, List.length_cons, List.length_nil] at this
    obtain ⟨s0, s1, s2, s3, s4, s5, _⟩ := this
    exact ⟨Lies.one s0, Lies.one s1, Lies.one s2, s3, Lies.one s4, Lies.one s5⟩
  have HF := Lib.hid hf
  clear hf hC
  have hrows : tQC.enc (x0, x1, x2, x3, x4, x5, ()) = joinB [numB x0, numB x1, numB x2, x3, (Sh.list i64).enc x4, (Sh.list tSig).enc x5] := rfl
  have hl' : (joinB [numB x0, numB x1, numB x2, x3, (Sh.list i64).enc x4, (Sh.list tSig).enc x5]).length ≤ 1099511627776 := hl
  have HLL := Lib.hid hl'
  clear hl hl'
  go_enter Tryz.func72, Tryz.ntmps72
  go_wp2_with fail
  have hsz : w.heap.size < w.heap.size + 1 := by omega
  refine wp_region_hoist [0, 1, 3, 4, 6, 7, 9, 10, 12, 13, 15, 16] [2, 5, 8, 11, 14, 17] [18, 19, 20] (fun w' => Blk w' w.heap.size 88 C.toArray)
    (by kernel_rfl) (by kernel_rfl) (by kernel_rfl) (by kernel_rfl) (by kernel_rfl) (by kernel_rfl) (Blk.new w _ _).drew ?_
  (refine HoistK.yes (by rfl) (by kernel_rfl) ⟨?_, fun w' hSw => ?_, ?_⟩; rotate_left; (· go_simp; try with_reducible rfl); simp only [Act.put, setIfInBounds_toArray, getElem_toArray, getElem_cons_zero, set_cons_succ, set_cons_zero])
  (refine HoistK.yes (by rfl) (by kernel_rfl) ⟨?_, fun w' hSw => ?_, ?_⟩; rotate_left; (· obtain ⟨s0, s1, s2, s3, s4, s5⟩ := HF.out _ hSw; go_simp; try with_reducible rfl); simp only [Act.put, setIfInBounds_toArray, getElem_toArray, getElem_cons_succ, getElem_cons_zero, set_cons_succ, set_cons_zero])
  (refine HoistK.yes (by rfl) (by kernel_rfl) ⟨?_, fun w' hSw => ?_, ?_⟩; rotate_left; (· go_simp; try with_reducible rfl); simp only [Act.put, setIfInBounds_toArray, getElem_toArray, getElem_cons_succ, getElem_cons_zero, set_cons_succ, set_cons_zero])
  (refine HoistK.yes (by rfl) (by kernel_rfl) ⟨?_, fun w' hSw => ?_, ?_⟩; rotate_left; (· obtain ⟨s0, s1, s2, s3, s4, s5⟩ := HF.out _ hSw; go_simp; try with_reducible rfl); simp only [Act.put, setIfInBounds_toArray, getElem_toArray, getElem_cons_succ, getElem_cons_zero, set_cons_succ, set_cons_zero])
  (refine HoistK.yes (by rfl) (by kernel_rfl) ⟨?_, fun w' hSw => ?_, ?_⟩; rotate_left; (· go_simp; try with_reducible rfl); simp only [Act.put, setIfInBounds_toArray, getElem_toArray, getElem_cons_succ, getElem_cons_zero, set_cons_succ, set_cons_zero])
  (refine HoistK.yes (by rfl) (by kernel_rfl) ⟨?_, fun w' hSw => ?_, ?_⟩; rotate_left; (· obtain ⟨s0, s1, s2, s3, s4, s5⟩ := HF.out _ hSw; go_simp; try with_reducible rfl); simp only [Act.put, setIfInBounds_toArray, getElem_toArray, getElem_cons_succ, getElem_cons_zero, set_cons_succ, set_cons_zero])
  (refine HoistK.yes (by rfl) (by kernel_rfl) ⟨?_, fun w' hSw => ?_, ?_⟩; rotate_left; (· go_simp; try with_reducible rfl); simp only [Act.put, setIfInBounds_toArray, getElem_toArray, getElem_cons_succ, getElem_cons_zero, set_cons_succ, set_cons_zero])
  (refine HoistK.load (by rfl) (by kernel_rfl) 37 _ rfl w.heap.size 3 rfl (u8s x3) _ (fun w' hw => (HF.out w' hw).2.2.2.1) Tryz.underlying37 rfl (by rw [u8s_length, l3]; kernel_rfl) ?_; simp only [Act.put, setIfInBounds_toArray, getElem_toArray, getElem_cons_succ, getElem_cons_zero, set_cons_succ, set_cons_zero])
  (refine HoistK.yes (by rfl) (by kernel_rfl) ⟨?_, fun w' hSw => ?_, ?_⟩; rotate_left; (· go_simp; try with_reducible rfl); simp only [Act.put, setIfInBounds_toArray, getElem_toArray, getElem_cons_succ, getElem_cons_zero, set_cons_succ, set_cons_zero])
  (refine HoistK.yes (by rfl) (by kernel_rfl) ⟨?_, fun w' hSw => ?_, ?_⟩; rotate_left; (· obtain ⟨s0, s1, s2, s3, s4, s5⟩ := HF.out _ hSw; go_simp; try with_reducible rfl); simp only [Act.put, setIfInBounds_toArray, getElem_toArray, getElem_cons_succ, getElem_cons_zero, set_cons_succ, set_cons_zero])
  (refine HoistK.yes (by rfl) (by kernel_rfl) ⟨?_, fun w' hSw => ?_, ?_⟩; rotate_left; (· go_simp; try with_reducible rfl); simp only [Act.put, setIfInBounds_toArray, getElem_toArray, getElem_cons_succ, getElem_cons_zero, set_cons_succ, set_cons_zero])
  (refine HoistK.yes (by rfl) (by kernel_rfl) ⟨?_, fun w' hSw => ?_, ?_⟩; rotate_left; (· obtain ⟨s0, s1, s2, s3, s4, s5⟩ := HF.out _ hSw; go_simp; try with_reducible rfl); simp only [Act.put, setIfInBounds_toArray, getElem_toArray, getElem_cons_succ, getElem_cons_zero, set_cons_succ, set_cons_zero])
  refine HoistK.nil_ ?_
  simp only [opsAt, filterMap_cons, filterMap_nil, getElem?_toArray, getElem?_cons_succ, getElem?_cons_zero]
  have hb0 : Blk (w.alloc (.cells C.toArray 88)).drew w.heap.size 88 C.toArray := (Blk.new w _ _).drew
  have g0 : Got w (w.alloc (.cells C.toArray 88)).drew [] [] := Got.start ((Below.refl _ w).alloc (Nat.le_refl _) _).drew
  refine Effects.cons_ fun _ hQ1 => ?_
  go_wp2_with fail
  refine (numInt_any _ _).mono ?_
  rintro e w1 ⟨v1, rfl, f1⟩
  have g1 := g0.step f1
  have hb1 := hb0.below f1.2 hb0.lt
  clear f1
  go_wp2_with fail
  refine hQ1 _ _ hb1 (Effects.cons_ fun _ hQ2 => ?_)
  clear hQ1 hb0 g0
  go_wp2_with fail
  refine (numInt_any _ _).mono ?_
  rintro e w2 ⟨v2, rfl, f2⟩
  have g2 := g1.step f2
  have hb2 := hb1.below f2.2 hb1.lt
  clear f2
  go_wp2_with fail
  refine hQ2 _ _ hb2 (Effects.cons_ fun _ hQ3 => ?_)
  clear hQ2 hb1 g1
  go_wp2_with fail
  refine (numInt64_any _ _).mono ?_
  rintro e w3 ⟨v3, rfl, f3⟩
  have g3 := g2.step f3
  have hb3 := hb2.below f3.2 hb2.lt
  clear f3
  go_wp2_with fail
  refine hQ3 _ _ hb3 (Effects.cons_ fun _ hQ4 => ?_)
  clear hQ3 hb2 g2
  go_wp2_with fail
  refine (digest_any _ _ l3).mono ?_
  rintro e w4 ⟨v4, rfl, f4⟩
  have g4 := g3.step f4
  have hb4 := hb3.below f4.2 hb3.lt
  clear f4
  go_wp2_with fail
  refine hQ4 _ _ hb4 (Effects.cons_ fun _ hQ5 => ?_)
  clear hQ4 hb3 g3
  go_wp2_with fail
  refine (nums_any _ (Sh.rep_below R4.out g4.1) (by have h1 := HLL.out; rw [joinB_length] at h1; have h2 := joinP_mem (l := [numB x0, numB x1, numB x2, x3, (Sh.list i64).enc x4, (Sh.list tSig).enc x5]) (x := (Sh.list i64).enc x4) (by simp); omega)).mono ?_
  rintro e w5 ⟨v5, rfl, f5⟩
  have g5 := g4.step f5
  have hb5 := hb4.below f5.2 hb4.lt
  clear f5
  go_wp2_with fail
  refine hQ5 _ _ hb5 (Effects.cons_ fun _ hQ6 => ?_)
  clear hQ5 hb4 g4
  go_wp2_with fail
  refine (listSig_any _ (Sh.rep_below R5.out g5.1) (by have h1 := HLL.out; rw [joinB_length] at h1; have h2 := joinP_mem (l := [numB x0, numB x1, numB x2, x3, (Sh.list i64).enc x4, (Sh.list tSig).enc x5]) (x := (Sh.list tSig).enc x5) (by simp); omega)).mono ?_
  rintro e w6 ⟨v6, rfl, f6⟩
  have g6 := g5.step f6
  have hb6 := hb5.below f6.2 hb5.lt
  clear f6
  go_wp2_with fail
  refine hQ6 _ _ hb6 (Effects.nil_ fun _ hQ7 => ?_)
  clear hQ6 hb5 g5
  have hcs : ∀ v ∈ [v1, v2, v3, v4, v5, v6], v.cells = #[v] := fun v hv => by
    obtain ⟨i, hi, rfl⟩ := List.getElem_of_mem hv
    obtain ⟨y, _, hr⟩ := g6.2.get i hi
    obtain ⟨A, c, e⟩ := hr.form
    have e' : [v1, v2, v3, v4, v5, v6][i] = .slice A y.length c := e
    rw [e']; rfl
  refine wpList_rows rfl 6 _ rfl [v1, v2, v3, v4, v5, v6] rfl (by decide) (by decide) hcs (by simp [Act.eval]) ?_
  have hr : Bsr (w6.alloc (.cells [v1, v2, v3, v4, v5, v6].toArray 77)) (fun b => b < w6.heap.size + 1) (.slice (some ⟨w6.heap.size, 0, none⟩) 6 6) [numB x0, numB x1, numB x2, x3, (Sh.list i64).enc x4, (Sh.list tSig).enc x5] := g6.row (by simp [maxLen]) 77
  have hj := join_any _ hr (by have := HLL.out; omega) (fun b hb => by simpa using hb)
  have hbb : Below w.heap.size w (w6.alloc (.cells [v1, v2, v3, v4, v5, v6].toArray 77)) := g6.1.alloc g6.1.size _
  have HJ := Lib.hid hj
  have HBB := Lib.hid hbb
  clear hj hbb hr g6 hcs
  go_wp2_with fail
  refine HJ.out.mono ?_
  rintro e w7 ⟨v7, rfl, f7⟩
  go_wp2_with fail
  go_ret
  exact ⟨v7, rfl, f7.1.sub fun b hb _ => ⟨Nat.le_trans HBB.out.size hb.1, hb.2⟩, HBB.out.trans (f7.2.mono HBB.out.size)⟩
end
section
open Go.RowKit Go.Maps
attribute [-simp] Tryz.isAgg37 Tryz.typeInfo37
set_option maxHeartbeats 1000000 in
set_option maxRecDepth 100000 in
theorem header_any (w : World) {S : Nat → Prop} {x : tHeader.El} {cs : List Value} (h : tHeader.rep w S x cs) :
    Calls Tryz.prog 71 #[.agg cs.toArray] w fun e w' => ∃ v', e = .returned v' ∧ Fresh w w' v' (tHeader.enc x) := by
  obtain ⟨x0, x1, x2, x3, x4, x5, x6, x7, _⟩ := x
  obtain ⟨_, _, rfl, ⟨rfl, _⟩, _, _, rfl, ⟨rfl, _⟩, _, _, rfl, ⟨rfl, _⟩, _, _, rfl, ⟨rfl, _⟩, _, _, rfl, ⟨rfl, l4⟩, _, _, rfl, ⟨rfl, l5⟩, _, _, rfl, ⟨rfl, l6⟩, _, _, rfl, ⟨rfl, _⟩, rfl⟩ := h
  rw [nk_t]
  obtain ⟨C, hC⟩ : ∃ C, C = [Value.int .i64 x0] ++ ([.int .i64 x1] ++ ([.int .i64 x2] ++ ([.int .i64 x3] ++ (u8s x4 ++ (u8s x5 ++ (u8s x6 ++ ([.int .i64 x7] ++ []))))))) := ⟨_, rfl⟩
  rw [← hC]
  have hf : ∀ w', Blk w' w.heap.size 125 C.toArray → w'.cell? ⟨w.heap.size, 0, none⟩ = some (.int .i64 x0) ∧ w'.cell? ⟨w.heap.size, 1, none⟩ = some (.int .i64 x1) ∧ w'.cell? ⟨w.heap.size, 2, none⟩ = some (.int .i64 x2) ∧ w'.cell? ⟨w.heap.size, 3, none⟩ = some (.int .i64 x3) ∧
      w'.rangeAt w.heap.size 4 (u8s x4) ∧ w'.rangeAt w.heap.size 36 (u8s x5) ∧ w'.rangeAt w.heap.size 68 (u8s x6) ∧ w'.cell? ⟨w.heap.size, 100, none⟩ = some (.int .i64 x7) := fun w' hb => by
    have := hb.lies [[Value.int .i64 x0], [.int .i64 x1], [.int .i64 x2], [.int .i64 x3], u8s x4, u8s x5, u8s x6, [.int .i64 x7]] [] (by rw [hC]; simp)
    simp only [Lies, u8s_length, l4, l5, l6, List.length_cons, List.length_nil] at this
    obtain ⟨s0, s1, s2, s3, s4, s5, s6, s7, _⟩ := this
    exact ⟨Lies.one s0, Lies.one s1, Lies.one s2, Lies.one s3, s4, s5, s6, Lies.one s7⟩
  have HF := Lib.hid hf
  clear hf hC
  go_enter Tryz.func71, Tryz.ntmps71
  go_wp2_with fail
  -- REGION
  have hsz : w.heap.size < w.heap.size + 1 := by omega
  refine wp_region_hoist [0, 1, 3, 4, 6, 7, 9, 10, 12, 13, 15, 16, 18, 19, 21, 22] [2, 5, 8, 11, 14, 17, 20, 23] [24, 25, 26] (fun w' => Blk w' w.heap.size 125 C.toArray)
    (by kernel_rfl) (by kernel_rfl) (by kernel_rfl) (by kernel_rfl) (by kernel_rfl) (by kernel_rfl) (Blk.new w _ _).drew ?_
  (refine HoistK.yes (by rfl) (by kernel_rfl) ⟨?_, fun w' hSw => ?_, ?_⟩; rotate_left; (· go_simp; try with_reducible rfl); simp only [Act.put, setIfInBounds_toArray, getElem_toArray, getElem_cons_zero, set_cons_succ, set_cons_zero])
  (refine HoistK.yes (by rfl) (by kernel_rfl) ⟨?_, fun w' hSw => ?_, ?_⟩; rotate_left; (· obtain ⟨s0, s1, s2, s3, s4, s5, s6, s7⟩ := HF.out _ hSw; go_simp; try with_reducible rfl); simp only [Act.put, setIfInBounds_toArray, getElem_toArray, getElem_cons_succ, getElem_cons_zero, set_cons_succ, set_cons_zero])
  (refine HoistK.yes (by rfl) (by kernel_rfl) ⟨?_, fun w' hSw => ?_, ?_⟩; rotate_left; (· go_simp; try with_reducible rfl); simp only [Act.put, setIfInBounds_toArray, getElem_toArray, getElem_cons_succ, getElem_cons_zero, set_cons_succ, set_cons_zero])
  (refine HoistK.yes (by rfl) (by kernel_rfl) ⟨?_, fun w' hSw => ?_, ?_⟩; rotate_left; (· obtain ⟨s0, s1, s2, s3, s4, s5, s6, s7⟩ := HF.out _ hSw; go_simp; try with_reducible rfl); simp only [Act.put, setIfInBounds_toArray, getElem_toArray, getElem_cons_succ, getElem_cons_zero, set_cons_succ, set_cons_zero])
  (refine HoistK.yes (by rfl) (by kernel_rfl) ⟨?_, fun w' hSw => ?_, ?_⟩; rotate_left; (· go_simp; try with_reducible rfl); simp only [Act.put, setIfInBounds_toArray, getElem_toArray, getElem_cons_succ, getElem_cons_zero, set_cons_succ, set_cons_zero])
  (refine HoistK.yes (by rfl) (by kernel_rfl) ⟨?_, fun w' hSw => ?_, ?_⟩; rotate_left; (· obtain ⟨s0, s1, s2, s3, s4, s5, s6, s7⟩ := HF.out _ hSw; go_simp; try with_reducible rfl); simp only [Act.put, setIfInBounds_toArray, getElem_toArray, getElem_cons_succ, getElem_cons_zero, set_cons_succ, set_cons_zero])
  (refine HoistK.yes (by rfl) (by kernel_rfl) ⟨?_, fun w' hSw => ?_, ?_⟩; rotate_left; (· go_simp; try with_reducible rfl); simp only [Act.put, setIfInBounds_toArray, getElem_toArray, getElem_cons_succ, getElem_cons_zero, set_cons_succ, set_cons_zero])
  (refine HoistK.yes (by rfl) (by kernel_rfl) ⟨?_, fun w' hSw => ?_, ?_⟩; rotate_left; (· obtain ⟨s0, s1, s2, s3, s4, s5, s6, s7⟩ := HF.out _ hSw; go_simp; try with_reducible rfl); simp only [Act.put, setIfInBounds_toArray, getElem_toArray, getElem_cons_succ, getElem_cons_zero, set_cons_succ, set_cons_zero])
  (refine HoistK.yes (by rfl) (by kernel_rfl) ⟨?_, fun w' hSw => ?_, ?_⟩; rotate_left; (· go_simp; try with_reducible rfl); simp only [Act.put, setIfInBounds_toArray, getElem_toArray, getElem_cons_succ, getElem_cons_zero, set_cons_succ, set_cons_zero])
  (refine HoistK.load (by rfl) (by kernel_rfl) 37 _ rfl w.heap.size 4 rfl (u8s x4) _ (fun w' hw => (HF.out w' hw).2.2.2.2.1) Tryz.underlying37 rfl (by rw [u8s_length, l4]; kernel_rfl) ?_; simp only [Act.put, setIfInBounds_toArray, getElem_toArray, getElem_cons_succ, getElem_cons_zero, set_cons_succ, set_cons_zero])
  (refine HoistK.yes (by rfl) (by kernel_rfl) ⟨?_, fun w' hSw => ?_, ?_⟩; rotate_left; (· go_simp; try with_reducible rfl); simp only [Act.put, setIfInBounds_toArray, getElem_toArray, getElem_cons_succ, getElem_cons_zero, set_cons_succ, set_cons_zero])
  (refine HoistK.load (by rfl) (by kernel_rfl) 37 _ rfl w.heap.size 36 rfl (u8s x5) _ (fun w' hw => (HF.out w' hw).2.2.2.2.2.1) Tryz.underlying37 rfl (by rw [u8s_length, l5]; kernel_rfl) ?_; simp only [Act.put, setIfInBounds_toArray, getElem_toArray, getElem_cons_succ, getElem_cons_zero, set_cons_succ, set_cons_zero])
  (refine HoistK.yes (by rfl) (by kernel_rfl) ⟨?_, fun w' hSw => ?_, ?_⟩; rotate_left; (· go_simp; try with_reducible rfl); simp only [Act.put, setIfInBounds_toArray, getElem_toArray, getElem_cons_succ, getElem_cons_zero, set_cons_succ, set_cons_zero])
  (refine HoistK.load (by rfl) (by kernel_rfl) 37 _ rfl w.heap.size 68 rfl (u8s x6) _ (fun w' hw => (HF.out w' hw).2.2.2.2.2.2.1) Tryz.underlying37 rfl (by rw [u8s_length, l6]; kernel_rfl) ?_; simp only [Act.put, setIfInBounds_toArray, getElem_toArray, getElem_cons_succ, getElem_cons_zero, set_cons_succ, set_cons_zero])
  (refine HoistK.yes (by rfl) (by kernel_rfl) ⟨?_, fun w' hSw => ?_, ?_⟩; rotate_left; (· go_simp; try with_reducible rfl); simp only [Act.put, setIfInBounds_toArray, getElem_toArray, getElem_cons_succ, getElem_cons_zero, set_cons_succ, set_cons_zero])
  (refine HoistK.yes (by rfl) (by kernel_rfl) ⟨?_, fun w' hSw => ?_, ?_⟩; rotate_left; (· obtain ⟨s0, s1, s2, s3, s4, s5, s6, s7⟩ := HF.out _ hSw; go_simp; try with_reducible rfl); simp only [Act.put, setIfInBounds_toArray, getElem_toArray, getElem_cons_succ, getElem_cons_zero, set_cons_succ, set_cons_zero])
  refine HoistK.nil_ ?_
  simp only [opsAt, filterMap_cons, filterMap_nil, getElem?_toArray, getElem?_cons_succ, getElem?_cons_zero]
  have hb0 : Blk (w.alloc (.cells C.toArray 125)).drew w.heap.size 125 C.toArray := (Blk.new w _ _).drew
  have g0 : Got w (w.alloc (.cells C.toArray 125)).drew [] [] := Got.start ((Below.refl _ w).alloc (Nat.le_refl _) _).drew
  refine Effects.cons_ fun _ hQ1 => ?_
  go_wp2_with fail
  refine (numInt_any _ _).mono ?_
  rintro e w1 ⟨v1, rfl, f1⟩
  have g1 := g0.step f1
  have hb1 := hb0.below f1.2 hb0.lt
  clear f1
  go_wp2_with fail
  refine hQ1 _ _ hb1 (Effects.cons_ fun _ hQ2 => ?_)
  clear hQ1 hb0 g0
  go_wp2_with fail
  refine (numInt_any _ _).mono ?_
  rintro e w2 ⟨v2, rfl, f2⟩
  have g2 := g1.step f2
  have hb2 := hb1.below f2.2 hb1.lt
  clear f2
  go_wp2_with fail
  refine hQ2 _ _ hb2 (Effects.cons_ fun _ hQ3 => ?_)
  clear hQ2 hb1 g1
  go_wp2_with fail
  refine (numInt64_any _ _).mono ?_
  rintro e w3 ⟨v3, rfl, f3⟩
  have g3 := g2.step f3
  have hb3 := hb2.below f3.2 hb2.lt
  clear f3
  go_wp2_with fail
  refine hQ3 _ _ hb3 (Effects.cons_ fun _ hQ4 => ?_)
  clear hQ3 hb2 g2
  go_wp2_with fail
  refine (numInt64_any _ _).mono ?_
  rintro e w4 ⟨v4, rfl, f4⟩
  have g4 := g3.step f4
  have hb4 := hb3.below f4.2 hb3.lt
  clear f4
  go_wp2_with fail
  refine hQ4 _ _ hb4 (Effects.cons_ fun _ hQ5 => ?_)
  clear hQ4 hb3 g3
  go_wp2_with fail
  refine (digest_any _ _ l4).mono ?_
  rintro e w5 ⟨v5, rfl, f5⟩
  have g5 := g4.step f5
  have hb5 := hb4.below f5.2 hb4.lt
  clear f5
  go_wp2_with fail
  refine hQ5 _ _ hb5 (Effects.cons_ fun _ hQ6 => ?_)
  clear hQ5 hb4 g4
  go_wp2_with fail
  refine (digest_any _ _ l5).mono ?_
  rintro e w6 ⟨v6, rfl, f6⟩
  have g6 := g5.step f6
  have hb6 := hb5.below f6.2 hb5.lt
  clear f6
  go_wp2_with fail
  refine hQ6 _ _ hb6 (Effects.cons_ fun _ hQ7 => ?_)
  clear hQ6 hb5 g5
  go_wp2_with fail
  refine (digest_any _ _ l6).mono ?_
  rintro e w7 ⟨v7, rfl, f7⟩
  have g7 := g6.step f7
  have hb7 := hb6.below f7.2 hb6.lt
  clear f7
  go_wp2_with fail
  refine hQ7 _ _ hb7 (Effects.cons_ fun _ hQ8 => ?_)
  clear hQ7 hb6 g6
  go_wp2_with fail
  refine (numInt_any _ _).mono ?_
  rintro e w8 ⟨v8, rfl, f8⟩
  have g8 := g7.step f8
  have hb8 := hb7.below f8.2 hb7.lt
  clear f8
  go_wp2_with fail
  refine hQ8 _ _ hb8 (Effects.nil_ fun _ hQ9 => ?_)
  clear hQ8 hb7 g7
  have hcs : ∀ v ∈ [v1, v2, v3, v4, v5, v6, v7, v8], v.cells = #[v] := fun v hv => by
    obtain ⟨i, hi, rfl⟩ := List.getElem_of_mem hv
    obtain ⟨y, _, hr⟩ := g8.2.get i hi
    obtain ⟨A, c, e⟩ := hr.form
    have e' : [v1, v2, v3, v4, v5, v6, v7, v8][i] = .slice A y.length c := e
    rw [e']; rfl
  refine wpList_rows rfl 8 _ rfl [v1, v2, v3, v4, v5, v6, v7, v8] rfl (by decide) (by decide) hcs (by simp [Act.eval]) ?_
  have hr : Bsr (w8.alloc (.cells [v1, v2, v3, v4, v5, v6, v7, v8].toArray 77)) (fun b => b < w8.heap.size + 1) (.slice (some ⟨w8.heap.size, 0, none⟩) 8 8) [numB x0, numB x1, numB x2, numB x3, x4, x5, x6, numB x7] := g8.row (by simp [maxLen]) 77
  have hlen : (joinB [numB x0, numB x1, numB x2, numB x3, x4, x5, x6, numB x7]).length ≤ 140737488355328 := by
    simp only [joinB_length, joinP, List.length_append, be8_length, numB_length, l4, l5, l6, List.length_nil]
    omega
  have hj := join_any _ hr hlen (fun b hb => by simpa using hb)
  have hbb : Below w.heap.size w (w8.alloc (.cells [v1, v2, v3, v4, v5, v6, v7, v8].toArray 77)) := g8.1.alloc g8.1.size _
  have HJ := Lib.hid hj
  have HBB := Lib.hid hbb
  clear hj hbb hr hlen g8 hcs
  go_wp2_with fail
  refine HJ.out.mono ?_
  rintro e w9 ⟨v9, rfl, f9⟩
  go_wp2_with fail
  go_ret
  exact ⟨v9, rfl, f9.1.sub fun b hb _ => ⟨Nat.le_trans HBB.out.size hb.1, hb.2⟩, HBB.out.trans (f9.2.mono HBB.out.size)⟩
end
section
open Go.RowKit Go.Maps
attribute [-simp] Tryz.isAgg37 Tryz.typeInfo37 Tryz.isAgg125 Tryz.typeInfo125
set_option maxHeartbeats 2000000 in
set_option maxRecDepth 100000 in
theorem listHeader_any (w : World) {S : Nat → Prop} {v : Value} {l : List (tHeader).El} (h : (Sh.list tHeader).rep w S l [v]) (hl : ((Sh.list tHeader).enc l).length ≤ 1099511627776) :
    Calls Tryz.prog 70 #[v, .func (Fn.func 71) #[] #[]] w fun e w' => ∃ v', e = .returned v' ∧ Fresh w w' v' ((Sh.list tHeader).enc l) := by
  obtain ⟨A, cap, rfl, hlen, hat⟩ := list_at h
  have H := Lib.hid h; clear h
  have hl' : (joinB (l.map (tHeader).enc)).length ≤ 1099511627776 := hl
  have hcnt := joinP_count (l.map (tHeader).enc)
  rw [joinB_length] at hl'
  rw [List.length_map] at hcnt
  have HLL := Lib.hid hl
  clear hl hat
  go_enter Tryz.func70, Tryz.ntmps70
  go_wp2_with fail
  go_loopw [5, 10] (fun a i wr => ∃ k : Nat, k ≤ l.length ∧ i = .int .i64 k ∧ Bss wr (fun b => w.heap.size ≤ b) (fun b => w.heap.size ≤ b) a ((l.take k).map (tHeader).enc) ∧ Below w.heap.size w wr) (fun _ i _ => l.length - (intOf i).toNat)
  case atStart => exact ⟨0, Nat.zero_le _, rfl, Bss.nil_ _ _ _, Below.refl _ _⟩
  case round =>
    obtain ⟨k, hk, rfl, hB, hbl⟩ := hrel
    by_cases hlt : k < l.length
    · obtain ⟨R, hR⟩ : ∃ R, R = (l.take k).map (tHeader).enc := ⟨_, rfl⟩
      rw [← hR] at hB
      have hRl : R.length = k := by rw [hR, List.length_map, List.length_take]; omega
      have hnext : (l.take (k + 1)).map (tHeader).enc = R ++ [(tHeader).enc l[k]] := by rw [List.take_succ_eq_append_getElem hlt, List.map_append, ← hR]; rfl
      obtain ⟨Aa, ca, rfl⟩ := hB.form
      obtain ⟨_, _, e, _, hat⟩ := list_at (Sh.rep_below H.out hbl)
      injection e with e1 e2 e3
      subst e1 e3
      obtain ⟨b, off, c, rfl, hca, hr, hcl, _, _⟩ := hat k hlt
      obtain ⟨x, hx⟩ : ∃ x, x = l[k] := ⟨_, rfl⟩
      rw [← hx] at hr hnext
      have hsm2 : ((tHeader).enc x).length ≤ 1099511627776 := by
        have h1 := joinP_mem (List.mem_map.2 ⟨l[k], List.getElem_mem hlt, rfl⟩ : (tHeader).enc l[k] ∈ l.map (tHeader).enc)
        rw [hx]; omega
      have hinfo : (Tryz.prog.info? 125).map (·.size) = some c.length := by rw [hcl]; kernel_rfl
      have HC1 := Lib.hid (Sh.rep_one _ _ _ hr)
      have HCA := Lib.hid (show wr.rangeAt b (off + k * 101) c from hca)
      have HI := Lib.hid hinfo
      have HCL := Lib.hid hcl
      have HREP := Lib.hid hr
      have HSM := Lib.hid hsm2
      clear hinfo hr hsm2
      have hown : ∀ k, (Value.slice Aa R.length ca).ownBlock = some k → k < wr.heap.size := fun k hk => by obtain ⟨vs, ho, _⟩ := hB; exact own_lt ho hk
      have HB := Lib.hid hB
      have HN := Lib.hid hnext
      have HRL := Lib.hid hRl
      have HOWN := Lib.hid hown
      clear hB hca hcl hat hx hR hnext hRl hown
      go_wp2_with (first | (refine wpList_load_mid rfl 125 _ rfl b (off + k * 101) rfl c _ HCA.out Tryz.underlying125 rfl HI.out ?_) | (refine wpList_store_blk (cs0 := [.int .i64 0, .int .i64 0, .int .i64 0, .int .i64 0] ++ List.replicate 96 (.int .u8 0) ++ [.int .i64 0]) (cs := c) rfl 125 _ _ rfl (Blk.new wr _ _) rfl rfl (by rw [HCL.out]; rfl) HI.out HC1.out ?_; intro w4 hb4 hc4; have HB4 := Lib.hid hb4; have HC4 := Lib.hid hc4; clear hb4 hc4) | (refine wpList_load_blk' rfl 125 _ rfl HB4.out rfl Tryz.underlying125 rfl HI.out ?_))
      have hbw4 : Below wr.heap.size wr w4 := ((Below.refl _ wr).alloc (Nat.le_refl _) _).trans (HC4.out.below (by simp) fun b hb => Nat.le_of_eq hb.symm)
      have hr := Sh.rep_below HREP.out hbw4
      refine (header_any _ hr).mono ?_
      rintro e w1 ⟨v1, rfl, f4⟩
      have f1 : Fresh wr w1 v1 _ := ⟨f4.1.sub fun b hb _ => ⟨Nat.le_trans hbw4.size hb.1, hb.2⟩, hbw4.trans (f4.2.mono hbw4.size)⟩
      clear f4 hr
      have hb1 := hbl.trans (f1.2.mono hbl.size)
      obtain ⟨y, hy⟩ : ∃ y, y = (tHeader).enc x := ⟨_, rfl⟩
      have f1 : Fresh wr w1 v1 y := hy ▸ f1
      rw [← hy] at HN
      obtain ⟨A1, c1, rfl⟩ := f1.1.form
      obtain ⟨vs, ho, hS, hr⟩ := HB.out.below f1.2
      have hsz1 := f1.2.size
      have hal : Below w1.heap.size w1 (w1.alloc (.cells #[.slice A1 y.length c1] 77)) := (Below.refl _ w1).alloc (Nat.le_refl _) _
      have HAL := Lib.hid hal
      have HO := Lib.hid (show Own (w1.alloc (.cells #[.slice A1 y.length c1] 77)) _ _ _ _ _ from own_keep ho fun k hk => hal.block k (own_lt ho hk))
      have HS := Lib.hid hS
      have HR := Lib.hid (fun i x u h1 h2 => (hr i x u h1 h2).below hal)
      have HU := Lib.hid ((f1.1.1.below hal).sub (T := fun b => w.heap.size ≤ b ∧ (Value.slice Aa R.length ca).ownBlock ≠ some b) fun b hb _ => ⟨Nat.le_trans hbl.size hb.1, fun e => by have := HOWN.out b e; omega⟩)
      have HS2 := Lib.hid (Cs.of_new w1 77 (size := 1) 1 (cs := [.slice A1 y.length c1]) rfl (by simp only [maxLen]; decide))
      have H63 := Lib.hid (show R.length + 1 ≤ maxLen ∧ (R.length + 1) * 24 ≤ 140737488355328 from by have := HRL.out; refine ⟨by simp only [maxLen]; omega, by omega⟩)
      clear ho hS hr hal f1 hy
      go_wp2_with (at_builtin; refine wpList_app _ rfl _ _ _ rfl Tryz.underlying107 info_row rfl (by decide) HO.out rfl HS2.out rfl (by simp [Value.oneCell']) H63.out.1 H63.out.2 ?_; intro v3 w3 ho3 hg3 hnil3 hat3; clear hnil3; have HO3 := Lib.hid ho3; clear ho3; have HG3 := Lib.hid hg3; clear hg3; have HAT3 := Lib.hid hat3; clear hat3)
      have hpush := Bss.push HO.out HS.out HR.out HU.out HO3.out HG3.out HAT3.out (by have := hb1.size; have := HAL.out.size; omega)
      rw [← HN.out] at hpush
      refine ⟨⟨k + 1, by omega, by push_cast; rfl, hpush, (hb1.trans (HAL.out.mono hb1.size)).trans (HG3.out.below (Nat.le_trans hb1.size HAL.out.size) fun b h => HS.out b h)⟩, ?_⟩
      simp only [intOf]
      omega
    · have hk' : k = l.length := by omega
      rw [hk', List.take_length] at hB
      have hsm : ∀ x ∈ l.map (tHeader).enc, x.length ≤ 140737488355328 := fun x hx => by have := joinP_mem hx; omega
      have hj := join_any _ ((hB.read hsm).lt_ (T := fun b => w.heap.size ≤ b) fun b h => h.elim id id) (by rw [joinB_length]; omega) fun b h => h.2
      have HJ := Lib.hid hj
      obtain ⟨R, hR⟩ : ∃ R, R = l.map (tHeader).enc := ⟨_, rfl⟩
      have HR := Lib.hid hR
      rw [← hR] at hB HJ
      obtain ⟨Aa, ca, rfl⟩ := hB.form
      clear hj hB hR hsm
      go_wp2_with fail
      refine HJ.out.mono ?_
      rintro e w1 ⟨v1, rfl, f1⟩
      go_wp2_with fail
      go_ret
      refine ⟨v1, rfl, ?_, hbl.trans (f1.2.mono hbl.size)⟩
      have := f1.1.sub (T := fun b => w.heap.size ≤ b ∧ Th w1 b) fun b hb _ => ⟨Nat.le_trans hbl.size hb.1, hb.2⟩
      rw [HR.out] at this
      exact this
end
section
open Go.RowKit Go.Maps
attribute [-simp] Tryz.isAgg37 Tryz.typeInfo37 Tryz.isAgg88 Tryz.typeInfo88
set_option maxHeartbeats 4000000 in
set_option maxRecDepth 100000 in
theorem commit_any (w : World) {S : Nat → Prop} {x : tCommit.El} {cs : List Value} (h : tCommit.rep w S x cs) (hl : (tCommit.enc x).length ≤ 1099511627776) :
    Calls Tryz.prog 63 #[.agg cs.toArray] w fun e w' => ∃ v', e = .returned v' ∧ Fresh w w' v' (tCommit.enc x) := by
  obtain ⟨x0, x1, _⟩ := x
  obtain ⟨c0, _, rfl, r0, c1, _, rfl, r1, rfl⟩ := h
  obtain ⟨y0, rfl⟩ : ∃ y, c0 = [y] := by obtain ⟨v, _, e, _⟩ := r0; exact ⟨v, e⟩
  have l1 : c1.length = 37 := Sh.rep_size _ _ _ r1
  obtain ⟨y1, hy1⟩ : ∃ y, y = c1 := ⟨_, rfl⟩
  subst hy1
  have R0 := Lib.hid r0; clear r0
  have R1 := Lib.hid r1; clear r1
  obtain ⟨C, hC⟩ : ∃ C, C = [y0] ++ (y1 ++ ([])) := ⟨_, rfl⟩
  rw [← hC]
  have hf : ∀ w', Blk w' w.heap.size 90 C.toArray → w'.cell? ⟨w.heap.size, 0, none⟩ = some y0 ∧ w'.rangeAt w.heap.size 1 y1 := fun w' hb => by
    have := hb.lies [[y0], y1] [] (by rw [hC]; simp)
    simp only [Lies, List.length_cons, List.length_nil] at this
    obtain ⟨s0, s1, _⟩ := this
    exact ⟨Lies.one s0, s1⟩
  have HF := Lib.hid hf
  clear hf hC
  have hrows : tCommit.enc (x0, x1, ()) = joinB [(Sh.list tHeader).enc x0, tQC.enc x1] := rfl
  have hl' : (joinB [(Sh.list tHeader).enc x0, tQC.enc x1]).length ≤ 1099511627776 := hl
  have HLL := Lib.hid hl'
  clear hl hl'
  go_enter Tryz.func63, Tryz.ntmps63
  go_wp2_with fail
  have hsz : w.heap.size < w.heap.size + 1 := by omega
  refine wp_region_hoist [0, 1, 3, 4] [2, 5] [6, 7, 8] (fun w' => Blk w' w.heap.size 90 C.toArray)
    (by kernel_rfl) (by kernel_rfl) (by kernel_rfl) (by kernel_rfl) (by kernel_rfl) (by kernel_rfl) (Blk.new w _ _).drew ?_
  (refine HoistK.yes (by rfl) (by kernel_rfl) ⟨?_, fun w' hSw => ?_, ?_⟩; rotate_left; (· go_simp; try with_reducible rfl); simp only [Act.put, setIfInBounds_toArray, getElem_toArray, getElem_cons_zero, set_cons_succ, set_cons_zero])
  (refine HoistK.yes (by rfl) (by kernel_rfl) ⟨?_, fun w' hSw => ?_, ?_⟩; rotate_left; (· obtain ⟨s0, s1⟩ := HF.out _ hSw; go_simp; try with_reducible rfl); simp only [Act.put, setIfInBounds_toArray, getElem_toArray, getElem_cons_succ, getElem_cons_zero, set_cons_succ, set_cons_zero])
  (refine HoistK.yes (by rfl) (by kernel_rfl) ⟨?_, fun w' hSw => ?_, ?_⟩; rotate_left; (· go_simp; try with_reducible rfl); simp only [Act.put, setIfInBounds_toArray, getElem_toArray, getElem_cons_succ, getElem_cons_zero, set_cons_succ, set_cons_zero])
  (refine HoistK.load (by rfl) (by kernel_rfl) 88 _ rfl w.heap.size 1 rfl (y1) _ (fun w' hw => (HF.out w' hw).2) Tryz.underlying88 rfl (by rw [l1]; kernel_rfl) ?_; simp only [Act.put, setIfInBounds_toArray, getElem_toArray, getElem_cons_succ, getElem_cons_zero, set_cons_succ, set_cons_zero])
  refine HoistK.nil_ ?_
  simp only [opsAt, filterMap_cons, filterMap_nil, getElem?_toArray, getElem?_cons_succ, getElem?_cons_zero]
  have hb0 : Blk (w.alloc (.cells C.toArray 90)).drew w.heap.size 90 C.toArray := (Blk.new w _ _).drew
  have g0 : Got w (w.alloc (.cells C.toArray 90)).drew [] [] := Got.start ((Below.refl _ w).alloc (Nat.le_refl _) _).drew
  refine Effects.cons_ fun _ hQ1 => ?_
  go_wp2_with fail
  refine (listHeader_any _ (Sh.rep_below R0.out g0.1) (by have h1 := HLL.out; rw [joinB_length] at h1; have h2 := joinP_mem (l := [(Sh.list tHeader).enc x0, tQC.enc x1]) (x := (Sh.list tHeader).enc x0) (by simp); omega)).mono ?_
  rintro e w1 ⟨v1, rfl, f1⟩
  have g1 := g0.step f1
  have hb1 := hb0.below f1.2 hb0.lt
  clear f1
  go_wp2_with fail
  refine hQ1 _ _ hb1 (Effects.cons_ fun _ hQ2 => ?_)
  clear hQ1 hb0 g0
  go_wp2_with fail
  refine (qc_any _ (Sh.rep_below R1.out g1.1) (by have h1 := HLL.out; rw [joinB_length] at h1; have h2 := joinP_mem (l := [(Sh.list tHeader).enc x0, tQC.enc x1]) (x := tQC.enc x1) (by simp); omega)).mono ?_
  rintro e w2 ⟨v2, rfl, f2⟩
  have g2 := g1.step f2
  have hb2 := hb1.below f2.2 hb1.lt
  clear f2
  go_wp2_with fail
  refine hQ2 _ _ hb2 (Effects.nil_ fun _ hQ3 => ?_)
  clear hQ2 hb1 g1
  have hcs : ∀ v ∈ [v1, v2], v.cells = #[v] := fun v hv => by
    obtain ⟨i, hi, rfl⟩ := List.getElem_of_mem hv
    obtain ⟨y, _, hr⟩ := g2.2.get i hi
    obtain ⟨A, c, e⟩ := hr.form
    have e' : [v1, v2][i] = .slice A y.length c := e
    rw [e']; rfl
  refine wpList_rows rfl 2 _ rfl [v1, v2] rfl (by decide) (by decide) hcs (by simp [Act.eval]) ?_
  have hr : Bsr (w2.alloc (.cells [v1, v2].toArray 77)) (fun b => b < w2.heap.size + 1) (.slice (some ⟨w2.heap.size, 0, none⟩) 2 2) [(Sh.list tHeader).enc x0, tQC.enc x1] := g2.row (by simp [maxLen]) 77
  have hj := join_any _ hr (by have := HLL.out; omega) (fun b hb => by simpa using hb)
  have hbb : Below w.heap.size w (w2.alloc (.cells [v1, v2].toArray 77)) := g2.1.alloc g2.1.size _
  have HJ := Lib.hid hj
  have HBB := Lib.hid hbb
  clear hj hbb hr g2 hcs
  go_wp2_with fail
  refine HJ.out.mono ?_
  rintro e w3 ⟨v3, rfl, f3⟩
  go_wp2_with fail
  go_ret
  exact ⟨v3, rfl, f3.1.sub fun b hb _ => ⟨Nat.le_trans HBB.out.size hb.1, hb.2⟩, HBB.out.trans (f3.2.mono HBB.out.size)⟩
end
section
open Go.RowKit Go.Maps
theorem truth_any (w : World) (b : Bool) : Calls Tryz.prog 64 #[.bool b] w fun e w' => ∃ v', e = .returned v' ∧ Fresh w w' v' (truthB b) := by
  have hn : ∀ x : UInt8, Bs (w.alloc (.cells #[.int .u8 x.toNat] 5)) (fun b => b = w.heap.size) (.slice (some ⟨w.heap.size, 0, none⟩) 1 1) [x] := fun x => Bs.of_new w 5 [x] (by simp) (0, 0)
  have HN := Lib.hid hn; clear hn
  have hbl : ∀ o : Obj, Below w.heap.size w (w.alloc o) := fun o => (Below.refl _ w).alloc (Nat.le_refl _) o
  cases b
  · go_enter Tryz.func64, Tryz.ntmps64
    go_wp2
    go_ret
    exact ⟨_, rfl, (HN.out 0).sub (fun b hb _ => ⟨Nat.le_of_eq hb.symm, by subst hb; exact ⟨_, _, Blk.new w _ _⟩⟩), hbl _⟩
  · go_enter Tryz.func64, Tryz.ntmps64
    go_wp2
    go_ret
    exact ⟨_, rfl, (HN.out 1).sub (fun b hb _ => ⟨Nat.le_of_eq hb.symm, by subst hb; exact ⟨_, _, Blk.new w _ _⟩⟩), hbl _⟩
end
section
open Go.RowKit Go.Maps
attribute [-simp] Tryz.isAgg37 Tryz.typeInfo37 Tryz.isAgg90 Tryz.typeInfo90
set_option maxHeartbeats 4000000 in
set_option maxRecDepth 100000 in
theorem fact_any (w : World) {S : Nat → Prop} {x : tFact.El} {cs : List Value} (h : tFact.rep w S x cs) (hl : (tFact.enc x).length ≤ 1099511627776) :
    Calls Tryz.prog 51 #[.agg cs.toArray] w fun e w' => ∃ v', e = .returned v' ∧ Fresh w w' v' (tFact.enc x) := by
  obtain ⟨x0, x1, x2, x3, x4, _⟩ := x
  obtain ⟨c0, _, rfl, r0, c1, _, rfl, ⟨rfl, l1⟩, c2, _, rfl, ⟨y2, rfl, r2⟩, c3, _, rfl, rfl, c4, _, rfl, ⟨y4, rfl, r4⟩, rfl⟩ := h
  have l0 : c0.length = 38 := Sh.rep_size _ _ _ r0
  obtain ⟨y0, hy0⟩ : ∃ y, y = c0 := ⟨_, rfl⟩
  subst hy0
  have R0 := Lib.hid r0; clear r0
  have R2 := Lib.hid r2; clear r2
  have R4 := Lib.hid r4; clear r4
  obtain ⟨C, hC⟩ : ∃ C, C = y0 ++ (u8s x1 ++ ([y2] ++ ([Value.bool x3] ++ ([y4] ++ ([]))))) := ⟨_, rfl⟩
  rw [← hC]
  have hf : ∀ w', Blk w' w.heap.size 92 C.toArray → w'.rangeAt w.heap.size 0 y0 ∧ w'.rangeAt w.heap.size 38 (u8s x1) ∧ w'.cell? ⟨w.heap.size, 70, none⟩ = some y2 ∧ w'.cell? ⟨w.heap.size, 71, none⟩ = some (.bool x3) ∧ w'.cell? ⟨w.heap.size, 72, none⟩ = some y4 := fun w' hb => by
    have := hb.lies [y0, u8s x1, [y2], [Value.bool x3], [y4]] [] (by rw [hC]; simp)
    simp only [Lies, u8s_length, l0, l1, List.length_cons, List.length_nil] at this
    obtain ⟨s0, s1, s2, s3, s4, _⟩ := this
    exact ⟨s0, s1, Lies.one s2, Lies.one s3, Lies.one s4⟩
  have HF := Lib.hid hf
  clear hf hC
  have hrows : tFact.enc (x0, x1, x2, x3, x4, ()) = joinB [tCommit.enc x0, x1, x2, truthB x3, x4] := rfl
  have hl' : (joinB [tCommit.enc x0, x1, x2, truthB x3, x4]).length ≤ 1099511627776 := hl
  have HLL := Lib.hid hl'
  clear hl hl'
  go_enter Tryz.func51, Tryz.ntmps51
  go_wp2_with fail
  have hsz : w.heap.size < w.heap.size + 1 := by omega
  refine wp_region_hoist [0, 1, 3, 4, 6, 7, 8, 9, 11, 12] [2, 5, 10] [13, 14, 15] (fun w' => Blk w' w.heap.size 92 C.toArray)
    (by kernel_rfl) (by kernel_rfl) (by kernel_rfl) (by kernel_rfl) (by kernel_rfl) (by kernel_rfl) (Blk.new w _ _).drew ?_
  (refine HoistK.yes (by rfl) (by kernel_rfl) ⟨?_, fun w' hSw => ?_, ?_⟩; rotate_left; (· go_simp; try with_reducible rfl); simp only [Act.put, setIfInBounds_toArray, getElem_toArray, getElem_cons_zero, set_cons_succ, set_cons_zero])
  (refine HoistK.load (by rfl) (by kernel_rfl) 90 _ rfl w.heap.size 0 rfl (y0) _ (fun w' hw => (HF.out w' hw).1) Tryz.underlying90 rfl (by rw [l0]; kernel_rfl) ?_; simp only [Act.put, setIfInBounds_toArray, getElem_toArray, getElem_cons_succ, getElem_cons_zero, set_cons_succ, set_cons_zero])
  (refine HoistK.yes (by rfl) (by kernel_rfl) ⟨?_, fun w' hSw => ?_, ?_⟩; rotate_left; (· go_simp; try with_reducible rfl); simp only [Act.put, setIfInBounds_toArray, getElem_toArray, getElem_cons_succ, getElem_cons_zero, set_cons_succ, set_cons_zero])
  (refine HoistK.load (by rfl) (by kernel_rfl) 37 _ rfl w.heap.size 38 rfl (u8s x1) _ (fun w' hw => (HF.out w' hw).2.1) Tryz.underlying37 rfl (by rw [u8s_length, l1]; kernel_rfl) ?_; simp only [Act.put, setIfInBounds_toArray, getElem_toArray, getElem_cons_succ, getElem_cons_zero, set_cons_succ, set_cons_zero])
  (refine HoistK.yes (by rfl) (by kernel_rfl) ⟨?_, fun w' hSw => ?_, ?_⟩; rotate_left; (· go_simp; try with_reducible rfl); simp only [Act.put, setIfInBounds_toArray, getElem_toArray, getElem_cons_succ, getElem_cons_zero, set_cons_succ, set_cons_zero])
  (refine HoistK.yes (by rfl) (by kernel_rfl) ⟨?_, fun w' hSw => ?_, ?_⟩; rotate_left; (· obtain ⟨s0, s1, s2, s3, s4⟩ := HF.out _ hSw; go_simp; try with_reducible rfl); simp only [Act.put, setIfInBounds_toArray, getElem_toArray, getElem_cons_succ, getElem_cons_zero, set_cons_succ, set_cons_zero])
  (refine HoistK.yes (by rfl) (by kernel_rfl) ⟨?_, fun w' hSw => ?_, ?_⟩; rotate_left; (· go_simp; try with_reducible rfl); simp only [Act.put, setIfInBounds_toArray, getElem_toArray, getElem_cons_succ, getElem_cons_zero, set_cons_succ, set_cons_zero])
  (refine HoistK.yes (by rfl) (by kernel_rfl) ⟨?_, fun w' hSw => ?_, ?_⟩; rotate_left; (· obtain ⟨s0, s1, s2, s3, s4⟩ := HF.out _ hSw; go_simp; try with_reducible rfl); simp only [Act.put, setIfInBounds_toArray, getElem_toArray, getElem_cons_succ, getElem_cons_zero, set_cons_succ, set_cons_zero])
  (refine HoistK.yes (by rfl) (by kernel_rfl) ⟨?_, fun w' hSw => ?_, ?_⟩; rotate_left; (· go_simp; try with_reducible rfl); simp only [Act.put, setIfInBounds_toArray, getElem_toArray, getElem_cons_succ, getElem_cons_zero, set_cons_succ, set_cons_zero])
  (refine HoistK.yes (by rfl) (by kernel_rfl) ⟨?_, fun w' hSw => ?_, ?_⟩; rotate_left; (· obtain ⟨s0, s1, s2, s3, s4⟩ := HF.out _ hSw; go_simp; try with_reducible rfl); simp only [Act.put, setIfInBounds_toArray, getElem_toArray, getElem_cons_succ, getElem_cons_zero, set_cons_succ, set_cons_zero])
  refine HoistK.nil_ ?_
  simp only [opsAt, filterMap_cons, filterMap_nil, getElem?_toArray, getElem?_cons_succ, getElem?_cons_zero]
  have hb0 : Blk (w.alloc (.cells C.toArray 92)).drew w.heap.size 92 C.toArray := (Blk.new w _ _).drew
  have g0 : Got w (w.alloc (.cells C.toArray 92)).drew [] [] := Got.start ((Below.refl _ w).alloc (Nat.le_refl _) _).drew
  refine Effects.cons_ fun _ hQ1 => ?_
  go_wp2_with fail
  refine (commit_any _ (Sh.rep_below R0.out g0.1) (by have h1 := HLL.out; rw [joinB_length] at h1; have h2 := joinP_mem (l := [tCommit.enc x0, x1, x2, truthB x3, x4]) (x := tCommit.enc x0) (by simp); omega)).mono ?_
  rintro e w1 ⟨v1, rfl, f1⟩
  have g1 := g0.step f1
  have hb1 := hb0.below f1.2 hb0.lt
  clear f1
  go_wp2_with fail
  refine hQ1 _ _ hb1 (Effects.cons_ fun _ hQ2 => ?_)
  clear hQ1 hb0 g0
  go_wp2_with fail
  refine (digest_any _ _ l1).mono ?_
  rintro e w2 ⟨v2, rfl, f2⟩
  have g2 := g1.step f2
  have hb2 := hb1.below f2.2 hb1.lt
  clear f2
  go_wp2_with fail
  refine hQ2 _ _ hb2 (Effects.cons_ fun _ hQ3 => ?_)
  clear hQ2 hb1 g1
  have g3 := g2.old R2.out
  clear g2
  go_wp2_with fail
  refine (truth_any _ _).mono ?_
  rintro e w3 ⟨v4, rfl, f3⟩
  have g4 := g3.step f3
  have hb3 := hb2.below f3.2 hb2.lt
  clear f3
  go_wp2_with fail
  refine hQ3 _ _ hb3 (Effects.nil_ fun _ hQ4 => ?_)
  clear hQ3 hb2 g3
  have g5 := g4.old R4.out
  clear g4
  have hcs : ∀ v ∈ [v1, v2, y2, v4, y4], v.cells = #[v] := fun v hv => by
    obtain ⟨i, hi, rfl⟩ := List.getElem_of_mem hv
    obtain ⟨y, _, hr⟩ := g5.2.get i hi
    obtain ⟨A, c, e⟩ := hr.form
    have e' : [v1, v2, y2, v4, y4][i] = .slice A y.length c := e
    rw [e']; rfl
  refine wpList_rows rfl 5 _ rfl [v1, v2, y2, v4, y4] rfl (by decide) (by decide) hcs (by simp [Act.eval]) ?_
  have hr : Bsr (w3.alloc (.cells [v1, v2, y2, v4, y4].toArray 77)) (fun b => b < w3.heap.size + 1) (.slice (some ⟨w3.heap.size, 0, none⟩) 5 5) [tCommit.enc x0, x1, x2, truthB x3, x4] := g5.row (by simp [maxLen]) 77
  have hj := join_any _ hr (by have := HLL.out; omega) (fun b hb => by simpa using hb)
  have hbb : Below w.heap.size w (w3.alloc (.cells [v1, v2, y2, v4, y4].toArray 77)) := g5.1.alloc g5.1.size _
  have HJ := Lib.hid hj
  have HBB := Lib.hid hbb
  clear hj hbb hr g5 hcs
  go_wp2_with fail
  refine HJ.out.mono ?_
  rintro e w4 ⟨v6, rfl, f4⟩
  go_wp2_with fail
  go_ret
  exact ⟨v6, rfl, f4.1.sub fun b hb _ => ⟨Nat.le_trans HBB.out.size hb.1, hb.2⟩, HBB.out.trans (f4.2.mono HBB.out.size)⟩
end
section
open Go.RowKit Go.Maps
attribute [-simp] Tryz.isAgg37 Tryz.typeInfo37 Tryz.isAgg92 Tryz.typeInfo92
set_option maxHeartbeats 2000000 in
set_option maxRecDepth 100000 in
theorem listFact_any (w : World) {S : Nat → Prop} {v : Value} {l : List (tFact).El} (h : (Sh.list tFact).rep w S l [v]) (hl : ((Sh.list tFact).enc l).length ≤ 1099511627776) :
    Calls Tryz.prog 50 #[v, .func (Fn.func 51) #[] #[]] w fun e w' => ∃ v', e = .returned v' ∧ Fresh w w' v' ((Sh.list tFact).enc l) := by
  obtain ⟨A, cap, rfl, hlen, hat⟩ := list_at h
  have H := Lib.hid h; clear h
  have hl' : (joinB (l.map (tFact).enc)).length ≤ 1099511627776 := hl
  have hcnt := joinP_count (l.map (tFact).enc)
  rw [joinB_length] at hl'
  rw [List.length_map] at hcnt
  have HLL := Lib.hid hl
  clear hl hat
  go_enter Tryz.func50, Tryz.ntmps50
  go_wp2_with fail
  go_loopw [5, 10] (fun a i wr => ∃ k : Nat, k ≤ l.length ∧ i = .int .i64 k ∧ Bss wr (fun b => w.heap.size ≤ b) (fun b => w.heap.size ≤ b) a ((l.take k).map (tFact).enc) ∧ Below w.heap.size w wr) (fun _ i _ => l.length - (intOf i).toNat)
  case atStart => exact ⟨0, Nat.zero_le _, rfl, Bss.nil_ _ _ _, Below.refl _ _⟩
  case round =>
    obtain ⟨k, hk, rfl, hB, hbl⟩ := hrel
    by_cases hlt : k < l.length
    · obtain ⟨R, hR⟩ : ∃ R, R = (l.take k).map (tFact).enc := ⟨_, rfl⟩
      rw [← hR] at hB
      have hRl : R.length = k := by rw [hR, List.length_map, List.length_take]; omega
      have hnext : (l.take (k + 1)).map (tFact).enc = R ++ [(tFact).enc l[k]] := by rw [List.take_succ_eq_append_getElem hlt, List.map_append, ← hR]; rfl
      obtain ⟨Aa, ca, rfl⟩ := hB.form
      obtain ⟨_, _, e, _, hat⟩ := list_at (Sh.rep_below H.out hbl)
      injection e with e1 e2 e3
      subst e1 e3
      obtain ⟨b, off, c, rfl, hca, hr, hcl, _, _⟩ := hat k hlt
      obtain ⟨x, hx⟩ : ∃ x, x = l[k] := ⟨_, rfl⟩
      rw [← hx] at hr hnext
      have hsm2 : ((tFact).enc x).length ≤ 1099511627776 := by
        have h1 := joinP_mem (List.mem_map.2 ⟨l[k], List.getElem_mem hlt, rfl⟩ : (tFact).enc l[k] ∈ l.map (tFact).enc)
        rw [hx]; omega
      have hinfo : (Tryz.prog.info? 92).map (·.size) = some c.length := by rw [hcl]; kernel_rfl
      have HC1 := Lib.hid (Sh.rep_one _ _ _ hr)
      have HCA := Lib.hid (show wr.rangeAt b (off + k * 73) c from hca)
      have HI := Lib.hid hinfo
      have HCL := Lib.hid hcl
      have HREP := Lib.hid hr
      have HSM := Lib.hid hsm2
      clear hinfo hr hsm2
      have hown : ∀ k, (Value.slice Aa R.length ca).ownBlock = some k → k < wr.heap.size := fun k hk => by obtain ⟨vs, ho, _⟩ := hB; exact own_lt ho hk
      have HB := Lib.hid hB
      have HN := Lib.hid hnext
      have HRL := Lib.hid hRl
      have HOWN := Lib.hid hown
      clear hB hca hcl hat hx hR hnext hRl hown
      go_wp2_with (first | (refine wpList_load_mid rfl 92 _ rfl b (off + k * 73) rfl c _ HCA.out Tryz.underlying92 rfl HI.out ?_) | (refine wpList_store_blk (cs0 := [.slice none 0 0] ++ ([.int .i64 0, .int .i64 0, .int .i64 0] ++ List.replicate 32 (.int .u8 0) ++ [.slice none 0 0, .slice none 0 0]) ++ List.replicate 32 (.int .u8 0) ++ [.slice none 0 0, .bool false, .slice none 0 0]) (cs := c) rfl 92 _ _ rfl (Blk.new wr _ _) rfl rfl (by rw [HCL.out]; rfl) HI.out HC1.out ?_; intro w4 hb4 hc4; have HB4 := Lib.hid hb4; have HC4 := Lib.hid hc4; clear hb4 hc4) | (refine wpList_load_blk' rfl 92 _ rfl HB4.out rfl Tryz.underlying92 rfl HI.out ?_))
      have hbw4 : Below wr.heap.size wr w4 := ((Below.refl _ wr).alloc (Nat.le_refl _) _).trans (HC4.out.below (by simp) fun b hb => Nat.le_of_eq hb.symm)
      have hr := Sh.rep_below HREP.out hbw4
      refine (fact_any _ hr HSM.out).mono ?_
      rintro e w1 ⟨v1, rfl, f4⟩
      have f1 : Fresh wr w1 v1 _ := ⟨f4.1.sub fun b hb _ => ⟨Nat.le_trans hbw4.size hb.1, hb.2⟩, hbw4.trans (f4.2.mono hbw4.size)⟩
      clear f4 hr
      have hb1 := hbl.trans (f1.2.mono hbl.size)
      obtain ⟨y, hy⟩ : ∃ y, y = (tFact).enc x := ⟨_, rfl⟩
      have f1 : Fresh wr w1 v1 y := hy ▸ f1
      rw [← hy] at HN
      obtain ⟨A1, c1, rfl⟩ := f1.1.form
      obtain ⟨vs, ho, hS, hr⟩ := HB.out.below f1.2
      have hsz1 := f1.2.size
      have hal : Below w1.heap.size w1 (w1.alloc (.cells #[.slice A1 y.length c1] 77)) := (Below.refl _ w1).alloc (Nat.le_refl _) _
      have HAL := Lib.hid hal
      have HO := Lib.hid (show Own (w1.alloc (.cells #[.slice A1 y.length c1] 77)) _ _ _ _ _ from own_keep ho fun k hk => hal.block k (own_lt ho hk))
      have HS := Lib.hid hS
      have HR := Lib.hid (fun i x u h1 h2 => (hr i x u h1 h2).below hal)
      have HU := Lib.hid ((f1.1.1.below hal).sub (T := fun b => w.heap.size ≤ b ∧ (Value.slice Aa R.length ca).ownBlock ≠ some b) fun b hb _ => ⟨Nat.le_trans hbl.size hb.1, fun e => by have := HOWN.out b e; omega⟩)
      have HS2 := Lib.hid (Cs.of_new w1 77 (size := 1) 1 (cs := [.slice A1 y.length c1]) rfl (by simp only [maxLen]; decide))
      have H63 := Lib.hid (show R.length + 1 ≤ maxLen ∧ (R.length + 1) * 24 ≤ 140737488355328 from by have := HRL.out; refine ⟨by simp only [maxLen]; omega, by omega⟩)
      clear ho hS hr hal f1 hy
      go_wp2_with (at_builtin; refine wpList_app _ rfl _ _ _ rfl Tryz.underlying107 info_row rfl (by decide) HO.out rfl HS2.out rfl (by simp [Value.oneCell']) H63.out.1 H63.out.2 ?_; intro v3 w3 ho3 hg3 hnil3 hat3; clear hnil3; have HO3 := Lib.hid ho3; clear ho3; have HG3 := Lib.hid hg3; clear hg3; have HAT3 := Lib.hid hat3; clear hat3)
      have hpush := Bss.push HO.out HS.out HR.out HU.out HO3.out HG3.out HAT3.out (by have := hb1.size; have := HAL.out.size; omega)
      rw [← HN.out] at hpush
      refine ⟨⟨k + 1, by omega, by push_cast; rfl, hpush, (hb1.trans (HAL.out.mono hb1.size)).trans (HG3.out.below (Nat.le_trans hb1.size HAL.out.size) fun b h => HS.out b h)⟩, ?_⟩
      simp only [intOf]
      omega
    · have hk' : k = l.length := by omega
      rw [hk', List.take_length] at hB
      have hsm : ∀ x ∈ l.map (tFact).enc, x.length ≤ 140737488355328 := fun x hx => by have := joinP_mem hx; omega
      have hj := join_any _ ((hB.read hsm).lt_ (T := fun b => w.heap.size ≤ b) fun b h => h.elim id id) (by rw [joinB_length]; omega) fun b h => h.2
      have HJ := Lib.hid hj
      obtain ⟨R, hR⟩ : ∃ R, R = l.map (tFact).enc := ⟨_, rfl⟩
      have HR := Lib.hid hR
      rw [← hR] at hB HJ
      obtain ⟨Aa, ca, rfl⟩ := hB.form
      clear hj hB hR hsm
      go_wp2_with fail
      refine HJ.out.mono ?_
      rintro e w1 ⟨v1, rfl, f1⟩
      go_wp2_with fail
      go_ret
      refine ⟨v1, rfl, ?_, hbl.trans (f1.2.mono hbl.size)⟩
      have := f1.1.sub (T := fun b => w.heap.size ≤ b ∧ Th w1 b) fun b hb _ => ⟨Nat.le_trans hbl.size hb.1, hb.2⟩
      rw [HR.out] at this
      exact this
end
section
open Go.RowKit Go.Maps
attribute [-simp] Tryz.isAgg37 Tryz.typeInfo37
set_option maxHeartbeats 4000000 in
set_option maxRecDepth 100000 in
theorem tx_any (w : World) {S : Nat → Prop} {x : tTx.El} {cs : List Value} (h : tTx.rep w S x cs) (hl : (tTx.enc x).length ≤ 1099511627776) :
    Calls Tryz.prog 30 #[.agg cs.toArray] w fun e w' => ∃ v', e = .returned v' ∧ Fresh w w' v' (tTx.enc x) := by
  obtain ⟨x0, x1, x2, x3, x4, x5, x6, x7, x8, x9, _⟩ := x
  obtain ⟨c0, _, rfl, ⟨rfl, _⟩, c1, _, rfl, ⟨rfl, q1⟩, c2, _, rfl, ⟨rfl, q2⟩, c3, _, rfl, ⟨rfl, q3⟩, c4, _, rfl, ⟨rfl, q4⟩, c5, _, rfl, ⟨rfl, _⟩, c6, _, rfl, ⟨rfl, _⟩, c7, _, rfl, ⟨rfl, l7⟩, c8, _, rfl, ⟨rfl, _⟩, c9, _, rfl, r9, rfl⟩ := h
  obtain ⟨y9, rfl⟩ : ∃ y, c9 = [y] := by obtain ⟨v, _, e, _⟩ := r9; exact ⟨v, e⟩
  have R9 := Lib.hid r9; clear r9
  have Q1 := Lib.hid q1; clear q1
  have Q2 := Lib.hid q2; clear q2
  have Q3 := Lib.hid q3; clear q3
  have Q4 := Lib.hid q4; clear q4
  simp only [nk_t, nk_f]
  obtain ⟨C, hC⟩ : ∃ C, C = [Value.int .i64 x0] ++ ([Value.int .u64 x1] ++ ([Value.int .u64 x2] ++ ([Value.int .u64 x3] ++ ([Value.int .u64 x4] ++ ([Value.int .i64 x5] ++ ([Value.int .i64 x6] ++ (u8s x7 ++ ([Value.int .i64 x8] ++ ([y9] ++ ([])))))))))) := ⟨_, rfl⟩
  rw [← hC]
  have hf : ∀ w', Blk w' w.heap.size 40 C.toArray → w'.cell? ⟨w.heap.size, 0, none⟩ = some (.int .i64 x0) ∧ w'.cell? ⟨w.heap.size, 1, none⟩ = some (.int .u64 x1) ∧ w'.cell? ⟨w.heap.size, 2, none⟩ = some (.int .u64 x2) ∧ w'.cell? ⟨w.heap.size, 3, none⟩ = some (.int .u64 x3) ∧ w'.cell? ⟨w.heap.size, 4, none⟩ = some (.int .u64 x4) ∧ w'.cell? ⟨w.heap.size, 5, none⟩ = some (.int .i64 x5) ∧ w'.cell? ⟨w.heap.size, 6, none⟩ = some (.int .i64 x6) ∧ w'.rangeAt w.heap.size 7 (u8s x7) ∧ w'.cell? ⟨w.heap.size, 39, none⟩ = some (.int .i64 x8) ∧ w'.cell? ⟨w.heap.size, 40, none⟩ = some y9 := fun w' hb => by
    have := hb.lies [[Value.int .i64 x0], [Value.int .u64 x1], [Value.int .u64 x2], [Value.int .u64 x3], [Value.int .u64 x4], [Value.int .i64 x5], [Value.int .i64 x6], u8s x7, [Value.int .i64 x8], [y9]] [] (by rw [hC]; simp)
    simp only [Lies, u8s_length, l7, List.length_cons, List.length_nil] at this
    obtain ⟨s0, s1, s2, s3, s4, s5, s6, s7, s8, s9, _⟩ := this
    exact ⟨Lies.one s0, Lies.one s1, Lies.one s2, Lies.one s3, Lies.one s4, Lies.one s5, Lies.one s6, s7, Lies.one s8, Lies.one s9⟩
  have HF := Lib.hid hf
  clear hf hC
  have hrows : tTx.enc (x0, x1, x2, x3, x4, x5, x6, x7, x8, x9, ()) = joinB [numB x0, numB x1, numB x2, numB x3, numB x4, numB x5, numB x6, x7, numB x8, (Sh.list tFact).enc x9] := rfl
  have hl' : (joinB [numB x0, numB x1, numB x2, numB x3, numB x4, numB x5, numB x6, x7, numB x8, (Sh.list tFact).enc x9]).length ≤ 1099511627776 := hl
  have HLL := Lib.hid hl'
  clear hl hl'
  go_enter Tryz.func30, Tryz.ntmps30
  go_wp2_with fail
  have hsz : w.heap.size < w.heap.size + 1 := by omega
  refine wp_region_hoist [0, 1, 3, 4, 6, 7, 9, 10, 12, 13, 15, 16, 18, 19, 21, 22, 24, 25, 27, 28] [2, 5, 8, 11, 14, 17, 20, 23, 26, 29] [30, 31, 32] (fun w' => Blk w' w.heap.size 40 C.toArray)
    (by kernel_rfl) (by kernel_rfl) (by kernel_rfl) (by kernel_rfl) (by kernel_rfl) (by kernel_rfl) (Blk.new w _ _).drew ?_
  (refine HoistK.yes (by rfl) (by kernel_rfl) ⟨?_, fun w' hSw => ?_, ?_⟩; rotate_left; (· go_simp; try with_reducible rfl); simp only [Act.put, setIfInBounds_toArray, getElem_toArray, getElem_cons_zero, set_cons_succ, set_cons_zero])
  (refine HoistK.yes (by rfl) (by kernel_rfl) ⟨?_, fun w' hSw => ?_, ?_⟩; rotate_left; (· obtain ⟨s0, s1, s2, s3, s4, s5, s6, s7, s8, s9⟩ := HF.out _ hSw; go_simp; try with_reducible rfl); simp only [Act.put, setIfInBounds_toArray, getElem_toArray, getElem_cons_succ, getElem_cons_zero, set_cons_succ, set_cons_zero])
  (refine HoistK.yes (by rfl) (by kernel_rfl) ⟨?_, fun w' hSw => ?_, ?_⟩; rotate_left; (· go_simp; try with_reducible rfl); simp only [Act.put, setIfInBounds_toArray, getElem_toArray, getElem_cons_succ, getElem_cons_zero, set_cons_succ, set_cons_zero])
  (refine HoistK.yes (by rfl) (by kernel_rfl) ⟨?_, fun w' hSw => ?_, ?_⟩; rotate_left; (· obtain ⟨s0, s1, s2, s3, s4, s5, s6, s7, s8, s9⟩ := HF.out _ hSw; go_simp; try with_reducible rfl); simp only [Act.put, setIfInBounds_toArray, getElem_toArray, getElem_cons_succ, getElem_cons_zero, set_cons_succ, set_cons_zero])
  (refine HoistK.yes (by rfl) (by kernel_rfl) ⟨?_, fun w' hSw => ?_, ?_⟩; rotate_left; (· go_simp; try with_reducible rfl); simp only [Act.put, setIfInBounds_toArray, getElem_toArray, getElem_cons_succ, getElem_cons_zero, set_cons_succ, set_cons_zero])
  (refine HoistK.yes (by rfl) (by kernel_rfl) ⟨?_, fun w' hSw => ?_, ?_⟩; rotate_left; (· obtain ⟨s0, s1, s2, s3, s4, s5, s6, s7, s8, s9⟩ := HF.out _ hSw; go_simp; try with_reducible rfl); simp only [Act.put, setIfInBounds_toArray, getElem_toArray, getElem_cons_succ, getElem_cons_zero, set_cons_succ, set_cons_zero])
  (refine HoistK.yes (by rfl) (by kernel_rfl) ⟨?_, fun w' hSw => ?_, ?_⟩; rotate_left; (· go_simp; try with_reducible rfl); simp only [Act.put, setIfInBounds_toArray, getElem_toArray, getElem_cons_succ, getElem_cons_zero, set_cons_succ, set_cons_zero])
  (refine HoistK.yes (by rfl) (by kernel_rfl) ⟨?_, fun w' hSw => ?_, ?_⟩; rotate_left; (· obtain ⟨s0, s1, s2, s3, s4, s5, s6, s7, s8, s9⟩ := HF.out _ hSw; go_simp; try with_reducible rfl); simp only [Act.put, setIfInBounds_toArray, getElem_toArray, getElem_cons_succ, getElem_cons_zero, set_cons_succ, set_cons_zero])
  (refine HoistK.yes (by rfl) (by kernel_rfl) ⟨?_, fun w' hSw => ?_, ?_⟩; rotate_left; (· go_simp; try with_reducible rfl); simp only [Act.put, setIfInBounds_toArray, getElem_toArray, getElem_cons_succ, getElem_cons_zero, set_cons_succ, set_cons_zero])
  (refine HoistK.yes (by rfl) (by kernel_rfl) ⟨?_, fun w' hSw => ?_, ?_⟩; rotate_left; (· obtain ⟨s0, s1, s2, s3, s4, s5, s6, s7, s8, s9⟩ := HF.out _ hSw; go_simp; try with_reducible rfl); simp only [Act.put, setIfInBounds_toArray, getElem_toArray, getElem_cons_succ, getElem_cons_zero, set_cons_succ, set_cons_zero])
  (refine HoistK.yes (by rfl) (by kernel_rfl) ⟨?_, fun w' hSw => ?_, ?_⟩; rotate_left; (· go_simp; try with_reducible rfl); simp only [Act.put, setIfInBounds_toArray, getElem_toArray, getElem_cons_succ, getElem_cons_zero, set_cons_succ, set_cons_zero])
  (refine HoistK.yes (by rfl) (by kernel_rfl) ⟨?_, fun w' hSw => ?_, ?_⟩; rotate_left; (· obtain ⟨s0, s1, s2, s3, s4, s5, s6, s7, s8, s9⟩ := HF.out _ hSw; go_simp; try with_reducible rfl); simp only [Act.put, setIfInBounds_toArray, getElem_toArray, getElem_cons_succ, getElem_cons_zero, set_cons_succ, set_cons_zero])
  (refine HoistK.yes (by rfl) (by kernel_rfl) ⟨?_, fun w' hSw => ?_, ?_⟩; rotate_left; (· go_simp; try with_reducible rfl); simp only [Act.put, setIfInBounds_toArray, getElem_toArray, getElem_cons_succ, getElem_cons_zero, set_cons_succ, set_cons_zero])
  (refine HoistK.yes (by rfl) (by kernel_rfl) ⟨?_, fun w' hSw => ?_, ?_⟩; rotate_left; (· obtain ⟨s0, s1, s2, s3, s4, s5, s6, s7, s8, s9⟩ := HF.out _ hSw; go_simp; try with_reducible rfl); simp only [Act.put, setIfInBounds_toArray, getElem_toArray, getElem_cons_succ, getElem_cons_zero, set_cons_succ, set_cons_zero])
  (refine HoistK.yes (by rfl) (by kernel_rfl) ⟨?_, fun w' hSw => ?_, ?_⟩; rotate_left; (· go_simp; try with_reducible rfl); simp only [Act.put, setIfInBounds_toArray, getElem_toArray, getElem_cons_succ, getElem_cons_zero, set_cons_succ, set_cons_zero])
  (refine HoistK.load (by rfl) (by kernel_rfl) 37 _ rfl w.heap.size 7 rfl (u8s x7) _ (fun w' hw => (HF.out w' hw).2.2.2.2.2.2.2.1) Tryz.underlying37 rfl (by rw [u8s_length, l7]; kernel_rfl) ?_; simp only [Act.put, setIfInBounds_toArray, getElem_toArray, getElem_cons_succ, getElem_cons_zero, set_cons_succ, set_cons_zero])
  (refine HoistK.yes (by rfl) (by kernel_rfl) ⟨?_, fun w' hSw => ?_, ?_⟩; rotate_left; (· go_simp; try with_reducible rfl); simp only [Act.put, setIfInBounds_toArray, getElem_toArray, getElem_cons_succ, getElem_cons_zero, set_cons_succ, set_cons_zero])
  (refine HoistK.yes (by rfl) (by kernel_rfl) ⟨?_, fun w' hSw => ?_, ?_⟩; rotate_left; (· obtain ⟨s0, s1, s2, s3, s4, s5, s6, s7, s8, s9⟩ := HF.out _ hSw; go_simp; try with_reducible rfl); simp only [Act.put, setIfInBounds_toArray, getElem_toArray, getElem_cons_succ, getElem_cons_zero, set_cons_succ, set_cons_zero])
  (refine HoistK.yes (by rfl) (by kernel_rfl) ⟨?_, fun w' hSw => ?_, ?_⟩; rotate_left; (· go_simp; try with_reducible rfl); simp only [Act.put, setIfInBounds_toArray, getElem_toArray, getElem_cons_succ, getElem_cons_zero, set_cons_succ, set_cons_zero])
  (refine HoistK.yes (by rfl) (by kernel_rfl) ⟨?_, fun w' hSw => ?_, ?_⟩; rotate_left; (· obtain ⟨s0, s1, s2, s3, s4, s5, s6, s7, s8, s9⟩ := HF.out _ hSw; go_simp; try with_reducible rfl); simp only [Act.put, setIfInBounds_toArray, getElem_toArray, getElem_cons_succ, getElem_cons_zero, set_cons_succ, set_cons_zero])
  refine HoistK.nil_ ?_
  simp only [opsAt, filterMap_cons, filterMap_nil, getElem?_toArray, getElem?_cons_succ, getElem?_cons_zero]
  have hb0 : Blk (w.alloc (.cells C.toArray 40)).drew w.heap.size 40 C.toArray := (Blk.new w _ _).drew
  have g0 : Got w (w.alloc (.cells C.toArray 40)).drew [] [] := Got.start ((Below.refl _ w).alloc (Nat.le_refl _) _).drew
  refine Effects.cons_ fun _ hQ1 => ?_
  go_wp2_with fail
  refine (numInt_any _ _).mono ?_
  rintro e w1 ⟨v1, rfl, f1⟩
  have g1 := g0.step f1
  have hb1 := hb0.below f1.2 hb0.lt
  clear f1
  go_wp2_with fail
  refine hQ1 _ _ hb1 (Effects.cons_ fun _ hQ2 => ?_)
  clear hQ1 hb0 g0
  go_wp2_with fail
  refine (numU64_any _ _ Q1.out).mono ?_
  rintro e w2 ⟨v2, rfl, f2⟩
  have g2 := g1.step f2
  have hb2 := hb1.below f2.2 hb1.lt
  clear f2
  go_wp2_with fail
  refine hQ2 _ _ hb2 (Effects.cons_ fun _ hQ3 => ?_)
  clear hQ2 hb1 g1
  go_wp2_with fail
  refine (numU64_any _ _ Q2.out).mono ?_
  rintro e w3 ⟨v3, rfl, f3⟩
  have g3 := g2.step f3
  have hb3 := hb2.below f3.2 hb2.lt
  clear f3
  go_wp2_with fail
  refine hQ3 _ _ hb3 (Effects.cons_ fun _ hQ4 => ?_)
  clear hQ3 hb2 g2
  go_wp2_with fail
  refine (numU64_any _ _ Q3.out).mono ?_
  rintro e w4 ⟨v4, rfl, f4⟩
  have g4 := g3.step f4
  have hb4 := hb3.below f4.2 hb3.lt
  clear f4
  go_wp2_with fail
  refine hQ4 _ _ hb4 (Effects.cons_ fun _ hQ5 => ?_)
  clear hQ4 hb3 g3
  go_wp2_with fail
  refine (numU64_any _ _ Q4.out).mono ?_
  rintro e w5 ⟨v5, rfl, f5⟩
  have g5 := g4.step f5
  have hb5 := hb4.below f5.2 hb4.lt
  clear f5
  go_wp2_with fail
  refine hQ5 _ _ hb5 (Effects.cons_ fun _ hQ6 => ?_)
  clear hQ5 hb4 g4
  go_wp2_with fail
  refine (numInt_any _ _).mono ?_
  rintro e w6 ⟨v6, rfl, f6⟩
  have g6 := g5.step f6
  have hb6 := hb5.below f6.2 hb5.lt
  clear f6
  go_wp2_with fail
  refine hQ6 _ _ hb6 (Effects.cons_ fun _ hQ7 => ?_)
  clear hQ6 hb5 g5
  go_wp2_with fail
  refine (numInt64_any _ _).mono ?_
  rintro e w7 ⟨v7, rfl, f7⟩
  have g7 := g6.step f7
  have hb7 := hb6.below f7.2 hb6.lt
  clear f7
  go_wp2_with fail
  refine hQ7 _ _ hb7 (Effects.cons_ fun _ hQ8 => ?_)
  clear hQ7 hb6 g6
  go_wp2_with fail
  refine (digest_any _ _ l7).mono ?_
  rintro e w8 ⟨v8, rfl, f8⟩
  have g8 := g7.step f8
  have hb8 := hb7.below f8.2 hb7.lt
  clear f8
  go_wp2_with fail
  refine hQ8 _ _ hb8 (Effects.cons_ fun _ hQ9 => ?_)
  clear hQ8 hb7 g7
  go_wp2_with fail
  refine (numInt_any _ _).mono ?_
  rintro e w9 ⟨v9, rfl, f9⟩
  have g9 := g8.step f9
  have hb9 := hb8.below f9.2 hb8.lt
  clear f9
  go_wp2_with fail
  refine hQ9 _ _ hb9 (Effects.cons_ fun _ hQ10 => ?_)
  clear hQ9 hb8 g8
  go_wp2_with fail
  refine (listFact_any _ (Sh.rep_below R9.out g9.1) (by have h1 := HLL.out; rw [joinB_length] at h1; have h2 := joinP_mem (l := [numB x0, numB x1, numB x2, numB x3, numB x4, numB x5, numB x6, x7, numB x8, (Sh.list tFact).enc x9]) (x := (Sh.list tFact).enc x9) (by simp); omega)).mono ?_
  rintro e w10 ⟨v10, rfl, f10⟩
  have g10 := g9.step f10
  have hb10 := hb9.below f10.2 hb9.lt
  clear f10
  go_wp2_with fail
  refine hQ10 _ _ hb10 (Effects.nil_ fun _ hQ11 => ?_)
  clear hQ10 hb9 g9
  have hcs : ∀ v ∈ [v1, v2, v3, v4, v5, v6, v7, v8, v9, v10], v.cells = #[v] := fun v hv => by
    obtain ⟨i, hi, rfl⟩ := List.getElem_of_mem hv
    obtain ⟨y, _, hr⟩ := g10.2.get i hi
    obtain ⟨A, c, e⟩ := hr.form
    have e' : [v1, v2, v3, v4, v5, v6, v7, v8, v9, v10][i] = .slice A y.length c := e
    rw [e']; rfl
  refine wpList_rows rfl 10 _ rfl [v1, v2, v3, v4, v5, v6, v7, v8, v9, v10] rfl (by decide) (by decide) hcs (by simp [Act.eval]) ?_
  have hr : Bsr (w10.alloc (.cells [v1, v2, v3, v4, v5, v6, v7, v8, v9, v10].toArray 77)) (fun b => b < w10.heap.size + 1) (.slice (some ⟨w10.heap.size, 0, none⟩) 10 10) [numB x0, numB x1, numB x2, numB x3, numB x4, numB x5, numB x6, x7, numB x8, (Sh.list tFact).enc x9] := g10.row (by simp [maxLen]) 77
  have hj := join_any _ hr (by have := HLL.out; omega) (fun b hb => by simpa using hb)
  have hbb : Below w.heap.size w (w10.alloc (.cells [v1, v2, v3, v4, v5, v6, v7, v8, v9, v10].toArray 77)) := g10.1.alloc g10.1.size _
  have HJ := Lib.hid hj
  have HBB := Lib.hid hbb
  clear hj hbb hr g10 hcs
  go_wp2_with fail
  refine HJ.out.mono ?_
  rintro e w11 ⟨v11, rfl, f11⟩
  go_wp2_with fail
  go_ret
  exact ⟨v11, rfl, f11.1.sub fun b hb _ => ⟨Nat.le_trans HBB.out.size hb.1, hb.2⟩, HBB.out.trans (f11.2.mono HBB.out.size)⟩
end
section
open Go.RowKit Go.Maps
attribute [-simp] Tryz.isAgg34 Tryz.typeInfo34 Tryz.isAgg40 Tryz.typeInfo40 Tryz.isAgg37 Tryz.typeInfo37
theorem sizes_str : (Tryz.prog.info? 9).map (fun i => (i.zero.map (fun z => z.cells.size), i.size)) = some (some 1, 1) := by kernel_rfl
def AddOut (w : World) (g : Nat) (v : Value) (most : Nat) (_L : List (List UInt8)) (r : Int) (L' : List (List UInt8)) (e : Ending) (w' : World) : Prop :=
  e = .returned (.int .i64 r) ∧ ∃ v', PoolI w' g v' most L' ∧ Chg (fun b => b = g ∨ v.ownBlock = some b) w w' ∧ (v'.ownBlock = v.ownBlock ∨ ∃ k, v'.ownBlock = some k ∧ w.heap.size ≤ k)
theorem AddOut.none_ {w w' : World} {g most : Nat} {v : Value} {L : List (List UInt8)} {r : Int} (h : PoolI w g v most L) (hb : Below w.heap.size w w') : AddOut w g v most L r L (.returned (.int .i64 r)) w' :=
  ⟨rfl, v, h.below hb, Chg.of_below hb _, .inl rfl⟩
set_option maxHeartbeats 8000000 in
set_option maxRecDepth 100000 in
theorem add_any (w : World) {S T : Nat → Prop} {l : List (Int × Int × Int × Unit)} {ss cs : List Value} {x : TxE} {g most : Nat} {v : Value} {L : List (List UInt8)} (hs : StA w S l ss) (h : tTx.rep w T x cs) (hp : PoolI w g v most L) (hl : (tTx.enc x).length ≤ 1099511627776) :
    Calls Tryz.prog 13 #[.pointer (some ⟨g, 0, none⟩), .agg ss.toArray, .agg cs.toArray] w (AddOut w g v most L (addE l most L x) (addL l most L x)) := by
  have hcl := (tx_cells h).2.2.2
  have hal := (Below.refl w.heap.size w).alloc (Nat.le_refl _) (.cells ss.toArray 34)
  have hal2 := hal.alloc (by simp) (.cells cs.toArray 40)
  have hx := (Blk.new w 34 ss.toArray).alloc (.cells cs.toArray 40)
  have hy := Blk.new (w.alloc (.cells ss.toArray 34)) 40 cs.toArray
  rw [show (w.alloc (.cells ss.toArray 34)).heap.size = w.heap.size + 1 by simp] at hy
  have HI := Lib.hid (st_of hs)
  have HJ := Lib.hid (tx_size hcl)
  have HS := Lib.hid hs
  have H := Lib.hid h
  have HP := Lib.hid hp
  have HL := Lib.hid hl
  have HX := Lib.hid hx
  have HY := Lib.hid hy
  have HAL := Lib.hid hal2
  clear hs h hp hl hx hy hal hal2 hcl
  have e0 : addE l most L x = if formX x ≠ 0 then formX x else if 65536 < (tTx.enc x).length then 4 else if tTx.enc x ∈ L then 31 else if staleX l x then 21 else if most ≤ L.length then 42 else 0 := rfl
  have HE0 := Lib.hid e0
  clear e0
  go_enter Tryz.func13, Tryz.ntmps13
  go_wp2_with (refine wpList_load_blk' rfl 40 _ rfl HY.out rfl Tryz.underlying40 rfl HJ.out ?_)
  refine (form_any _ (Sh.rep_below H.out HAL.out)).mono ?_
  rintro e w1 ⟨rfl, hb1⟩
  have HX1 := Lib.hid (HX.out.below hb1 HX.out.lt)
  have HY1 := Lib.hid (HY.out.below hb1 HY.out.lt)
  have HB1 := Lib.hid (HAL.out.trans (hb1.mono HAL.out.size))
  obtain ⟨q, hq⟩ : ∃ q, q = formX x := ⟨_, rfl⟩
  have HQ := Lib.hid hq
  rw [← hq]
  clear hb1 HX HY HAL hq
  by_cases hq0 : q = 0
  rotate_left
  · have HN := Lib.hid (show addE l most L x = q from by rw [HE0.out, if_pos (by rw [← HQ.out]; exact hq0), HQ.out])
    go_wp2_with fail
    go_ret
    have hL : addL l most L x = L := if_neg (by rw [HN.out]; exact hq0)
    rw [HN.out, hL]
    exact AddOut.none_ HP.out HB1.out
  subst hq0
  have HE1 := Lib.hid (HE0.out.trans (if_neg (by rw [← HQ.out]; simp)))
  clear HE0
  go_wp2_with (refine wpList_load_blk' rfl 40 _ rfl HY1.out rfl Tryz.underlying40 rfl HJ.out ?_)
  refine (tx_any _ (Sh.rep_below H.out HB1.out) HL.out).mono ?_
  rintro e w2 ⟨v2, rfl, f2⟩
  obtain ⟨bs, hbs⟩ : ∃ bs, bs = tTx.enc x := ⟨_, rfl⟩
  rw [← hbs] at f2 HE1 HL
  have HBS := Lib.hid hbs
  have e1 := run_str f2.1 Tryz.underlying77 Tryz.underlying5 Tryz.underlying9
  have HX2 := Lib.hid (HX1.out.below f2.2 HX1.out.lt)
  have HY2 := Lib.hid (HY1.out.below f2.2 HY1.out.lt)
  have HB2 := Lib.hid (HB1.out.trans (f2.2.mono HB1.out.size))
  have hsz : ((str bs).size : Int) = (bs.length : Int) := by rw [str_size]
  clear hbs HX1 HY1 HB1
  by_cases hbig : 65536 < bs.length
  · have hbI : (65536 : Int) < (bs.length : Int) := by omega
    have HN := Lib.hid (show addE l most L x = 4 from by rw [HE1.out, if_pos hbig])
    clear f2
    go_wp2_with fail
    go_ret
    have hL : addL l most L x = L := if_neg (by rw [HN.out]; decide)
    rw [HN.out, hL]
    exact AddOut.none_ HP.out HB2.out
  have hbI : ¬ (65536 : Int) < (bs.length : Int) := by omega
  have HE2 := Lib.hid (HE1.out.trans (if_neg hbig))
  have hp2 := HP.out.below HB2.out
  have hg0 := hp2.2.2.1.cell 0
  have hg1 := hp2.2.2.1.cell 1
  obtain ⟨A, cap, hv⟩ := hp2.2.2.2.1.form
  rw [show (#[Value.int .i64 (most : Int), v] : Array Value)[0]? = some (.int .i64 (most : Int)) from rfl] at hg0
  rw [show (#[Value.int .i64 (most : Int), v] : Array Value)[1]? = some v from rfl, hv] at hg1
  have hLL : L.length ≤ 32 := Nat.le_trans hp2.2.1 hp2.1
  have hmost := hp2.1
  have HC := Lib.hid (contains_any w2 (S := fun _ => True) (hv ▸ Cs.of_own hp2.2.2.2.1 fun _ _ => trivial) (by omega) bs)
  have HP2 := Lib.hid hp2
  have HV := Lib.hid hv
  clear HE1 hp2 hv f2
  go_wp2_with fail
  refine HC.out.mono ?_
  rintro e w3 ⟨rfl, hw3⟩
  obtain rfl := hw3.symm
  by_cases hm : bs ∈ L
  · have HN := Lib.hid (show addE l most L x = 31 from by rw [HE2.out, if_pos hm])
    have hd : decide (bs ∈ L) = true := decide_eq_true hm
    rw [hd]
    clear hd hm
    go_wp2_with fail
    go_ret
    have hL : addL l most L x = L := if_neg (by rw [HN.out]; decide)
    rw [HN.out, hL]
    exact AddOut.none_ HP.out HB2.out
  have HE3 := Lib.hid (HE2.out.trans (if_neg hm))
  have hd : decide (bs ∈ L) = false := decide_eq_false hm
  rw [hd]
  clear hd HE2 HC
  go_wp2_with (first
    | (refine wpList_load_blk' rfl 40 _ rfl HY2.out rfl Tryz.underlying40 rfl HJ.out ?_)
    | (refine wpList_load_blk' rfl 34 _ rfl HX2.out rfl Tryz.underlying34 rfl HI.out ?_))
  refine (stale_any w2 (HS.out.below HB2.out) (Sh.rep_below H.out HB2.out)).mono ?_
  rintro e w4 ⟨rfl, hb4⟩
  have HB4 := Lib.hid (HB2.out.trans (hb4.mono HB2.out.size))
  have hp4 := HP2.out.below hb4
  have hg0 := hp4.2.2.1.cell 0
  have hg1 := hp4.2.2.1.cell 1
  rw [show (#[Value.int .i64 (most : Int), v] : Array Value)[0]? = some (.int .i64 (most : Int)) from rfl] at hg0
  rw [show (#[Value.int .i64 (most : Int), v] : Array Value)[1]? = some v from rfl, HV.out] at hg1
  have HP4 := Lib.hid hp4
  obtain ⟨b, hb⟩ : ∃ b, b = staleX l x := ⟨_, rfl⟩
  rw [← hb]
  have HST := Lib.hid hb
  clear hb hb4 hp4 HX2 HY2
  cases b
  rotate_left
  · have HN := Lib.hid (show addE l most L x = 21 from by rw [HE3.out, if_pos HST.out.symm])
    go_wp2_with fail
    go_ret
    have hL : addL l most L x = L := if_neg (by rw [HN.out]; decide)
    rw [HN.out, hL]
    exact AddOut.none_ HP.out HB4.out
  have HE4 := Lib.hid (HE3.out.trans (if_neg (by rw [← HST.out]; simp)))
  clear HE3
  by_cases hfull : most ≤ L.length
  · have hfI : (most : Int) ≤ (L.length : Int) := by omega
    have HN := Lib.hid (show addE l most L x = 42 from by rw [HE4.out, if_pos hfull])
    go_wp2_with fail
    go_quiet (fail)
    go_wp2_with fail
    go_ret
    have hL : addL l most L x = L := if_neg (by rw [HN.out]; decide)
    rw [HN.out, hL]
    exact AddOut.none_ HP.out (below_drewN HB4.out _)
  have hfI : ¬ (most : Int) ≤ (L.length : Int) := by omega
  have HN := Lib.hid (show addE l most L x = 0 from by rw [HE4.out, if_neg hfull])
  have HLT := Lib.hid (show L.length + 1 ≤ most from by omega)
  have H63 := Lib.hid (show L.length + 1 ≤ maxLen ∧ (L.length + 1) * 16 ≤ 140737488355328 from ⟨by simp only [maxLen]; omega, by omega⟩)
  have HO2 := Lib.hid (show ∀ k ob, Own ((w4.drewN k).alloc ob) 9 1 (.slice A L.length cap) L.length (L.map strV) from fun k ob => own_keep (HV.out ▸ HP4.out.2.2.2.1) fun b hb => by
    have := own_lt (HV.out ▸ HP4.out.2.2.2.1) hb
    exact (Below.heap_alloc (w4.drewN k) ob b this))
  have HS2 := Lib.hid (fun k => Cs.of_new (w4.drewN k) 9 (size := 1) 1 (cs := [.string (str bs)]) rfl (by simp only [maxLen]; decide))
  go_wp2_with fail
  go_quiet (fail)
  go_wp2_with (first
    | (refine wpList_row1 rfl 67 9 _ rfl Tryz.underlying67 (.string (str bs)) rfl [.string (str bs)] rfl sizes_str (by simp) (by simp) ?_)
    | (at_builtin; refine wpList_app _ rfl _ _ _ rfl Tryz.underlying67 info_str rfl (by decide) (HO2.out _ _) rfl (HS2.out _) rfl (fun u hu => by obtain rfl := List.mem_singleton.1 hu; rfl) H63.out.1 H63.out.2 ?_; intro v6 w6 ho6 hc6 hnil6 hat6; clear hnil6; obtain ⟨A6, c6, rfl⟩ := ho6.form; have HO6 := Lib.hid ho6; have HC6 := Lib.hid hc6; have HAT6 := Lib.hid hat6; clear ho6 hc6 hat6; refine Hid.out ?_))
  refine Lib.hid ?_
  have hk4 : Blk (w4.drewN nq) g 69 #[.int .i64 most, v] := HP4.out.2.2.1
  have hg4 := hk4.lt
  have hne : ∀ k, v.ownBlock = some k → k ≠ g := fun k hk e => HP4.out.2.2.2.2 (e ▸ hk)
  have HK6 := Lib.hid (show Blk w6 g 69 [.int .i64 most, v].toArray from (hk4.alloc (.cells #[.string (str bs)] 9)).chg HC6.out fun h => hne g (by rw [HV.out]; exact h) rfl)
  have hd4 : Below w.heap.size w (w4.drewN nq) := below_drewN HB4.out nq
  have HD4 := Lib.hid hd4
  have HNE := Lib.hid hne
  have HG4 := Lib.hid hg4
  clear hd4 hk4 hne hg4
  go_wp2_with (refine wpList_store_cell (cs := [.int .i64 most, v]) rfl 67 _ _ rfl HK6.out rfl (by simp) (v := .slice A6 (L.length + 1) c6) rfl rfl (by kernel_rfl) rfl ?_; intro w7 hb7 hc7; have HB7 := Lib.hid hb7; have HC7 := Lib.hid hc7; clear hb7 hc7)
  go_ret
  have hL : addL l most L x = L ++ [bs] := by unfold addL; rw [if_pos HN.out, HBS.out]
  rw [HN.out, hL]
  have hz4 := HD4.out.size
  have hz6 := HC6.out.size
  have hz5 : (w4.drewN nq).heap.size + 1 = ((w4.drewN nq).alloc (.cells #[.string (str bs)] 9)).heap.size := by simp
  have hat : (Value.slice A6 (L.length + 1) c6).ownBlock = v.ownBlock ∨ (Value.slice A6 (L.length + 1) c6).ownBlock = some ((w4.drewN nq).heap.size + 1) := by
    rw [HV.out, hz5]; exact HAT6.out
  have hgo : ∀ k, (Value.slice A6 (L.length + 1) c6).ownBlock = some k → k ≠ g := fun k hk e => by
    rcases hat with h | h
    · exact HNE.out k (h ▸ hk) e
    · rw [h] at hk; injection hk with hk; have := HG4.out; omega
  have hown : Own w7 9 1 (.slice A6 (L.length + 1) c6) (L ++ [bs]).length ((L ++ [bs]).map strV) := by
    have := own_keep HO6.out fun k hk => HC7.out.block k (own_lt HO6.out hk) (hgo k hk)
    simpa [strV] using this
  refine ⟨rfl, .slice A6 (L.length + 1) c6, ⟨HP4.out.1, by rw [List.length_append]; exact HLT.out, HB7.out, hown, fun h => hgo g h rfl⟩, ?_, ?_⟩
  · refine (((Chg.of_below HD4.out fun b => b = g ∨ v.ownBlock = some b).alloc _).trans HC6.out fun b h => .inl (.inr (by rw [HV.out]; exact h))).trans HC7.out fun b h => .inl (.inl h)
  · rcases hat with h | h
    · exact .inl h
    · exact .inr ⟨_, h, by omega⟩
end
section
open Go.RowKit Go.Maps
inductive Chain (w : World) (S : Nat → Prop) (sent : Value) : Value → Prop
  | last {g : Nat} {what : Value} : S g → g < w.heap.size → Blk w g 133 #[what, sent] → Chain w S sent (.iface 129 (.pointer (some ⟨g, 0, none⟩)))
  | more {g : Nat} {what v : Value} : S g → g < w.heap.size → Blk w g 133 #[what, v] → Chain w S sent v → Chain w S sent (.iface 129 (.pointer (some ⟨g, 0, none⟩)))
theorem Chain.to {w w' : World} {S S' : Nat → Prop} {sent v : Value} (h : Chain w S sent v) (hk : ∀ b, S b → b < w.heap.size → b < w'.heap.size ∧ w'.heap[b]? = w.heap[b]?) (hs : ∀ b, S b → b < w.heap.size → S' b) : Chain w' S' sent v := by
  induction h with
  | last h1 h2 h3 => exact .last (hs _ h1 h2) (hk _ h1 h2).1 ((hk _ h1 h2).2.trans h3)
  | more h1 h2 h3 _ ih => exact .more (hs _ h1 h2) (hk _ h1 h2).1 ((hk _ h1 h2).2.trans h3) ih
theorem Chain.low {w w' : World} {S : Nat → Prop} {sent v : Value} (h : Chain w S sent v) (hb : Below w.heap.size w w') : Chain w' S sent v :=
  h.to (fun b _ hlt => ⟨ltle hlt hb.size, hb.block b hlt⟩) fun _ h _ => h
theorem Chain.chg {w w' : World} {S M : Nat → Prop} {sent v : Value} (h : Chain w S sent v) (hc : Chg M w w') (hd : ∀ b, S b → ¬ M b) : Chain w' S sent v :=
  h.to (fun b hS hlt => ⟨ltle hlt hc.size, hc.block b hlt (hd b hS)⟩) fun _ h _ => h
theorem Chain.sub {w : World} {S S' : Nat → Prop} {sent v : Value} (h : Chain w S sent v) (hs : ∀ b, S b → b < w.heap.size → S' b) : Chain w S' sent v :=
  h.to (fun _ _ hlt => ⟨hlt, rfl⟩) hs
theorem Chain.form {w : World} {S : Nat → Prop} {sent v : Value} (h : Chain w S sent v) : ∃ g, v = .iface 129 (.pointer (some ⟨g, 0, none⟩)) := by
  cases h <;> exact ⟨_, rfl⟩
def Err (w : World) (S : Nat → Prop) (sent : Value) (bad : Bool) (e : Value) : Prop := (bad = false ∧ e = .nilIface) ∨ (bad = true ∧ Chain w S sent e)
abbrev gF : Nat := 1
def Gl (w : World) (sent : Value) : Prop := (∃ a, sent = .iface 205 (.pointer (some a))) ∧ w.cell? ⟨gF, 0, none⟩ = some sent
theorem Gl.lt {w : World} {sent : Value} (h : Gl w sent) : gF < w.heap.size := by
  obtain ⟨_, h⟩ := h
  rcases Nat.lt_or_ge gF w.heap.size with hlt | hge
  · exact hlt
  · simp only [World.cell?] at h; rw [Array.getElem?_eq_none hge] at h; cases h
theorem Gl.chg {w w' : World} {M : Nat → Prop} {sent : Value} (h : Gl w sent) (hc : Chg M w w') (hd : ¬ M gF) : Gl w' sent := ⟨h.1, (World.cell?_of_block (a := ⟨gF, 0, none⟩) (hc.block gF h.lt hd)).trans h.2⟩
theorem Gl.below {w w' : World} {sent : Value} (h : Gl w sent) (hb : Below w.heap.size w w') : Gl w' sent := ⟨h.1, (World.cell?_of_block (a := ⟨gF, 0, none⟩) (hb.block gF h.lt)).trans h.2⟩
def Pt (w : World) (X : Nat → Prop) (E g : Nat) (sent : Value) (rows : List (List UInt8)) (bad : Bool) : Prop :=
  Gl w sent ∧ ¬ X gF ∧ X g ∧ (∀ b, X b → b < w.heap.size) ∧ E ≤ w.heap.size ∧ ∃ v e, Blk w g 144 #[v, e] ∧ Bsr w (fun b => ¬ X b) v rows ∧ Err w (fun b => ¬ X b ∧ E ≤ b) sent bad e
theorem Err.to {w w' : World} {S S' : Nat → Prop} {sent v : Value} {bad : Bool} (h : Err w S sent bad v) (hk : ∀ b, S b → b < w.heap.size → b < w'.heap.size ∧ w'.heap[b]? = w.heap[b]?) (hs : ∀ b, S b → b < w.heap.size → S' b) : Err w' S' sent bad v :=
  h.elim .inl fun h => .inr ⟨h.1, h.2.to hk hs⟩
theorem Err.below {w w' : World} {S : Nat → Prop} {sent v : Value} {bad : Bool} (h : Err w S sent bad v) (hb : Below w.heap.size w w') : Err w' S sent bad v :=
  h.to (fun b _ hlt => ⟨ltle hlt hb.size, hb.block b hlt⟩) fun _ h _ => h
theorem Pt.lt {w : World} {X : Nat → Prop} {E g : Nat} {sent : Value} {rows : List (List UInt8)} {bad : Bool} (h : Pt w X E g sent rows bad) : g < w.heap.size := by
  obtain ⟨_, _, hX, hl, _⟩ := h
  exact hl g hX
theorem Pt.below {w w' : World} {X : Nat → Prop} {E g : Nat} {sent : Value} {rows : List (List UInt8)} {bad : Bool} (h : Pt w X E g sent rows bad) (hb : Below w.heap.size w w') : Pt w' X E g sent rows bad := by
  obtain ⟨hg, hn, hx, hl, hE, v, e, h1, h2, h3⟩ := h
  exact ⟨hg.below hb, hn, hx, fun b h => ltle (hl b h) hb.size, Nat.le_trans hE hb.size, v, e, h1.below hb h1.lt, h2.below hb, h3.below hb⟩
theorem Pt.chg {w w' : World} {X M : Nat → Prop} {E g : Nat} {sent : Value} {rows : List (List UInt8)} {bad : Bool} (h : Pt w X E g sent rows bad) (hc : Chg M w w') (hM : ∀ b, M b → X b ∧ b ≠ g) : Pt w' X E g sent rows bad := by
  obtain ⟨hg, hn, hx, hl, hE, v, e, h1, h2, h3⟩ := h
  exact ⟨hg.chg hc fun h => hn (hM _ h).1, hn, hx, fun b h => ltle (hl b h) hc.size, Nat.le_trans hE hc.size, v, e, h1.chg hc fun h => (hM _ h).2 rfl, h2.chg hc fun b hb h => hb (hM _ h).1, h3.to (fun b hb hlt => ⟨ltle hlt hc.size, hc.block b hlt fun h => hb.1 (hM _ h).1⟩) fun _ h _ => h⟩
theorem Bsr.subs {w : World} {S T : Nat → Prop} {v : Value} {rows : List (List UInt8)} (h : Bsr w S v rows) (hs : ∀ b, S b → b < w.heap.size → T b) : Bsr w T v rows := by
  obtain ⟨vs, h1, h2⟩ := h
  exact ⟨vs, h1.sub hs, fun i x u a b => (h2 i x u a b).sub hs⟩
theorem Pt.more {w w' : World} {X : Nat → Prop} {E g : Nat} {sent : Value} {rows : List (List UInt8)} {bad : Bool} (h : Pt w X E g sent rows bad) (hb : Below w.heap.size w w') (Y : Nat → Prop) (hY : ∀ b, Y b → w.heap.size ≤ b ∧ b < w'.heap.size) : Pt w' (fun b => X b ∨ Y b) E g sent rows bad := by
  obtain ⟨hg, hn, hx, hl, hE, v, e, h1, h2, h3⟩ := h
  have hs : ∀ b, ¬ X b → b < w.heap.size → ¬ (X b ∨ Y b) := fun b h hlt hh => hh.elim h fun hy => by have := (hY b hy).1; omega
  exact ⟨hg.below hb, hs _ hn hg.lt, .inl hx, fun b h => h.elim (fun h => ltle (hl b h) hb.size) fun h => (hY b h).2, Nat.le_trans hE hb.size, v, e, h1.below hb h1.lt, (h2.subs hs).below hb, h3.to (fun b _ hlt => ⟨ltle hlt hb.size, hb.block b hlt⟩) fun b hb hlt => ⟨hs b hb.1 hlt, hb.2⟩⟩
theorem Pt.less {w : World} {X Y : Nat → Prop} {E g : Nat} {sent : Value} {rows : List (List UInt8)} {bad : Bool} (h : Pt w X E g sent rows bad) (hY : ∀ b, Y b → X b) (hg : Y g) : Pt w Y E g sent rows bad := by
  obtain ⟨hg', hn, hx, hl, hE, v, e, h1, h2, h3⟩ := h
  exact ⟨hg', fun h => hn (hY _ h), hg, fun b h => hl b (hY b h), hE, v, e, h1, h2.subs fun b hb _ h => hb (hY b h), h3.to (fun b _ hlt => ⟨hlt, rfl⟩) fun b hb _ => ⟨fun h => hb.1 (hY b h), hb.2⟩⟩
def Sh.val : Sh → List Value → Value
  | .dig, cs => .agg cs.toArray
  | .tup _, cs => .agg cs.toArray
  | _, cs => cs.headD undef
def Fs.len : Fs → Nat
  | .nil => 0
  | .cons _ fs => fs.len + 1
theorem Fs.decs_len : ∀ (fs : Fs) (l : List (List UInt8)) (x : fs.El), fs.decs l = some x → l.length = fs.len
  | .nil, [], _, _ => rfl
  | .nil, _ :: _, _, h => by cases h
  | .cons _ _, [], _, h => by cases h
  | .cons s fs, b :: l, x, h => by
    have h : (match s.dec b, fs.decs l with | some a, some r => some (a, r) | _, _ => none) = some x := h
    split at h
    · rename_i a r h1 h2
      rw [List.length_cons, Fs.decs_len fs l r h2]
      rfl
    · cases h
def SOut (s : Sh) (w : World) (S : Nat → Prop) (b : List UInt8) (cs : List Value) (bad bad' : Bool) : Prop :=
  cs.length = s.cells ∧ (∀ v ∈ cs, v.oneCell' = true) ∧ ((∃ x, s.dec b = some x ∧ bad' = bad ∧ s.rep w S x cs) ∨ (s.dec b = none ∧ bad' = true))
def Fs.Out (fs : Fs) (w : World) (S : Nat → Prop) (l : List (List UInt8)) (cs : List Value) (bad bad' : Bool) : Prop :=
  cs.length = fs.cells ∧ (∀ v ∈ cs, v.oneCell' = true) ∧ ((∃ x, fs.decs l = some x ∧ bad' = bad ∧ fs.rep w S x cs) ∨ (fs.decs l = none ∧ bad' = true))
theorem SOut.to {s : Sh} {w w' : World} {S S' : Nat → Prop} {b : List UInt8} {cs : List Value} {bad bad' : Bool} (h : SOut s w S b cs bad bad') (hk : ∀ b, S b → b < w.heap.size → b < w'.heap.size ∧ w'.heap[b]? = w.heap[b]?) (hs : ∀ b, S b → b < w.heap.size → S' b) : SOut s w' S' b cs bad bad' :=
  ⟨h.1, h.2.1, h.2.2.elim (fun ⟨x, h1, h2, h3⟩ => .inl ⟨x, h1, h2, Sh.rep_to hk hs s x cs h3⟩) .inr⟩
theorem Fs.Out.to {fs : Fs} {w w' : World} {S S' : Nat → Prop} {l : List (List UInt8)} {cs : List Value} {bad bad' : Bool} (h : fs.Out w S l cs bad bad') (hk : ∀ b, S b → b < w.heap.size → b < w'.heap.size ∧ w'.heap[b]? = w.heap[b]?) (hs : ∀ b, S b → b < w.heap.size → S' b) : fs.Out w' S' l cs bad bad' :=
  ⟨h.1, h.2.1, h.2.2.elim (fun ⟨x, h1, h2, h3⟩ => .inl ⟨x, h1, h2, Fs.rep_to hk hs fs x cs h3⟩) .inr⟩
theorem Fs.Out.nil_ (w : World) (S : Nat → Prop) (bad : Bool) : Fs.Out .nil w S [] [] bad bad := ⟨rfl, by simp, .inl ⟨(), rfl, rfl, rfl⟩⟩
theorem Fs.Out.cons_ {s : Sh} {fs : Fs} {w w' : World} {S S' : Nat → Prop} {b : List UInt8} {l : List (List UInt8)} {c1 c2 : List Value} {bad b1 b2 : Bool} (h : SOut s w S b c1 bad b1) (k : fs.Out w' S' l c2 b1 b2)
    (hk : ∀ b, S b → b < w.heap.size → b < w'.heap.size ∧ w'.heap[b]? = w.heap[b]?) (hs : ∀ b, S b → b < w.heap.size → S' b) : Fs.Out (.cons s fs) w' S' (b :: l) (c1 ++ c2) bad b2 := by
  obtain ⟨h1, h2, h3⟩ := h
  obtain ⟨k1, k2, k3⟩ := k
  refine ⟨by rw [List.length_append, h1, k1]; rfl, fun v hv => (List.mem_append.1 hv).elim (h2 v) (k2 v), ?_⟩
  have hd : Fs.decs (.cons s fs) (b :: l) = (match s.dec b, fs.decs l with | some a, some r => some (a, r) | _, _ => none) := rfl
  rw [hd]
  rcases h3 with ⟨x, e1, e2, e3⟩ | ⟨e1, e2⟩ <;> rcases k3 with ⟨y, f1, f2, f3⟩ | ⟨f1, f2⟩ <;> rw [e1, f1]
  · exact .inl ⟨(x, y), rfl, by rw [f2, e2], c1, c2, rfl, Sh.rep_to hk hs s x c1 e3, f3⟩
  · exact .inr ⟨rfl, f2⟩
  · exact .inr ⟨rfl, by rw [f2, e2]⟩
  · exact .inr ⟨rfl, f2⟩
def Nw (k : Nat) (w : World) (b : Nat) : Prop := k ≤ b ∧ Th w b
theorem Nw.to {k k' b : Nat} {w w' : World} (h : Nw k w b) (hk : k' ≤ k) (hb : w'.heap[b]? = w.heap[b]?) : Nw k' w' b := by
  obtain ⟨h1, cs, t, h2⟩ := h
  exact ⟨Nat.le_trans hk h1, cs, t, hb.trans h2⟩
theorem own_th {w : World} {e : TypeId} {size n k : Nat} {v : Value} {xs : List Value} (h : Own w e size v n xs) (hk : v.ownBlock = some k) : Th w k := by
  rcases h.2 with ⟨rfl, _⟩ | ⟨g, cap, cur, rfl, _, hh, _⟩
  · simp [Value.ownBlock] at hk
  · simp only [Value.ownBlock, Option.some.injEq] at hk
    subst hk
    exact ⟨_, _, hh⟩
theorem SOut.nw {s : Sh} {w w' : World} {k k' : Nat} {b : List UInt8} {cs : List Value} {bad bad' : Bool} (h : SOut s w (Nw k w) b cs bad bad') (hk : ∀ b, k ≤ b → b < w.heap.size → b < w'.heap.size ∧ w'.heap[b]? = w.heap[b]?) (hs : k' ≤ k) : SOut s w' (Nw k' w') b cs bad bad' :=
  h.to (fun b hb hlt => hk b hb.1 hlt) fun b hb hlt => hb.to hs (hk b hb.1 hlt).2
theorem Fs.Out.step {s : Sh} {fs : Fs} {w0 w1 w2 : World} {W g : Nat} {b : List UInt8} {l : List (List UInt8)} {c1 c2 : List Value} {bad b1 b2 : Bool} (h : SOut s w1 (Nw w0.heap.size w1) b c1 bad b1) (k : fs.Out w2 (Nw W w2) l c2 b1 b2)
    (hc : Chg (fun k => k = g) w1 w2) (hg : g < w0.heap.size) (hW : W ≤ w0.heap.size) : Fs.Out (.cons s fs) w2 (Nw W w2) (b :: l) (c1 ++ c2) bad b2 :=
  Fs.Out.cons_ h k (fun b hb hlt => ⟨ltle hlt hc.size, hc.block b hlt fun e => by have := hb.1; omega⟩) fun b hb hlt => hb.to hW (hc.block b hlt fun e => by have := hb.1; omega)
theorem Fs.Out.tup {fs : Fs} {w : World} {S : Nat → Prop} {b : List UInt8} {rows : List (List UInt8)} {cs : List Value} {bad bad' : Bool} {n : Nat} (h : fs.Out w S rows cs bad bad') (hs : (bad = false ∧ splitB b = some rows) ∨ (bad = true ∧ ∀ l, splitB b = some l → l.length ≠ n))
    (hn : ∀ l x, fs.decs l = some x → l.length = n) : SOut (.tup fs) w S b cs false bad' := by
  obtain ⟨h1, h2, h3⟩ := h
  have hd : (Sh.tup fs).dec b = (match splitB b with | none => none | some l => fs.decs l) := rfl
  refine ⟨h1, h2, ?_⟩
  rw [hd]
  rcases hs with ⟨e1, e2⟩ | ⟨e1, e2⟩
  · rw [e2]
    exact h3.elim (fun ⟨x, f1, f2, f3⟩ => .inl ⟨x, f1, by rw [f2, e1], f3⟩) .inr
  · refine .inr ⟨?_, h3.elim (fun ⟨_, _, f2, _⟩ => by rw [f2, e1]) fun h => h.2⟩
    cases hsp : splitB b with
    | none => rfl
    | some l =>
      cases hx : fs.decs l with
      | none => exact hx
      | some x => exact absurd (hn l x hx) (e2 l hsp)
def Took (s : Sh) (w : World) (X : Nat → Prop) (E g : Nat) (sent : Value) (b : List UInt8) (rest : List (List UInt8)) (bad : Bool) (e : Ending) (w' : World) : Prop :=
  ∃ cs bad', e = .returned (s.val cs) ∧ Chg (fun k => k = g) w w' ∧ Pt w' X E g sent rest bad' ∧ SOut s w' (Nw w.heap.size w') b cs bad bad'
def ReadOut (s : Sh) (w : World) (sent : Value) (b : List UInt8) (e : Ending) (w' : World) : Prop :=
  ∃ cs err bad, e = .returned (.tuple #[s.val cs, err]) ∧ Below w.heap.size w w' ∧ Err w' (fun b => w.heap.size ≤ b) sent bad err ∧ SOut s w' (Nw w.heap.size w') b cs false bad
end
end Go.Proofs.YtkclkmjlodomkaaGreatDoor
