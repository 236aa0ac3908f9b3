/- Disk: fixed. -/
import Derived.Test.YthmjgcmaoniejaaDkL
namespace Go.Proofs.Ythmjgcmaoniejaa
open Go.RowKit Go.Maps

attribute [-simp] Try.isAgg35 Try.sizeOf35 Try.typeInfo35 Try.isAgg58 Try.sizeOf58 Try.typeInfo58

def fx1 : DS := ((DS.new 4).write 1 (blk 1)).1
def fx2 : DS := fx1.sync.1
def fx3 : DS := (fx2.write 1 (blk 2)).1
def fx4 : DS := (fx3.write 2 (blk 2)).1
def fx5 : DS := fx4.up [false, true] 3
def fx6 : DS := { fx5 with room := max 2 0 }
def fx7 : DS := (fx6.write 2 (blk 1)).1
def fx8 : DS := { fx7 with fuse := max 0 (-1) }
def fx9 : DS := fx8.sync.1
theorem fx1_e : ((DS.new 4).write 1 (blk 1)).2 = 0 := by kernel_rfl
theorem fx2_e : fx1.sync.2 = 0 := by kernel_rfl
theorem fx3_e : (fx2.write 1 (blk 2)).2 = 0 := by kernel_rfl
theorem fx4_e : (fx3.write 2 (blk 2)).2 = 0 := by kernel_rfl
theorem fx4_l : fx4.loose.length = 2 := by kernel_rfl
theorem fx5_1 : fx5.read 1 = (blk 1, 0) := by kernel_rfl
def fxy : List Int := (fx5.read 2).1
theorem fx5_2 : fx5.read 2 = (fxy, 0) := by kernel_rfl
theorem fxy_l : fxy.length = 256 := by kernel_rfl
theorem fxy_2 : (cu8 fxy)[2]? = some (.int .u8 8) := by kernel_rfl
theorem fxy_3 : (cu8 fxy)[3]? = some (.int .u8 0) := by kernel_rfl
theorem fx7_e : (fx6.write 2 (blk 1)).2 = 42 := by kernel_rfl
theorem fx9_e : fx8.sync.2 = 44 := by kernel_rfl
theorem fx9_d : fx9.down = true := by kernel_rfl

set_option maxHeartbeats 4000000 in
set_option maxRecDepth 100000 in
theorem fixed_any (w : World) : Calls Try.prog 6 #[] w fun e w' => e = .returned (.bool true) ∧ Below w.heap.size w w' := by
  have hz := (zero_of_info info_block).1
  have hzs := (zero_of_info info_block).2
  obtain ⟨Z, hZ⟩ : ∃ Z, Z = (cu8 noughts).toArray := ⟨_, rfl⟩
  rw [← hZ] at hz
  have hZs : Z.size = 256 := by rw [hZ, List.size_toArray, cu8_length, noughts, List.length_replicate]
  clear hZ hzs
  go_enter Try.func6, Try.ntmps6
  go_wp2_with fail
  refine (new_dk 4 (by omega) (by omega) w w (Nat.le_refl _)).mono ?_
  rintro e w1 ⟨p, S0, rfl, h1, b1, s1⟩
  go_wp2_with fail
  refine (dnew_nil 0 (by omega) w1).mono ?_
  rintro e w2 ⟨rfl, rfl⟩
  go_wp2_with fail
  refine (blocks_any p S0 _ _ h1.is).mono ?_
  rintro e w3 ⟨rfl, rfl⟩
  rw [show (DS.new 4).blocks = 4 from rfl]
  go_wp2_with fail
  refine (block_any 1 _).mono ?_
  rintro e w4 ⟨rfl, b4⟩
  have h4 := h1.below b4
  have c4 := b1.trans (b4.mono b1.size)
  clear h1 b1 b4
  go_wp2_with fail
  refine (write_dk h4 c4.size (by decide) (blk_length 1) (by decide)).mono ?_
  rintro e w5 ⟨rfl, S5, h5, c5, s5⟩
  rw [fx1_e]
  have b5 := h4.out c5 c4
  replace h5 : Dk w w5 p S5 fx1 1 := h5
  clear h4 c4 c5 s5 s1 S0
  go_wp2_with fail
  refine (sync_dk h5 (by decide)).mono ?_
  rintro e w6 ⟨rfl, h6, c6⟩
  rw [fx2_e]
  have b6 := h5.out c6 b5
  replace h6 : Dk w w6 p S5 fx2 1 := h6
  clear h5 c6 b5
  go_wp2_with fail
  refine (block_any 2 _).mono ?_
  rintro e w7 ⟨rfl, b7⟩
  have h7 := h6.below b7
  have c7 := b6.trans (b7.mono b6.size)
  clear h6 b6 b7
  go_wp2_with fail
  refine (write_dk h7 c7.size (by decide) (blk_length 2) (by decide)).mono ?_
  rintro e w8 ⟨rfl, S8, h8, c8, s8⟩
  rw [fx3_e]
  have b8 := h7.out c8 c7
  replace h8 : Dk w w8 p S8 fx3 2 := h8
  clear h7 c7 c8 s8 S5
  go_wp2_with fail
  refine (block_any 2 _).mono ?_
  rintro e w9 ⟨rfl, b9⟩
  have h9 := h8.below b9
  have c9 := b8.trans (b9.mono b8.size)
  clear h8 b8 b9
  go_wp2_with fail
  refine (write_dk h9 c9.size (by decide) (blk_length 2) (by decide)).mono ?_
  rintro e w10 ⟨rfl, S, h10, c10, s10⟩
  rw [fx4_e]
  have b10 := h9.out c10 c9
  replace h10 : Dk w w10 p S fx4 3 := h10
  clear h9 c9 c10 s10 S8
  go_wp2_with fail
  refine (loose_any p S _ _ h10.is).mono ?_
  rintro e w11 ⟨rfl, rfl⟩
  rw [fx4_l]
  go_wp2_with fail
  refine (copy_dk h10 b10.size (by decide)).mono ?_
  rintro e w12 ⟨q, T, rfl, h12, b12, t12⟩
  have d12 := h10.below b12
  have hST : ∀ b, T b → ¬ S b := fun b hb hs => by have := t12 b hb; have := h10.lt b hs; omega
  have c12 := b10.trans (b12.mono b10.size)
  clear h10 b10 b12 t12
  go_wp2_with fail
  have ha12 := d12.alloc (.cells #[.bool false, .bool true] 4)
  have hk12 : Cs (w12.alloc (.cells #[.bool false, .bool true] 4)) (fun b => b = w12.heap.size) 1 (.slice (some ⟨w12.heap.size, 0, none⟩) 2 2) [false, true].length (bools [false, true]) := Cs.of_new' w12 4 2 (cs := bools [false, true]) rfl (by decide) (0, 0)
  refine (up_dk ha12 hk12 3 (by decide)).mono ?_
  rintro e w13 ⟨rfl, h13, c13⟩
  have bb := c12.alloc c12.size (.cells #[.bool false, .bool true] 4)
  have b13 := ha12.out c13 bb
  have g13 := (h12.alloc (.cells #[.bool false, .bool true] 4)).chg c13 hST
  replace h13 : Dk w w13 p S fx5 3 := h13
  clear ha12 hk12 c13 bb d12 h12 c12
  go_wp2_with fail
  refine (read_dk h13 (n := 1) (by decide) (by decide)).mono ?_
  rintro e w14 ⟨rfl, b14⟩
  rw [fx5_1]
  simp only
  have h14 := h13.below b14
  have g14 := g13.below b14
  have c14 := b13.trans (b14.mono b13.size)
  clear h13 g13 b13 b14
  obtain ⟨c1, hc1⟩ : ∃ c, c = (cu8 (blk 1)).toArray := ⟨_, rfl⟩
  have hcs : c1.size = 256 := by rw [hc1, List.size_toArray, cu8_length, blk_length]
  have hst := run_storeCells_new (P := Try.prog) w14 35 Z c1 (by rw [hcs]; exact (zero_of_info info_block).2) (by rw [hZs, hcs]) (by rw [hc1]; exact all_oneCell_toArray (cu8_one _))
  rw [← hc1]
  have Hc1 := Lib.hid hc1; clear hc1
  go_wp2_with fail
  simp only [Try.sizeOf35, Result.andThen, ↓reduceIte, hst]
  rw [Oper.upon_skip]
  go_wp2_with fail
  have k14 := Blk.new w14 35 c1
  have h15 := h14.alloc (.cells c1 35)
  have g15 := g14.alloc (.cells c1 35)
  have c15 := c14.alloc c14.size (.cells c1 35)
  have l14 : ∀ b, S b → b < w14.heap.size := h14.lt
  generalize w14.heap.size = X1 at *
  generalize w14.alloc (.cells c1 35) = w15 at *
  clear hst h14 g14 c14
  refine (read_dk h15 (n := 2) (by decide) (by decide)).mono ?_
  rintro e w16 ⟨rfl, b16⟩
  rw [fx5_2]
  simp only
  have h16 := h15.below b16
  have g16 := g15.below b16
  have c16 := c15.trans (b16.mono c15.size)
  have k16 := k14.below b16 k14.lt
  clear h15 g15 c15 b16 k14
  obtain ⟨c2, hc2⟩ : ∃ c, c = (cu8 fxy).toArray := ⟨_, rfl⟩
  have hcs2 : c2.size = 256 := by rw [hc2, List.size_toArray, cu8_length, fxy_l]
  have hst := run_storeCells_new (P := Try.prog) w16 35 Z c2 (by rw [hcs2]; exact (zero_of_info info_block).2) (by rw [hZs, hcs2]) (by rw [hc2]; exact all_oneCell_toArray (cu8_one _))
  have y2 : c2[2]? = some (.int .u8 8) := by rw [hc2]; simpa using fxy_2
  have y3 : c2[3]? = some (.int .u8 0) := by rw [hc2]; simpa using fxy_3
  rw [← hc2]
  clear hc2
  go_wp2_with fail
  simp only [Try.sizeOf35, Result.andThen, ↓reduceIte, hst]
  rw [Oper.upon_skip]
  go_wp2_with fail
  have j16 := Blk.new w16 35 c2
  have h17 := h16.alloc (.cells c2 35)
  have g17 := g16.alloc (.cells c2 35)
  have c17 := c16.alloc c16.size (.cells c2 35)
  have k17 := k16.alloc (.cells c2 35)
  have l16 : ∀ b, S b → b < w16.heap.size := h16.lt
  generalize w16.heap.size = X2 at *
  generalize w16.alloc (.cells c2 35) = w17 at *
  clear hst h16 g16 c16 k16 hcs2 hz hZs
  refine (room_dk h17 2).mono ?_
  rintro e w18 ⟨rfl, h18, c18⟩
  have b18 := h17.out c18 c17
  have g18 := g17.chg c18 hST
  have k18 := k17.chg c18 (fun h => by have := l14 _ h; omega)
  have j18 := j16.chg c18 (fun h => by have := l16 _ h; omega)
  replace h18 : Dk w w18 p S fx6 3 := h18
  clear h17 c18 c17 g17 k17 j16
  go_wp2_with fail
  refine (block_any 1 _).mono ?_
  rintro e w19 ⟨rfl, b19⟩
  have h19 := h18.below b19
  have g19 := g18.below b19
  have k19 := k18.below b19 k18.lt
  have j19 := j18.below b19 j18.lt
  have c19 := b18.trans (b19.mono b18.size)
  clear h18 g18 k18 j18 b18 b19
  go_wp2_with fail
  refine (write_dk h19 c19.size (by decide) (blk_length 1) (by decide)).mono ?_
  rintro e w20 ⟨rfl, S20, h20, c20, s20⟩
  rw [fx7_e]
  have b20 := h19.out c20 c19
  have g20 := g19.chg c20 hST
  have k20 := k19.chg c20 (fun h => by have := l14 _ h; omega)
  have j20 := j19.chg c20 (fun h => by have := l16 _ h; omega)
  have hST2 : ∀ b, T b → ¬ S20 b := fun b hb hs => (s20 b hs).elim (hST b hb) (fun hk => by have := g19.lt b hb; omega)
  have n1 : ¬ S20 X1 := fun h => (s20 _ h).elim (fun h => by have := l14 _ h; omega) (fun hk => by have := k19.lt; omega)
  have n2 : ¬ S20 X2 := fun h => (s20 _ h).elim (fun h => by have := l16 _ h; omega) (fun hk => by have := j19.lt; omega)
  replace h20 : Dk w w20 p S20 fx7 4 := h20
  clear h19 g19 k19 j19 c19 c20 s20 hST l14 l16
  go_wp2_with fail
  refine (arm_dk h20 (n := 0) (by decide)).mono ?_
  rintro e w21 ⟨rfl, h21, c21⟩
  have b21 := h20.out c21 b20
  have g21 := g20.chg c21 hST2
  have k21 := k20.chg c21 n1
  have j21 := j20.chg c21 n2
  replace h21 : Dk w w21 p S20 fx8 4 := h21
  clear h20 g20 k20 j20 b20 c21
  go_wp2_with fail
  refine (sync_dk h21 (by decide)).mono ?_
  rintro e w22 ⟨rfl, h22, c22⟩
  rw [fx9_e]
  have b22 := h21.out c22 b21
  have g22 := g21.chg c22 hST2
  have k22 := k21.chg c22 n1
  have j22 := j21.chg c22 n2
  replace h22 : Dk w w22 p S20 fx9 4 := h22
  clear h21 g21 k21 j21 b21 c22
  go_wp2_with fail
  refine wp_region_segs [([0, 1, 2, 3, 4, 5, 6, 7, 8, 9, 10, 11, 12, 13, 14, 15, 16, 17, 18, 19, 20, 21, 22, 23], [24]), ([25, 26, 27, 28, 29, 30, 31, 32, 33, 34, 35, 36, 37, 38, 39, 40, 41, 42, 43, 44, 45, 46, 47, 48, 49, 50], [51]), ([52, 53, 54, 55, 56, 57, 58], [59]), ([60, 61, 62], [])] (fun w' => Below w22.heap.size w22 w')
    (by kernel_rfl) (by kernel_rfl) (by kernel_rfl) (by kernel_rfl) ((Below.refl _ _).drew) ?_
  have hinfo : (Try.prog.info? 35).map (·.size) = some (cu8 (blk 1)).length := by rw [cu8_length, blk_length]; exact (zero_of_info info_block).2
  have hrg : ∀ w', Below w22.heap.size w22 w' → w'.rangeAt X1 0 (cu8 (blk 1)) := fun w' hb => by
    have := k22.below hb k22.lt
    rw [Hc1.out] at this
    exact this.range
  refine (show HoistK _ _ _ [0, 1, 2, 3, 4, 5, 6, 7, 8, 9, 10, 11, 12, 13, 14, 15, 16, 17, 18, 19, 20, 21, 22, 23] _ _ from ?_)
  (iterate 23 (refine HoistK.yes (by rfl) (by kernel_rfl) ⟨?_, fun w hSw => ?_, ?_⟩; rotate_left; (· go_simp; try with_reducible rfl); simp only [Act.put, List.setIfInBounds_toArray, List.getElem_toArray, List.getElem_cons_succ, List.getElem_cons_zero, List.set_cons_succ, List.set_cons_zero]))
  refine HoistK.load (by rfl) (by kernel_rfl) 35 _ rfl X1 0 rfl (cu8 (blk 1)) _ hrg Try.underlying35 rfl hinfo ?_
  simp only [Act.put, List.setIfInBounds_toArray, List.getElem_toArray, List.getElem_cons_succ, List.getElem_cons_zero, List.set_cons_succ, List.set_cons_zero]
  refine HoistK.nil_ ?_
  simp only [opsAt, List.filterMap_cons, List.filterMap_nil, List.getElem?_toArray, List.getElem?_cons_succ, List.getElem?_cons_zero]
  refine EffS.cons_ fun _ hQ1 => ?_
  go_wp2_with fail
  refine (block_any 1 _).mono ?_
  rintro e w23 ⟨rfl, b23⟩
  go_wp2_with fail
  have e23 : Below w22.heap.size w22 w23 := (Below.refl _ w22).drew.trans b23
  refine hQ1 _ _ e23 (EffS.nil_ ?_)
  clear hQ1 b23
  refine (show HoistK _ _ _ [25, 26, 27, 28, 29, 30, 31, 32, 33, 34, 35, 36, 37, 38, 39, 40, 41, 42, 43, 44, 45, 46, 47, 48, 49, 50] _ _ from ?_)
  refine HoistK.yes (by rfl) (by kernel_rfl) ⟨.bool true, fun w hSw => ?_, ?_⟩
  · have := run_equal_block w (blk 1) (blk 1) (blk_length 1) (blk_length 1)
    rw [decide_eq_true rfl] at this
    go_simp
  simp only [Act.put, List.setIfInBounds_toArray, List.getElem_toArray, List.getElem_cons_succ, List.getElem_cons_zero, List.set_cons_succ, List.set_cons_zero]
  have hj2 : ∀ w', Below w22.heap.size w22 w' → w'.cell? ⟨X2, 2, none⟩ = some (.int .u8 8) := fun w' hb => ((j22.below hb j22.lt).cell 2).trans y2
  have hj3 : ∀ w', Below w22.heap.size w22 w' → w'.cell? ⟨X2, 3, none⟩ = some (.int .u8 0) := fun w' hb => ((j22.below hb j22.lt).cell 3).trans y3
  (iterate 25 (refine HoistK.yes (by rfl) (by kernel_rfl) ⟨?_, fun w hSw => ?_, ?_⟩; rotate_left; (· have q2 := hj2 w hSw; have q3 := hj3 w hSw; go_simp; try with_reducible rfl); simp only [Act.put, List.setIfInBounds_toArray, List.getElem_toArray, List.getElem_cons_succ, List.getElem_cons_zero, List.set_cons_succ, List.set_cons_zero]))
  refine HoistK.nil_ ?_
  simp only [opsAt, List.filterMap_cons, List.filterMap_nil, List.getElem?_toArray, List.getElem?_cons_succ, List.getElem?_cons_zero]
  refine EffS.cons_ fun _ hQ1 => ?_
  go_wp2_with fail
  refine (down_any p S20 fx9 _ (h22.is.below e23)).mono ?_
  rintro e w24 ⟨rfl, rfl⟩
  rw [fx9_d]
  go_wp2_with fail
  refine hQ1 _ _ e23 (EffS.nil_ ?_)
  clear hQ1
  refine (show HoistK _ _ _ [52, 53, 54, 55, 56, 57, 58] _ _ from ?_)
  (iterate 7 (refine HoistK.yes (by rfl) (by kernel_rfl) ⟨?_, fun w hSw => ?_, ?_⟩; rotate_left; (· go_simp; try with_reducible rfl); simp only [Act.put, List.setIfInBounds_toArray, List.getElem_toArray, List.getElem_cons_succ, List.getElem_cons_zero, List.set_cons_succ, List.set_cons_zero]))
  refine HoistK.nil_ ?_
  simp only [opsAt, List.filterMap_cons, List.filterMap_nil, List.getElem?_toArray, List.getElem?_cons_succ, List.getElem?_cons_zero]
  refine EffS.cons_ fun _ hQ1 => ?_
  go_wp2_with fail
  refine (loose_any q T fx4 _ (g22.is.below e23)).mono ?_
  rintro e w25 ⟨rfl, rfl⟩
  rw [fx4_l]
  go_wp2_with fail
  refine hQ1 _ _ e23 (EffS.nil_ ?_)
  clear hQ1
  refine (show HoistK _ _ _ [60, 61, 62] _ _ from ?_)
  (iterate 3 (refine HoistK.yes (by rfl) (by kernel_rfl) ⟨?_, fun w hSw => ?_, ?_⟩; rotate_left; (· go_simp; try with_reducible rfl); simp only [Act.put, List.setIfInBounds_toArray, List.getElem_toArray, List.getElem_cons_succ, List.getElem_cons_zero, List.set_cons_succ, List.set_cons_zero]))
  refine HoistK.nil_ (EffS.nil_ (fun Q' hQ' => ?_))
  go_wp2
  go_ret
  exact ⟨rfl, b22.trans (e23.mono b22.size)⟩

end Go.Proofs.Ythmjgcmaoniejaa
