/- Texts joined: CsM. -/
import Derived.Test.YtjjgmkfkmckkoaaDoorMb
import Derived.Test.YtjjgmkfkmckkoaaDoorMi
import Derived.Test.YtjjgmkfkmckkoaaDoorMa
/- CodecApart: unlike things have unlike bytes. -/
namespace Go.Proofs.YtjjgmkfkmckkoaaDoor
open Go.RowKit Go.Maps
attribute [-simp] Tryd.isAgg23 Tryd.typeInfo23 Tryd.isAgg37 Tryd.typeInfo37

set_option maxHeartbeats 8000000 in
set_option maxRecDepth 100000 in
theorem lawApart_any (w : World) {S : Nat → Prop} {x y : tMessage.El} {cs ds : List Value} {sent : Value} (h : tMessage.rep w S x cs) (h' : tMessage.rep w S y ds) (hl : (tMessage.enc x).length ≤ 1099511627776) (hl' : (tMessage.enc y).length ≤ 1099511627776) (hp : Pk w sent) :
    Calls Tryd.prog 4 #[.agg cs.toArray, .agg ds.toArray] w fun e w' => e = .returned (.bool true) ∧ Below w.heap.size w w' := by
  have hcl := Sh.rep_size _ _ _ h
  have hdl := Sh.rep_size _ _ _ h'
  have HI := Lib.hid (show (Tryd.prog.info? 37).map (·.size) = some cs.length from by rw [hcl]; kernel_rfl)
  have HJ := Lib.hid (show (Tryd.prog.info? 37).map (·.size) = some ds.length from by rw [hdl]; kernel_rfl)
  have hal := (Below.refl w.heap.size w).alloc (Nat.le_refl _) (.cells cs.toArray 37)
  have hal2 := hal.alloc (by simp) (.cells ds.toArray 37)
  have hx := (Blk.new w 37 cs.toArray).alloc (.cells ds.toArray 37)
  have hy := Blk.new (w.alloc (.cells cs.toArray 37)) 37 ds.toArray
  rw [show (w.alloc (.cells cs.toArray 37)).heap.size = w.heap.size + 1 by simp] at hy
  have HAW := Lib.hid (awake_any _ (hp.below hal2))
  have H := Lib.hid h
  have H' := Lib.hid h'
  have HL := Lib.hid hl
  have HL' := Lib.hid hl'
  have HAL := Lib.hid hal2
  have HX := Lib.hid hx
  have HY := Lib.hid hy
  clear h h' hl hl' hp hcl hdl hal hal2 hx hy
  go_enter Tryd.func4, Tryd.ntmps4
  go_wp2_with fail
  refine HAW.out.mono ?_
  rintro e w1 ⟨rfl, hb1⟩
  have HX1 := Lib.hid (HX.out.below hb1 HX.out.lt)
  have HY1 := Lib.hid (HY.out.below hb1 HY.out.lt)
  have HB1 := Lib.hid (HAL.out.trans (hb1.mono HAL.out.size))
  clear hb1 HAW HX HY HAL
  go_wp2_with (refine wpList_load_blk' rfl 37 _ rfl HX1.out rfl Tryd.underlying37 rfl HI.out ?_)
  refine (message_any _ (Sh.rep_below H.out HB1.out) HL.out).mono ?_
  rintro e w2 ⟨v2, rfl, f2⟩
  obtain ⟨xs, hxs⟩ : ∃ xs, xs = tMessage.enc x := ⟨_, rfl⟩
  obtain ⟨ys, hys⟩ : ∃ ys, ys = tMessage.enc y := ⟨_, rfl⟩
  have HXS := Lib.hid hxs
  have HYS := Lib.hid hys
  rw [← hxs] at f2
  clear hxs hys
  obtain ⟨A2, c2, rfl⟩ := f2.1.form
  have HX2 := Lib.hid (HX1.out.below f2.2 HX1.out.lt)
  have HY2 := Lib.hid (HY1.out.below f2.2 HY1.out.lt)
  have HB2 := Lib.hid (HB1.out.trans (f2.2.mono HB1.out.size))
  have HF2 := Lib.hid f2.1
  clear f2 HX1 HY1 HB1
  go_wp2_with (refine wpList_load_blk' rfl 37 _ rfl HY2.out rfl Tryd.underlying37 rfl HJ.out ?_)
  refine (message_any _ (Sh.rep_below H'.out HB2.out) HL'.out).mono ?_
  rintro e w3 ⟨v3, rfl, f3⟩
  rw [← HYS.out] at f3
  obtain ⟨A3, c3, rfl⟩ := f3.1.form
  have HX3 := Lib.hid (HX2.out.below f3.2 HX2.out.lt)
  have HY3 := Lib.hid (HY2.out.below f3.2 HY2.out.lt)
  have HB3 := Lib.hid (HB2.out.trans (f3.2.mono HB2.out.size))
  have HF23 := Lib.hid (HF2.out.below f3.2)
  have HF3 := Lib.hid f3.1
  clear f3 HX2 HY2 HB2 HF2
  go_wp2_with fail
  have hx := HX3.out.drew
  have hy := HY3.out.drew
  have hb := HB3.out.drew
  have h2 := HF23.out.drew.sub (T := fun _ => True) fun _ _ _ => trivial
  have h3 := HF3.out.drew.sub (T := fun _ => True) fun _ _ _ => trivial
  refine wp_region_segsV [([0, 1, 2, 3, 4, 5, 8], [6]), ([7], [9]), ([10, 11, 12], [13])] (by kernel_rfl) (by kernel_rfl) (by kernel_rfl) (by kernel_rfl)
    (SegV.mk (fun w' => Blk w' w.heap.size 37 cs.toArray ∧ Blk w' (w.heap.size + 1) 37 ds.toArray ∧ Bs w' (fun _ => True) (.slice A2 xs.length c2) xs ∧ Bs w' (fun _ => True) (.slice A3 ys.length c3) ys) (fun _ _ => trivial) ⟨hx, hy, h2, h3⟩ ?_)
  (refine HoistK.yes (by rfl) (by kernel_rfl) ⟨?_, fun w' hSw => ?_, ?_⟩; rotate_left; (· go_simp; try with_reducible rfl); simp only [Act.put, List.setIfInBounds_toArray, List.getElem_toArray, List.getElem_cons_zero, List.set_cons_succ, List.set_cons_zero])
  (refine HoistK.yes (by rfl) (by kernel_rfl) ⟨?_, fun w' hSw => ?_, ?_⟩; rotate_left; (· have e1 := run_str hSw.2.2.1 Tryd.underlying28 Tryd.underlying5 Tryd.underlying9; go_simp; try with_reducible rfl); simp only [Act.put, List.setIfInBounds_toArray, List.getElem_toArray, List.getElem_cons_succ, List.getElem_cons_zero, List.set_cons_succ, List.set_cons_zero])
  (refine HoistK.yes (by rfl) (by kernel_rfl) ⟨?_, fun w' hSw => ?_, ?_⟩; rotate_left; (· go_simp; try with_reducible rfl); simp only [Act.put, List.setIfInBounds_toArray, List.getElem_toArray, List.getElem_cons_succ, List.getElem_cons_zero, List.set_cons_succ, List.set_cons_zero])
  (refine HoistK.yes (by rfl) (by kernel_rfl) ⟨?_, fun w' hSw => ?_, ?_⟩; rotate_left; (· have e1 := run_str hSw.2.2.2 Tryd.underlying28 Tryd.underlying5 Tryd.underlying9; go_simp; try with_reducible rfl); simp only [Act.put, List.setIfInBounds_toArray, List.getElem_toArray, List.getElem_cons_succ, List.getElem_cons_zero, List.set_cons_succ, List.set_cons_zero])
  (refine HoistK.yes (by rfl) (by kernel_rfl) ⟨?_, fun w' hSw => ?_, ?_⟩; rotate_left; (· go_simp; try with_reducible rfl); simp only [Act.put, List.setIfInBounds_toArray, List.getElem_toArray, List.getElem_cons_succ, List.getElem_cons_zero, List.set_cons_succ, List.set_cons_zero])
  (refine HoistK.load (by rfl) (by kernel_rfl) 37 _ rfl w.heap.size 0 rfl cs _ (fun w' hw => hw.1.range) Tryd.underlying37 rfl HI.out ?_; simp only [Act.put, List.setIfInBounds_toArray, List.getElem_toArray, List.getElem_cons_succ, List.getElem_cons_zero, List.set_cons_succ, List.set_cons_zero])
  (refine HoistK.load (by rfl) (by kernel_rfl) 37 _ rfl (w.heap.size + 1) 0 rfl ds _ (fun w' hw => hw.2.1.range) Tryd.underlying37 rfl HJ.out ?_; simp only [Act.put, List.setIfInBounds_toArray, List.getElem_toArray, List.getElem_cons_succ, List.getElem_cons_zero, List.set_cons_succ, List.set_cons_zero])
  refine HoistK.nil_ ?_
  simp only [opsAt, List.filterMap_cons, List.filterMap_nil, List.getElem?_toArray, List.getElem?_cons_succ, List.getElem?_cons_zero]
  refine EffS.cons_ fun _ hQ => ?_
  go_wp2_with fail
  refine (rMessage_any _ (Sh.rep_below H.out hb) HL.out).mono ?_
  rintro e w4 ⟨v4, rfl, f4⟩
  rw [← HXS.out] at f4
  obtain ⟨A4, c4, rfl⟩ := f4.1.form
  have hx4 := hx.below f4.2 hx.lt
  have hy4 := hy.below f4.2 hy.lt
  have hb4 := hb.trans (f4.2.mono hb.size)
  have h24 := h2.below f4.2
  have h34 := h3.below f4.2
  have h44 := f4.1.sub (T := fun _ => True) fun _ _ _ => trivial
  clear f4 hx hy hb h2 h3
  go_wp2_with fail
  refine hQ _ _ ⟨hx4, hy4, h24, h34⟩ (EffS.nil_ (SegV.mk (fun w' => (Blk w' w.heap.size 37 cs.toArray ∧ Blk w' (w.heap.size + 1) 37 ds.toArray ∧ Bs w' (fun _ => True) (.slice A2 xs.length c2) xs ∧ Bs w' (fun _ => True) (.slice A3 ys.length c3) ys) ∧ Bs w' (fun _ => True) (.slice A4 xs.length c4) xs) (fun _ h => h.1) ⟨⟨hx4, hy4, h24, h34⟩, h44⟩ ?_))
  (refine HoistK.yes (by rfl) (by kernel_rfl) ⟨?_, fun w' hSw => ?_, ?_⟩; rotate_left; (· have e1 := run_str hSw.2 Tryd.underlying28 Tryd.underlying5 Tryd.underlying9; go_simp; try with_reducible rfl); simp only [Act.put, List.setIfInBounds_toArray, List.getElem_toArray, List.getElem_cons_succ, List.getElem_cons_zero, List.set_cons_succ, List.set_cons_zero])
  refine HoistK.nil_ ?_
  simp only [opsAt, List.filterMap_cons, List.filterMap_nil, List.getElem?_toArray, List.getElem?_cons_succ, List.getElem?_cons_zero]
  refine EffS.cons_ fun _ hQ => ?_
  go_wp2_with fail
  refine (rMessage_any _ (Sh.rep_below H'.out hb4) HL'.out).mono ?_
  rintro e w5 ⟨v5, rfl, f5⟩
  rw [← HYS.out] at f5
  obtain ⟨A5, c5, rfl⟩ := f5.1.form
  have hx5 := hx4.below f5.2 hx4.lt
  have hy5 := hy4.below f5.2 hy4.lt
  have hb5 := hb4.trans (f5.2.mono hb4.size)
  have h25 := h24.below f5.2
  have h35 := h34.below f5.2
  have h45 := h44.below f5.2
  have h55 := f5.1.sub (T := fun _ => True) fun _ _ _ => trivial
  clear f5 hx4 hy4 hb4 h24 h34 h44
  go_wp2_with fail
  refine hQ _ _ ⟨⟨hx5, hy5, h25, h35⟩, h45⟩ (EffS.nil_ (SegV.mk (fun w' => ((Blk w' w.heap.size 37 cs.toArray ∧ Blk w' (w.heap.size + 1) 37 ds.toArray ∧ Bs w' (fun _ => True) (.slice A2 xs.length c2) xs ∧ Bs w' (fun _ => True) (.slice A3 ys.length c3) ys) ∧ Bs w' (fun _ => True) (.slice A4 xs.length c4) xs) ∧ Bs w' (fun _ => True) (.slice A5 ys.length c5) ys) (fun _ h => h.1) ⟨⟨⟨hx5, hy5, h25, h35⟩, h45⟩, h55⟩ ?_))
  (refine HoistK.yes (by rfl) (by kernel_rfl) ⟨?_, fun w' hSw => ?_, ?_⟩; rotate_left; (· have e1 := run_str hSw.2 Tryd.underlying28 Tryd.underlying5 Tryd.underlying9; go_simp; try with_reducible rfl); simp only [Act.put, List.setIfInBounds_toArray, List.getElem_toArray, List.getElem_cons_succ, List.getElem_cons_zero, List.set_cons_succ, List.set_cons_zero])
  (refine HoistK.yes (by rfl) (by kernel_rfl) ⟨?_, fun w' hSw => ?_, ?_⟩; rotate_left; (· go_simp; try with_reducible rfl); simp only [Act.put, List.setIfInBounds_toArray, List.getElem_toArray, List.getElem_cons_succ, List.getElem_cons_zero, List.set_cons_succ, List.set_cons_zero])
  (refine HoistK.yes (by rfl) (by kernel_rfl) ⟨?_, fun w' hSw => ?_, ?_⟩; rotate_left; (· go_simp; try with_reducible rfl); simp only [Act.put, List.setIfInBounds_toArray, List.getElem_toArray, List.getElem_cons_succ, List.getElem_cons_zero, List.set_cons_succ, List.set_cons_zero])
  refine HoistK.nil_ ?_
  simp only [opsAt, List.filterMap_cons, List.filterMap_nil, List.getElem?_toArray, List.getElem?_cons_succ, List.getElem?_cons_zero]
  refine EffS.cons_ fun _ hQ => ?_
  go_wp2_with fail
  refine hQ _ _ ⟨⟨⟨hx5, hy5, h25, h35⟩, h45⟩, h55⟩ (EffS.nil_ fun _ hQ => ?_)
  go_wp2_with fail
  go_ret
  exact ⟨rfl, hb5⟩

end Go.Proofs.YtjjgmkfkmckkoaaDoor
