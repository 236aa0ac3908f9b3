/- Texts joined: CrM CrN CrO CdV CdW CdX CdY CdZ CeA CgC CfX CgD CfY CgE. -/
import Derived.Test.YtjjgmkfkmckkoabGreatDoorMb
import Derived.Test.YtjjgmkfkmckkoabGreatDoorMa
import Derived.Test.YtjjgmkfkmckkoabGreatDoorMd
import Derived.Test.YtjjgmkfkmckkoabGreatDoorMc
/- Codec: reference: a vote. -/
namespace Go.Proofs.YtjjgmkfkmckkoabGreatDoor
open Go.RowKit Go.Maps
attribute [-simp] Tryz.isAgg24 Tryz.typeInfo24 Tryz.isAgg37 Tryz.typeInfo37

set_option maxHeartbeats 8000000 in
set_option maxRecDepth 100000 in
theorem rVote_any (w : World) {S : Nat → Prop} {x : tVote.El} {cs : List Value} (h : tVote.rep w S x cs) (hl : (tVote.enc x).length ≤ 1099511627776) :
    Calls Tryz.prog 60 #[.agg cs.toArray] w fun e w' => ∃ v', e = .returned v' ∧ Fresh w w' v' (tVote.enc x) := by
  obtain ⟨x0, x1, x2, x3, x4, x5, _⟩ := x
  obtain ⟨c0, _, rfl, ⟨rfl, _⟩, c1, _, rfl, ⟨rfl, _⟩, c2, _, rfl, ⟨rfl, _⟩, c3, _, rfl, ⟨rfl, l3⟩, c4, _, rfl, ⟨rfl, _⟩, c5, _, rfl, r5, rfl⟩ := h
  have l5 : c5.length = 33 := Sh.rep_size _ _ _ r5
  obtain ⟨y5, hy5⟩ : ∃ y, y = c5 := ⟨_, rfl⟩
  subst hy5
  have R5 := Lib.hid r5; clear r5
  simp only [nk_t]
  obtain ⟨C, hC⟩ : ∃ C, C = [Value.int .i64 x0] ++ ([Value.int .i64 x1] ++ ([Value.int .i64 x2] ++ (u8s x3 ++ ([Value.int .i64 x4] ++ (y5 ++ ([])))))) := ⟨_, rfl⟩
  rw [← hC]
  have hf : ∀ w', Blk w' w.heap.size 87 C.toArray → w'.cell? ⟨w.heap.size, 0, none⟩ = some (.int .i64 x0) ∧ w'.cell? ⟨w.heap.size, 1, none⟩ = some (.int .i64 x1) ∧ w'.cell? ⟨w.heap.size, 2, none⟩ = some (.int .i64 x2) ∧ w'.rangeAt w.heap.size 3 (u8s x3) ∧ w'.cell? ⟨w.heap.size, 35, none⟩ = some (.int .i64 x4) ∧ w'.rangeAt w.heap.size 36 y5 := fun w' hb => by
    have := hb.lies [[Value.int .i64 x0], [Value.int .i64 x1], [Value.int .i64 x2], u8s x3, [Value.int .i64 x4], y5] [] (by rw [hC]; simp)
    simp only [Lies, u8s_length, l3, List.length_cons, List.length_nil] at this
    obtain ⟨s0, s1, s2, s3, s4, s5, _⟩ := this
    exact ⟨Lies.one s0, Lies.one s1, Lies.one s2, s3, Lies.one s4, s5⟩
  have HF := Lib.hid hf
  clear hf hC
  have L3 := Lib.hid l3; clear l3
  have L5 := Lib.hid l5; clear l5
  have hl' : (joinB [numB x0, numB x1, numB x2, x3, numB x4, tSig.enc x5]).length ≤ 1099511627776 := hl
  have HLL := Lib.hid hl'
  clear hl hl'
  go_enter Tryz.func60, Tryz.ntmps60
  go_wp2_with fail
  have hsz := (Blk.new w 87 C.toArray).lt
  have hb0 : Blk (w.alloc (.cells C.toArray 87)).drew w.heap.size 87 C.toArray := (Blk.new w 87 C.toArray).drew
  have hbw : Below w.heap.size w (w.alloc (.cells C.toArray 87)).drew := ((Below.refl w.heap.size w).alloc (Nat.le_refl _) _).drew
  have D3 := Lib.hid (Bs.of_range32 (S := fun b => b = w.heap.size) rfl hb0.lt ((HF.out _ hb0).2.2.2.1) L3.out)
  refine wp_region_hoist [0, 1, 2, 4, 5, 6, 8, 9, 10, 12, 13, 14, 15, 16, 18, 19] [3, 7, 11, 17, 20] [21, 22, 23] (fun w' => Blk w' w.heap.size 87 C.toArray)
    (by kernel_rfl) (by kernel_rfl) (by kernel_rfl) (by kernel_rfl) (by kernel_rfl) (by kernel_rfl) hb0 ?_
  (refine HoistK.yes (by rfl) (by kernel_rfl) ⟨?_, fun w' hSw => ?_, ?_⟩; rotate_left; (· go_simp; try with_reducible rfl); simp only [Act.put, List.setIfInBounds_toArray, List.getElem_toArray, List.getElem_cons_zero, List.set_cons_succ, List.set_cons_zero])
  (refine HoistK.yes (by rfl) (by kernel_rfl) ⟨?_, fun w' hSw => ?_, ?_⟩; rotate_left; (· obtain ⟨s0, s1, s2, s3, s4, s5⟩ := HF.out _ hSw; go_simp; try with_reducible rfl); simp only [Act.put, List.setIfInBounds_toArray, List.getElem_toArray, List.getElem_cons_succ, List.getElem_cons_zero, List.set_cons_succ, List.set_cons_zero])
  (refine HoistK.yes (by rfl) (by kernel_rfl) ⟨?_, fun w' hSw => ?_, ?_⟩; rotate_left; (· go_simp; try with_reducible rfl); simp only [Act.put, List.setIfInBounds_toArray, List.getElem_toArray, List.getElem_cons_succ, List.getElem_cons_zero, List.set_cons_succ, List.set_cons_zero])
  (refine HoistK.yes (by rfl) (by kernel_rfl) ⟨?_, fun w' hSw => ?_, ?_⟩; rotate_left; (· go_simp; try with_reducible rfl); simp only [Act.put, List.setIfInBounds_toArray, List.getElem_toArray, List.getElem_cons_succ, List.getElem_cons_zero, List.set_cons_succ, List.set_cons_zero])
  (refine HoistK.yes (by rfl) (by kernel_rfl) ⟨?_, fun w' hSw => ?_, ?_⟩; rotate_left; (· obtain ⟨s0, s1, s2, s3, s4, s5⟩ := HF.out _ hSw; go_simp; try with_reducible rfl); simp only [Act.put, List.setIfInBounds_toArray, List.getElem_toArray, List.getElem_cons_succ, List.getElem_cons_zero, List.set_cons_succ, List.set_cons_zero])
  (refine HoistK.yes (by rfl) (by kernel_rfl) ⟨?_, fun w' hSw => ?_, ?_⟩; rotate_left; (· go_simp; try with_reducible rfl); simp only [Act.put, List.setIfInBounds_toArray, List.getElem_toArray, List.getElem_cons_succ, List.getElem_cons_zero, List.set_cons_succ, List.set_cons_zero])
  (refine HoistK.yes (by rfl) (by kernel_rfl) ⟨?_, fun w' hSw => ?_, ?_⟩; rotate_left; (· go_simp; try with_reducible rfl); simp only [Act.put, List.setIfInBounds_toArray, List.getElem_toArray, List.getElem_cons_succ, List.getElem_cons_zero, List.set_cons_succ, List.set_cons_zero])
  (refine HoistK.yes (by rfl) (by kernel_rfl) ⟨?_, fun w' hSw => ?_, ?_⟩; rotate_left; (· obtain ⟨s0, s1, s2, s3, s4, s5⟩ := HF.out _ hSw; go_simp; try with_reducible rfl); simp only [Act.put, List.setIfInBounds_toArray, List.getElem_toArray, List.getElem_cons_succ, List.getElem_cons_zero, List.set_cons_succ, List.set_cons_zero])
  (refine HoistK.yes (by rfl) (by kernel_rfl) ⟨?_, fun w' hSw => ?_, ?_⟩; rotate_left; (· go_simp; try with_reducible rfl); simp only [Act.put, List.setIfInBounds_toArray, List.getElem_toArray, List.getElem_cons_succ, List.getElem_cons_zero, List.set_cons_succ, List.set_cons_zero])
  (refine HoistK.yes (by rfl) (by kernel_rfl) ⟨?_, fun w' hSw => ?_, ?_⟩; rotate_left; (· go_simp; try with_reducible rfl); simp only [Act.put, List.setIfInBounds_toArray, List.getElem_toArray, List.getElem_cons_succ, List.getElem_cons_zero, List.set_cons_succ, List.set_cons_zero])
  (refine HoistK.yes (by rfl) (by kernel_rfl) ⟨?_, fun w' hSw => ?_, ?_⟩; rotate_left; (· go_simp; try with_reducible rfl); simp only [Act.put, List.setIfInBounds_toArray, List.getElem_toArray, List.getElem_cons_succ, List.getElem_cons_zero, List.set_cons_succ, List.set_cons_zero])
  (refine HoistK.yes (by rfl) (by kernel_rfl) ⟨?_, fun w' hSw => ?_, ?_⟩; rotate_left; (· go_simp; try with_reducible rfl); simp only [Act.put, List.setIfInBounds_toArray, List.getElem_toArray, List.getElem_cons_succ, List.getElem_cons_zero, List.set_cons_succ, List.set_cons_zero])
  (refine HoistK.yes (by rfl) (by kernel_rfl) ⟨?_, fun w' hSw => ?_, ?_⟩; rotate_left; (· obtain ⟨s0, s1, s2, s3, s4, s5⟩ := HF.out _ hSw; go_simp; try with_reducible rfl); simp only [Act.put, List.setIfInBounds_toArray, List.getElem_toArray, List.getElem_cons_succ, List.getElem_cons_zero, List.set_cons_succ, List.set_cons_zero])
  (refine HoistK.yes (by rfl) (by kernel_rfl) ⟨?_, fun w' hSw => ?_, ?_⟩; rotate_left; (· go_simp; try with_reducible rfl); simp only [Act.put, List.setIfInBounds_toArray, List.getElem_toArray, List.getElem_cons_succ, List.getElem_cons_zero, List.set_cons_succ, List.set_cons_zero])
  (refine HoistK.yes (by rfl) (by kernel_rfl) ⟨?_, fun w' hSw => ?_, ?_⟩; rotate_left; (· go_simp; try with_reducible rfl); simp only [Act.put, List.setIfInBounds_toArray, List.getElem_toArray, List.getElem_cons_succ, List.getElem_cons_zero, List.set_cons_succ, List.set_cons_zero])
  (refine HoistK.load (by rfl) (by kernel_rfl) 37 _ rfl w.heap.size 36 rfl (y5) _ (fun w' hw => (HF.out w' hw).2.2.2.2.2) Tryz.underlying37 rfl (by rw [L5.out]; kernel_rfl) ?_; simp only [Act.put, List.setIfInBounds_toArray, List.getElem_toArray, List.getElem_cons_succ, List.getElem_cons_zero, List.set_cons_succ, List.set_cons_zero])
  refine HoistK.nil_ ?_
  simp only [opsAt, List.filterMap_cons, List.filterMap_nil, List.getElem?_toArray, List.getElem?_cons_succ, List.getElem?_cons_zero]
  have g0 : Got (w.alloc (.cells C.toArray 87)).drew (w.alloc (.cells C.toArray 87)).drew [] [] := Got.start (Below.refl _ _)
  refine Effects.cons_ fun _ hQ1 => ?_
  go_wp2_with fail
  refine (rNumI_any _ _).mono ?_
  rintro e u1 ⟨v1, rfl, f1⟩
  have g1 := g0.step f1
  have hb1 := hb0.below f1.2 hb0.lt
  clear f1
  go_wp2_with fail
  refine hQ1 _ _ hb1 (Effects.cons_ fun _ hQ2 => ?_)
  clear hQ1 hb0 g0
  go_wp2_with fail
  refine (rNumI_any _ _).mono ?_
  rintro e u2 ⟨v2, rfl, f2⟩
  have g2 := g1.step f2
  have hb2 := hb1.below f2.2 hb1.lt
  clear f2
  go_wp2_with fail
  refine hQ2 _ _ hb2 (Effects.cons_ fun _ hQ3 => ?_)
  clear hQ2 hb1 g1
  go_wp2_with fail
  refine (rNumI_any _ _).mono ?_
  rintro e u3 ⟨v3, rfl, f3⟩
  have g3 := g2.step f3
  have hb3 := hb2.below f3.2 hb2.lt
  clear f3
  go_wp2_with fail
  refine hQ3 _ _ hb3 (Effects.cons_ fun _ hQ4 => ?_)
  clear hQ3 hb2 g2
  have g4 := g3.old D3.out
  clear g3
  go_wp2_with fail
  refine (rNumI_any _ _).mono ?_
  rintro e u4 ⟨v5, rfl, f4⟩
  have g5 := g4.step f4
  have hb4 := hb3.below f4.2 hb3.lt
  clear f4
  go_wp2_with fail
  refine hQ4 _ _ hb4 (Effects.cons_ fun _ hQ5 => ?_)
  clear hQ4 hb3 g4
  go_wp2_with fail
  refine (rSig_any _ (Sh.rep_below R5.out (hbw.trans (g5.1.mono hbw.size))) (by have h1 := HLL.out; rw [joinB_length] at h1; have h2 := joinP_mem (l := [numB x0, numB x1, numB x2, x3, numB x4, tSig.enc x5]) (x := tSig.enc x5) (by simp); omega)).mono ?_
  rintro e u5 ⟨v6, rfl, f5⟩
  have g6 := g5.step f5
  have hb5 := hb4.below f5.2 hb4.lt
  clear f5
  go_wp2_with fail
  refine hQ5 _ _ hb5 (Effects.nil_ fun _ hQ6 => ?_)
  clear hQ5 hb4 g5
  have hcs : ∀ v ∈ [v1, v2, v3, (.slice (some ⟨w.heap.size, 3, none⟩) 32 32), v5, v6], v.cells = #[v] := fun v hv => by
    obtain ⟨i, hi, rfl⟩ := List.getElem_of_mem hv
    obtain ⟨y, _, hr⟩ := g6.2.get i hi
    obtain ⟨A, c, e⟩ := hr.form
    have e' : [v1, v2, v3, (.slice (some ⟨w.heap.size, 3, none⟩) 32 32), v5, v6][i] = .slice A y.length c := e
    rw [e']; rfl
  refine wpList_rows rfl 6 _ rfl [v1, v2, v3, (.slice (some ⟨w.heap.size, 3, none⟩) 32 32), v5, v6] rfl (by decide) (by decide) hcs (by simp [Act.eval]) ?_
  have hr : Bsr (u5.alloc (.cells [v1, v2, v3, (.slice (some ⟨w.heap.size, 3, none⟩) 32 32), v5, v6].toArray 50)) (fun b => b < u5.heap.size + 1) (.slice (some ⟨u5.heap.size, 0, none⟩) 6 6) [numB x0, numB x1, numB x2, x3, numB x4, tSig.enc x5] := g6.row (by simp [maxLen]) 50
  have hj := rJoin_any _ hr (by have := HLL.out; omega) (fun b hb => by simpa using hb)
  have hbb : Below w.heap.size w (u5.alloc (.cells [v1, v2, v3, (.slice (some ⟨w.heap.size, 3, none⟩) 32 32), v5, v6].toArray 50)) := (hbw.trans (g6.1.mono hbw.size)).alloc (hbw.trans (g6.1.mono hbw.size)).size _
  have HJ := Lib.hid hj
  have HBB := Lib.hid hbb
  clear hj hbb hr g6 hcs
  go_wp2_with fail
  refine HJ.out.mono ?_
  rintro e uz ⟨vz, rfl, fz⟩
  go_wp2_with fail
  go_ret
  exact ⟨vz, rfl, fz.1.sub fun b hb _ => ⟨Nat.le_trans HBB.out.size hb.1, hb.2⟩, HBB.out.trans (fz.2.mono HBB.out.size)⟩

end Go.Proofs.YtjjgmkfkmckkoabGreatDoor

/- Codec: reference: a timeout. -/
namespace Go.Proofs.YtjjgmkfkmckkoabGreatDoor
open Go.RowKit Go.Maps
attribute [-simp] Tryz.isAgg24 Tryz.typeInfo24 Tryz.isAgg37 Tryz.typeInfo37 Tryz.isAgg33 Tryz.typeInfo33

set_option maxHeartbeats 8000000 in
set_option maxRecDepth 100000 in
theorem rTimeout_any (w : World) {S : Nat → Prop} {x : tTimeout.El} {cs : List Value} (h : tTimeout.rep w S x cs) (hl : (tTimeout.enc x).length ≤ 1099511627776) :
    Calls Tryz.prog 61 #[.agg cs.toArray] w fun e w' => ∃ v', e = .returned v' ∧ Fresh w w' v' (tTimeout.enc x) := by
  obtain ⟨x0, x1, x2, x3, x4, x5, _⟩ := x
  obtain ⟨c0, _, rfl, ⟨rfl, _⟩, c1, _, rfl, ⟨rfl, _⟩, c2, _, rfl, ⟨rfl, _⟩, c3, _, rfl, r3, c4, _, rfl, ⟨rfl, _⟩, c5, _, rfl, r5, rfl⟩ := h
  have l3 : c3.length = 37 := Sh.rep_size _ _ _ r3
  obtain ⟨y3, hy3⟩ : ∃ y, y = c3 := ⟨_, rfl⟩
  subst hy3
  have l5 : c5.length = 33 := Sh.rep_size _ _ _ r5
  obtain ⟨y5, hy5⟩ : ∃ y, y = c5 := ⟨_, rfl⟩
  subst hy5
  have R3 := Lib.hid r3; clear r3
  have R5 := Lib.hid r5; clear r5
  simp only [nk_t]
  obtain ⟨C, hC⟩ : ∃ C, C = [Value.int .i64 x0] ++ ([Value.int .i64 x1] ++ ([Value.int .i64 x2] ++ (y3 ++ ([Value.int .i64 x4] ++ (y5 ++ ([])))))) := ⟨_, rfl⟩
  rw [← hC]
  have hf : ∀ w', Blk w' w.heap.size 91 C.toArray → w'.cell? ⟨w.heap.size, 0, none⟩ = some (.int .i64 x0) ∧ w'.cell? ⟨w.heap.size, 1, none⟩ = some (.int .i64 x1) ∧ w'.cell? ⟨w.heap.size, 2, none⟩ = some (.int .i64 x2) ∧ w'.rangeAt w.heap.size 3 y3 ∧ w'.cell? ⟨w.heap.size, 40, none⟩ = some (.int .i64 x4) ∧ w'.rangeAt w.heap.size 41 y5 := fun w' hb => by
    have := hb.lies [[Value.int .i64 x0], [Value.int .i64 x1], [Value.int .i64 x2], y3, [Value.int .i64 x4], y5] [] (by rw [hC]; simp)
    simp only [Lies, l3, List.length_cons, List.length_nil] at this
    obtain ⟨s0, s1, s2, s3, s4, s5, _⟩ := this
    exact ⟨Lies.one s0, Lies.one s1, Lies.one s2, s3, Lies.one s4, s5⟩
  have HF := Lib.hid hf
  clear hf hC
  have L3 := Lib.hid l3; clear l3
  have L5 := Lib.hid l5; clear l5
  have hl' : (joinB [numB x0, numB x1, numB x2, tQC.enc x3, numB x4, tSig.enc x5]).length ≤ 1099511627776 := hl
  have HLL := Lib.hid hl'
  clear hl hl'
  go_enter Tryz.func61, Tryz.ntmps61
  go_wp2_with fail
  have hsz := (Blk.new w 91 C.toArray).lt
  have hb0 : Blk (w.alloc (.cells C.toArray 91)).drew w.heap.size 91 C.toArray := (Blk.new w 91 C.toArray).drew
  have hbw : Below w.heap.size w (w.alloc (.cells C.toArray 91)).drew := ((Below.refl w.heap.size w).alloc (Nat.le_refl _) _).drew
  refine wp_region_hoist [0, 1, 2, 4, 5, 6, 8, 9, 10, 12, 13, 15, 16, 17, 19, 20] [3, 7, 11, 14, 18, 21] [22, 23, 24] (fun w' => Blk w' w.heap.size 91 C.toArray)
    (by kernel_rfl) (by kernel_rfl) (by kernel_rfl) (by kernel_rfl) (by kernel_rfl) (by kernel_rfl) hb0 ?_
  (refine HoistK.yes (by rfl) (by kernel_rfl) ⟨?_, fun w' hSw => ?_, ?_⟩; rotate_left; (· go_simp; try with_reducible rfl); simp only [Act.put, List.setIfInBounds_toArray, List.getElem_toArray, List.getElem_cons_zero, List.set_cons_succ, List.set_cons_zero])
  (refine HoistK.yes (by rfl) (by kernel_rfl) ⟨?_, fun w' hSw => ?_, ?_⟩; rotate_left; (· obtain ⟨s0, s1, s2, s3, s4, s5⟩ := HF.out _ hSw; go_simp; try with_reducible rfl); simp only [Act.put, List.setIfInBounds_toArray, List.getElem_toArray, List.getElem_cons_succ, List.getElem_cons_zero, List.set_cons_succ, List.set_cons_zero])
  (refine HoistK.yes (by rfl) (by kernel_rfl) ⟨?_, fun w' hSw => ?_, ?_⟩; rotate_left; (· go_simp; try with_reducible rfl); simp only [Act.put, List.setIfInBounds_toArray, List.getElem_toArray, List.getElem_cons_succ, List.getElem_cons_zero, List.set_cons_succ, List.set_cons_zero])
  (refine HoistK.yes (by rfl) (by kernel_rfl) ⟨?_, fun w' hSw => ?_, ?_⟩; rotate_left; (· go_simp; try with_reducible rfl); simp only [Act.put, List.setIfInBounds_toArray, List.getElem_toArray, List.getElem_cons_succ, List.getElem_cons_zero, List.set_cons_succ, List.set_cons_zero])
  (refine HoistK.yes (by rfl) (by kernel_rfl) ⟨?_, fun w' hSw => ?_, ?_⟩; rotate_left; (· obtain ⟨s0, s1, s2, s3, s4, s5⟩ := HF.out _ hSw; go_simp; try with_reducible rfl); simp only [Act.put, List.setIfInBounds_toArray, List.getElem_toArray, List.getElem_cons_succ, List.getElem_cons_zero, List.set_cons_succ, List.set_cons_zero])
  (refine HoistK.yes (by rfl) (by kernel_rfl) ⟨?_, fun w' hSw => ?_, ?_⟩; rotate_left; (· go_simp; try with_reducible rfl); simp only [Act.put, List.setIfInBounds_toArray, List.getElem_toArray, List.getElem_cons_succ, List.getElem_cons_zero, List.set_cons_succ, List.set_cons_zero])
  (refine HoistK.yes (by rfl) (by kernel_rfl) ⟨?_, fun w' hSw => ?_, ?_⟩; rotate_left; (· go_simp; try with_reducible rfl); simp only [Act.put, List.setIfInBounds_toArray, List.getElem_toArray, List.getElem_cons_succ, List.getElem_cons_zero, List.set_cons_succ, List.set_cons_zero])
  (refine HoistK.yes (by rfl) (by kernel_rfl) ⟨?_, fun w' hSw => ?_, ?_⟩; rotate_left; (· obtain ⟨s0, s1, s2, s3, s4, s5⟩ := HF.out _ hSw; go_simp; try with_reducible rfl); simp only [Act.put, List.setIfInBounds_toArray, List.getElem_toArray, List.getElem_cons_succ, List.getElem_cons_zero, List.set_cons_succ, List.set_cons_zero])
  (refine HoistK.yes (by rfl) (by kernel_rfl) ⟨?_, fun w' hSw => ?_, ?_⟩; rotate_left; (· go_simp; try with_reducible rfl); simp only [Act.put, List.setIfInBounds_toArray, List.getElem_toArray, List.getElem_cons_succ, List.getElem_cons_zero, List.set_cons_succ, List.set_cons_zero])
  (refine HoistK.yes (by rfl) (by kernel_rfl) ⟨?_, fun w' hSw => ?_, ?_⟩; rotate_left; (· go_simp; try with_reducible rfl); simp only [Act.put, List.setIfInBounds_toArray, List.getElem_toArray, List.getElem_cons_succ, List.getElem_cons_zero, List.set_cons_succ, List.set_cons_zero])
  (refine HoistK.load (by rfl) (by kernel_rfl) 33 _ rfl w.heap.size 3 rfl (y3) _ (fun w' hw => (HF.out w' hw).2.2.2.1) Tryz.underlying33 rfl (by rw [L3.out]; kernel_rfl) ?_; simp only [Act.put, List.setIfInBounds_toArray, List.getElem_toArray, List.getElem_cons_succ, List.getElem_cons_zero, List.set_cons_succ, List.set_cons_zero])
  (refine HoistK.yes (by rfl) (by kernel_rfl) ⟨?_, fun w' hSw => ?_, ?_⟩; rotate_left; (· go_simp; try with_reducible rfl); simp only [Act.put, List.setIfInBounds_toArray, List.getElem_toArray, List.getElem_cons_succ, List.getElem_cons_zero, List.set_cons_succ, List.set_cons_zero])
  (refine HoistK.yes (by rfl) (by kernel_rfl) ⟨?_, fun w' hSw => ?_, ?_⟩; rotate_left; (· obtain ⟨s0, s1, s2, s3, s4, s5⟩ := HF.out _ hSw; go_simp; try with_reducible rfl); simp only [Act.put, List.setIfInBounds_toArray, List.getElem_toArray, List.getElem_cons_succ, List.getElem_cons_zero, List.set_cons_succ, List.set_cons_zero])
  (refine HoistK.yes (by rfl) (by kernel_rfl) ⟨?_, fun w' hSw => ?_, ?_⟩; rotate_left; (· go_simp; try with_reducible rfl); simp only [Act.put, List.setIfInBounds_toArray, List.getElem_toArray, List.getElem_cons_succ, List.getElem_cons_zero, List.set_cons_succ, List.set_cons_zero])
  (refine HoistK.yes (by rfl) (by kernel_rfl) ⟨?_, fun w' hSw => ?_, ?_⟩; rotate_left; (· go_simp; try with_reducible rfl); simp only [Act.put, List.setIfInBounds_toArray, List.getElem_toArray, List.getElem_cons_succ, List.getElem_cons_zero, List.set_cons_succ, List.set_cons_zero])
  (refine HoistK.load (by rfl) (by kernel_rfl) 37 _ rfl w.heap.size 41 rfl (y5) _ (fun w' hw => (HF.out w' hw).2.2.2.2.2) Tryz.underlying37 rfl (by rw [L5.out]; kernel_rfl) ?_; simp only [Act.put, List.setIfInBounds_toArray, List.getElem_toArray, List.getElem_cons_succ, List.getElem_cons_zero, List.set_cons_succ, List.set_cons_zero])
  refine HoistK.nil_ ?_
  simp only [opsAt, List.filterMap_cons, List.filterMap_nil, List.getElem?_toArray, List.getElem?_cons_succ, List.getElem?_cons_zero]
  have g0 : Got (w.alloc (.cells C.toArray 91)).drew (w.alloc (.cells C.toArray 91)).drew [] [] := Got.start (Below.refl _ _)
  refine Effects.cons_ fun _ hQ1 => ?_
  go_wp2_with fail
  refine (rNumI_any _ _).mono ?_
  rintro e u1 ⟨v1, rfl, f1⟩
  have g1 := g0.step f1
  have hb1 := hb0.below f1.2 hb0.lt
  clear f1
  go_wp2_with fail
  refine hQ1 _ _ hb1 (Effects.cons_ fun _ hQ2 => ?_)
  clear hQ1 hb0 g0
  go_wp2_with fail
  refine (rNumI_any _ _).mono ?_
  rintro e u2 ⟨v2, rfl, f2⟩
  have g2 := g1.step f2
  have hb2 := hb1.below f2.2 hb1.lt
  clear f2
  go_wp2_with fail
  refine hQ2 _ _ hb2 (Effects.cons_ fun _ hQ3 => ?_)
  clear hQ2 hb1 g1
  go_wp2_with fail
  refine (rNumI_any _ _).mono ?_
  rintro e u3 ⟨v3, rfl, f3⟩
  have g3 := g2.step f3
  have hb3 := hb2.below f3.2 hb2.lt
  clear f3
  go_wp2_with fail
  refine hQ3 _ _ hb3 (Effects.cons_ fun _ hQ4 => ?_)
  clear hQ3 hb2 g2
  go_wp2_with fail
  refine (rQC_any _ (Sh.rep_below R3.out (hbw.trans (g3.1.mono hbw.size))) (by have h1 := HLL.out; rw [joinB_length] at h1; have h2 := joinP_mem (l := [numB x0, numB x1, numB x2, tQC.enc x3, numB x4, tSig.enc x5]) (x := tQC.enc x3) (by simp); omega)).mono ?_
  rintro e u4 ⟨v4, rfl, f4⟩
  have g4 := g3.step f4
  have hb4 := hb3.below f4.2 hb3.lt
  clear f4
  go_wp2_with fail
  refine hQ4 _ _ hb4 (Effects.cons_ fun _ hQ5 => ?_)
  clear hQ4 hb3 g3
  go_wp2_with fail
  refine (rNumI_any _ _).mono ?_
  rintro e u5 ⟨v5, rfl, f5⟩
  have g5 := g4.step f5
  have hb5 := hb4.below f5.2 hb4.lt
  clear f5
  go_wp2_with fail
  refine hQ5 _ _ hb5 (Effects.cons_ fun _ hQ6 => ?_)
  clear hQ5 hb4 g4
  go_wp2_with fail
  refine (rSig_any _ (Sh.rep_below R5.out (hbw.trans (g5.1.mono hbw.size))) (by have h1 := HLL.out; rw [joinB_length] at h1; have h2 := joinP_mem (l := [numB x0, numB x1, numB x2, tQC.enc x3, numB x4, tSig.enc x5]) (x := tSig.enc x5) (by simp); omega)).mono ?_
  rintro e u6 ⟨v6, rfl, f6⟩
  have g6 := g5.step f6
  have hb6 := hb5.below f6.2 hb5.lt
  clear f6
  go_wp2_with fail
  refine hQ6 _ _ hb6 (Effects.nil_ fun _ hQ7 => ?_)
  clear hQ6 hb5 g5
  have hcs : ∀ v ∈ [v1, v2, v3, v4, v5, v6], v.cells = #[v] := fun v hv => by
    obtain ⟨i, hi, rfl⟩ := List.getElem_of_mem hv
    obtain ⟨y, _, hr⟩ := g6.2.get i hi
    obtain ⟨A, c, e⟩ := hr.form
    have e' : [v1, v2, v3, v4, v5, v6][i] = .slice A y.length c := e
    rw [e']; rfl
  refine wpList_rows rfl 6 _ rfl [v1, v2, v3, v4, v5, v6] rfl (by decide) (by decide) hcs (by simp [Act.eval]) ?_
  have hr : Bsr (u6.alloc (.cells [v1, v2, v3, v4, v5, v6].toArray 50)) (fun b => b < u6.heap.size + 1) (.slice (some ⟨u6.heap.size, 0, none⟩) 6 6) [numB x0, numB x1, numB x2, tQC.enc x3, numB x4, tSig.enc x5] := g6.row (by simp [maxLen]) 50
  have hj := rJoin_any _ hr (by have := HLL.out; omega) (fun b hb => by simpa using hb)
  have hbb : Below w.heap.size w (u6.alloc (.cells [v1, v2, v3, v4, v5, v6].toArray 50)) := (hbw.trans (g6.1.mono hbw.size)).alloc (hbw.trans (g6.1.mono hbw.size)).size _
  have HJ := Lib.hid hj
  have HBB := Lib.hid hbb
  clear hj hbb hr g6 hcs
  go_wp2_with fail
  refine HJ.out.mono ?_
  rintro e uz ⟨vz, rfl, fz⟩
  go_wp2_with fail
  go_ret
  exact ⟨vz, rfl, fz.1.sub fun b hb _ => ⟨Nat.le_trans HBB.out.size hb.1, hb.2⟩, HBB.out.trans (fz.2.mono HBB.out.size)⟩

end Go.Proofs.YtjjgmkfkmckkoabGreatDoor

/- Codec: reference: a message. -/
namespace Go.Proofs.YtjjgmkfkmckkoabGreatDoor
open Go.RowKit Go.Maps
attribute [-simp] Tryz.isAgg24 Tryz.typeInfo24 Tryz.isAgg39 Tryz.typeInfo39 Tryz.isAgg87 Tryz.typeInfo87 Tryz.isAgg91 Tryz.typeInfo91 Tryz.isAgg56 Tryz.typeInfo56 Tryz.isAgg27 Tryz.typeInfo27

set_option maxHeartbeats 8000000 in
set_option maxRecDepth 100000 in
theorem rMessage_any (w : World) {S : Nat → Prop} {x : tMessage.El} {cs : List Value} (h : tMessage.rep w S x cs) (hl : (tMessage.enc x).length ≤ 1099511627776) :
    Calls Tryz.prog 22 #[.agg cs.toArray] w fun e w' => ∃ v', e = .returned v' ∧ Fresh w w' v' (tMessage.enc x) := by
  obtain ⟨x0, x1, x2, x3, x4, x5, x6, x7, x8, _⟩ := x
  obtain ⟨c0, _, rfl, ⟨rfl, _⟩, c1, _, rfl, ⟨rfl, _⟩, c2, _, rfl, ⟨rfl, _⟩, c3, _, rfl, ⟨rfl, l3⟩, c4, _, rfl, r4, c5, _, rfl, r5, c6, _, rfl, r6, c7, _, rfl, r7, c8, _, rfl, r8, rfl⟩ := h
  obtain ⟨y4, rfl⟩ : ∃ y, c4 = [y] := by obtain ⟨v, _, e, _⟩ := r4; exact ⟨v, e⟩
  obtain ⟨y5, rfl⟩ : ∃ y, c5 = [y] := by obtain ⟨v, _, e, _⟩ := r5; exact ⟨v, e⟩
  obtain ⟨y6, rfl⟩ : ∃ y, c6 = [y] := by obtain ⟨v, _, e, _⟩ := r6; exact ⟨v, e⟩
  obtain ⟨y7, rfl⟩ : ∃ y, c7 = [y] := by obtain ⟨v, _, e, _⟩ := r7; exact ⟨v, e⟩
  obtain ⟨y8, rfl⟩ : ∃ y, c8 = [y] := by obtain ⟨v, _, e, _⟩ := r8; exact ⟨v, e⟩
  obtain ⟨A4, cap4, rfl, hlen4, _⟩ := list_at r4
  obtain ⟨A5, cap5, rfl, hlen5, _⟩ := list_at r5
  obtain ⟨A6, cap6, rfl, hlen6, _⟩ := list_at r6
  obtain ⟨A7, cap7, rfl, hlen7, _⟩ := list_at r7
  obtain ⟨A8, cap8, rfl, hlen8, _⟩ := list_at r8
  have R4 := Lib.hid r4; clear r4
  have R5 := Lib.hid r5; clear r5
  have R6 := Lib.hid r6; clear r6
  have R7 := Lib.hid r7; clear r7
  have R8 := Lib.hid r8; clear r8
  simp only [nk_t]
  obtain ⟨C, hC⟩ : ∃ C, C = [Value.int .i64 x0] ++ ([Value.int .i64 x1] ++ ([Value.int .i64 x2] ++ (u8s x3 ++ ([Value.slice A4 (List.length (α := (tBlock).El) x4) cap4] ++ ([Value.slice A5 (List.length (α := (tVote).El) x5) cap5] ++ ([Value.slice A6 (List.length (α := (tTimeout).El) x6) cap6] ++ ([Value.slice A7 (List.length (α := (tCommit).El) x7) cap7] ++ ([Value.slice A8 (List.length (α := (tTx).El) x8) cap8] ++ ([]))))))))) := ⟨_, rfl⟩
  rw [← hC]
  have hf : ∀ w', Blk w' w.heap.size 48 C.toArray → w'.cell? ⟨w.heap.size, 0, none⟩ = some (.int .i64 x0) ∧ w'.cell? ⟨w.heap.size, 1, none⟩ = some (.int .i64 x1) ∧ w'.cell? ⟨w.heap.size, 2, none⟩ = some (.int .i64 x2) ∧ w'.rangeAt w.heap.size 3 (u8s x3) ∧ w'.cell? ⟨w.heap.size, 35, none⟩ = some (.slice A4 (List.length (α := (tBlock).El) x4) cap4) ∧ w'.cell? ⟨w.heap.size, 36, none⟩ = some (.slice A5 (List.length (α := (tVote).El) x5) cap5) ∧ w'.cell? ⟨w.heap.size, 37, none⟩ = some (.slice A6 (List.length (α := (tTimeout).El) x6) cap6) ∧ w'.cell? ⟨w.heap.size, 38, none⟩ = some (.slice A7 (List.length (α := (tCommit).El) x7) cap7) ∧ w'.cell? ⟨w.heap.size, 39, none⟩ = some (.slice A8 (List.length (α := (tTx).El) x8) cap8) := fun w' hb => by
    have := hb.lies [[Value.int .i64 x0], [Value.int .i64 x1], [Value.int .i64 x2], u8s x3, [Value.slice A4 (List.length (α := (tBlock).El) x4) cap4], [Value.slice A5 (List.length (α := (tVote).El) x5) cap5], [Value.slice A6 (List.length (α := (tTimeout).El) x6) cap6], [Value.slice A7 (List.length (α := (tCommit).El) x7) cap7], [Value.slice A8 (List.length (α := (tTx).El) x8) cap8]] [] (by rw [hC]; simp)
    simp only [Lies, u8s_length, l3, List.length_cons, List.length_nil] at this
    obtain ⟨s0, s1, s2, s3, s4, s5, s6, s7, s8, _⟩ := this
    exact ⟨Lies.one s0, Lies.one s1, Lies.one s2, s3, Lies.one s4, Lies.one s5, Lies.one s6, Lies.one s7, Lies.one s8⟩
  have HF := Lib.hid hf
  clear hf hC
  have L3 := Lib.hid l3; clear l3
  have hl' : (joinB [numB x0, numB x1, numB x2, x3, (Sh.list tBlock).enc x4, (Sh.list tVote).enc x5, (Sh.list tTimeout).enc x6, (Sh.list tCommit).enc x7, (Sh.list tTx).enc x8]).length ≤ 1099511627776 := hl
  have HLL := Lib.hid hl'
  clear hl hl'
  have HE4 := Lib.hid (show ((Sh.list tBlock).enc x4).length ≤ 1099511627776 from (by have h1 := HLL.out; rw [joinB_length] at h1; have h2 := joinP_mem (l := [numB x0, numB x1, numB x2, x3, (Sh.list tBlock).enc x4, (Sh.list tVote).enc x5, (Sh.list tTimeout).enc x6, (Sh.list tCommit).enc x7, (Sh.list tTx).enc x8]) (x := (Sh.list tBlock).enc x4) (by simp); omega))
  have hcn4 : (List.length (α := (tBlock).El) x4) ≤ 137438953472 := by
    have h1 := HE4.out
    have h2 := joinP_count (List.map (tBlock).enc x4)
    have h3 : ((Sh.list tBlock).enc x4).length = 8 + (joinP (List.map (tBlock).enc x4)).length := joinB_length _
    rw [List.length_map] at h2
    omega
  have HEJ4 := Lib.hid (show (joinB (List.map (tBlock).enc x4)).length ≤ 140737488355328 from by
    have h1 := HE4.out
    have h3 : ((Sh.list tBlock).enc x4).length = 8 + (joinP (List.map (tBlock).enc x4)).length := joinB_length _
    rw [joinB_length]
    omega)
  have HE5 := Lib.hid (show ((Sh.list tVote).enc x5).length ≤ 1099511627776 from (by have h1 := HLL.out; rw [joinB_length] at h1; have h2 := joinP_mem (l := [numB x0, numB x1, numB x2, x3, (Sh.list tBlock).enc x4, (Sh.list tVote).enc x5, (Sh.list tTimeout).enc x6, (Sh.list tCommit).enc x7, (Sh.list tTx).enc x8]) (x := (Sh.list tVote).enc x5) (by simp); omega))
  have hcn5 : (List.length (α := (tVote).El) x5) ≤ 137438953472 := by
    have h1 := HE5.out
    have h2 := joinP_count (List.map (tVote).enc x5)
    have h3 : ((Sh.list tVote).enc x5).length = 8 + (joinP (List.map (tVote).enc x5)).length := joinB_length _
    rw [List.length_map] at h2
    omega
  have HEJ5 := Lib.hid (show (joinB (List.map (tVote).enc x5)).length ≤ 140737488355328 from by
    have h1 := HE5.out
    have h3 : ((Sh.list tVote).enc x5).length = 8 + (joinP (List.map (tVote).enc x5)).length := joinB_length _
    rw [joinB_length]
    omega)
  have HE6 := Lib.hid (show ((Sh.list tTimeout).enc x6).length ≤ 1099511627776 from (by have h1 := HLL.out; rw [joinB_length] at h1; have h2 := joinP_mem (l := [numB x0, numB x1, numB x2, x3, (Sh.list tBlock).enc x4, (Sh.list tVote).enc x5, (Sh.list tTimeout).enc x6, (Sh.list tCommit).enc x7, (Sh.list tTx).enc x8]) (x := (Sh.list tTimeout).enc x6) (by simp); omega))
  have hcn6 : (List.length (α := (tTimeout).El) x6) ≤ 137438953472 := by
    have h1 := HE6.out
    have h2 := joinP_count (List.map (tTimeout).enc x6)
    have h3 : ((Sh.list tTimeout).enc x6).length = 8 + (joinP (List.map (tTimeout).enc x6)).length := joinB_length _
    rw [List.length_map] at h2
    omega
  have HEJ6 := Lib.hid (show (joinB (List.map (tTimeout).enc x6)).length ≤ 140737488355328 from by
    have h1 := HE6.out
    have h3 : ((Sh.list tTimeout).enc x6).length = 8 + (joinP (List.map (tTimeout).enc x6)).length := joinB_length _
    rw [joinB_length]
    omega)
  have HE7 := Lib.hid (show ((Sh.list tCommit).enc x7).length ≤ 1099511627776 from (by have h1 := HLL.out; rw [joinB_length] at h1; have h2 := joinP_mem (l := [numB x0, numB x1, numB x2, x3, (Sh.list tBlock).enc x4, (Sh.list tVote).enc x5, (Sh.list tTimeout).enc x6, (Sh.list tCommit).enc x7, (Sh.list tTx).enc x8]) (x := (Sh.list tCommit).enc x7) (by simp); omega))
  have hcn7 : (List.length (α := (tCommit).El) x7) ≤ 137438953472 := by
    have h1 := HE7.out
    have h2 := joinP_count (List.map (tCommit).enc x7)
    have h3 : ((Sh.list tCommit).enc x7).length = 8 + (joinP (List.map (tCommit).enc x7)).length := joinB_length _
    rw [List.length_map] at h2
    omega
  have HEJ7 := Lib.hid (show (joinB (List.map (tCommit).enc x7)).length ≤ 140737488355328 from by
    have h1 := HE7.out
    have h3 : ((Sh.list tCommit).enc x7).length = 8 + (joinP (List.map (tCommit).enc x7)).length := joinB_length _
    rw [joinB_length]
    omega)
  have HE8 := Lib.hid (show ((Sh.list tTx).enc x8).length ≤ 1099511627776 from (by have h1 := HLL.out; rw [joinB_length] at h1; have h2 := joinP_mem (l := [numB x0, numB x1, numB x2, x3, (Sh.list tBlock).enc x4, (Sh.list tVote).enc x5, (Sh.list tTimeout).enc x6, (Sh.list tCommit).enc x7, (Sh.list tTx).enc x8]) (x := (Sh.list tTx).enc x8) (by simp); omega))
  have hcn8 : (List.length (α := (tTx).El) x8) ≤ 137438953472 := by
    have h1 := HE8.out
    have h2 := joinP_count (List.map (tTx).enc x8)
    have h3 : ((Sh.list tTx).enc x8).length = 8 + (joinP (List.map (tTx).enc x8)).length := joinB_length _
    rw [List.length_map] at h2
    omega
  have HEJ8 := Lib.hid (show (joinB (List.map (tTx).enc x8)).length ≤ 140737488355328 from by
    have h1 := HE8.out
    have h3 : ((Sh.list tTx).enc x8).length = 8 + (joinP (List.map (tTx).enc x8)).length := joinB_length _
    rw [joinB_length]
    omega)
  go_enter Tryz.func22, Tryz.ntmps22
  go_wp2_with fail
  have hbe := (Below.refl w.heap.size w).alloc (Nat.le_refl _) (.cells C.toArray 48)
  have hal0 : Below (w.heap.size + 1) (w.alloc (.cells C.toArray 48)) ((w.alloc (.cells C.toArray 48)).alloc (.cells #[] 50)) := (Below.refl _ _).alloc (by simp) _
  have hMb : w.heap.size < w.heap.size + 1 := by omega
  go_loopw [3, 4] (fun o i wr => ∃ k : Nat, k ≤ (List.length (α := (tBlock).El) x4) ∧ i = .int .i64 k ∧ Bss wr (fun b => (w.heap.size + 1) ≤ b) (fun b => (w.heap.size + 1) ≤ b) o ((List.take k x4).map (tBlock).enc) ∧ Below w.heap.size w wr ∧ (w.heap.size + 1) ≤ wr.heap.size ∧ Blk wr w.heap.size 48 C.toArray) (fun _ i _ => (List.length (α := (tBlock).El) x4) - (intOf i).toNat)
  case atStart => exact ⟨0, Nat.zero_le _, rfl, Bss.empty1 w _, hbe.alloc (by simp) _, by simp, ((Blk.new w _ _).alloc _)⟩
  case round =>
    obtain ⟨k, hk, rfl, hB, hbl, hMz, hbox⟩ := hrel
    by_cases hlt : k < (List.length (α := (tBlock).El) x4)
    · obtain ⟨R, hR⟩ : ∃ R, R = (List.take k x4).map (tBlock).enc := ⟨_, rfl⟩
      rw [← hR] at hB
      have hRl : R.length = k := by rw [hR, List.length_map, List.length_take]; omega
      have hnext : (List.take (k + 1) x4).map (tBlock).enc = R ++ [(tBlock).enc (x4[k]'hlt)] := by rw [List.take_succ_eq_append_getElem hlt, List.map_append, ← hR]; rfl
      obtain ⟨Aa, ca, rfl⟩ := hB.form
      obtain ⟨_, _, e, _, hat⟩ := list_at (Sh.rep_below R4.out hbl)
      injection e with e1 e2 e3
      subst e1 e3
      obtain ⟨b, off, c, rfl, hca, hr, hcl, hblt, _⟩ := hat k hlt
      obtain ⟨x, hx⟩ : ∃ x, x = x4[k]'hlt := ⟨_, rfl⟩
      rw [← hx] at hr hnext
      have hsm2 : ((tBlock).enc x).length ≤ 1099511627776 := by
        have h1 := joinP_mem (List.mem_map.2 ⟨x4[k]'hlt, List.getElem_mem hlt, rfl⟩ : (tBlock).enc (x4[k]'hlt) ∈ List.map (tBlock).enc x4)
        have h2 := HE4.out
        have h3 : ((Sh.list tBlock).enc x4).length = 8 + (joinP (List.map (tBlock).enc x4)).length := joinB_length _
        rw [hx]; omega
      have hinfo : (Tryz.prog.info? 39).map (·.size) = some c.length := by rw [hcl]; kernel_rfl
      have HCA := Lib.hid (show wr.rangeAt b (off + k * 173) c from hca)
      have HI := Lib.hid hinfo
      clear hinfo
      have HREP := Lib.hid hr
      have HSM := Lib.hid hsm2
      clear hr hsm2
      have hown : ∀ k, (Value.slice Aa R.length ca).ownBlock = some k → k < wr.heap.size := fun k hk => by obtain ⟨vs, ho, _⟩ := hB; exact own_lt ho hk
      have hbc := (HF.out wr hbox).2.2.2.2.1
      have HB := Lib.hid hB
      have HN := Lib.hid hnext
      have HRL := Lib.hid hRl
      have HOWN := Lib.hid hown
      have HBOX := Lib.hid hbox
      clear hB hca hcl hat hx hR hnext hRl hown hbox
      go_wp2_with (refine wpList_load_mid rfl 39 _ rfl b (off + k * 173) rfl c _ HCA.out Tryz.underlying39 rfl HI.out ?_)
      refine (rBlock_any _ HREP.out HSM.out).mono ?_
      rintro e w1 ⟨v1, rfl, f1⟩
      have hb1 := hbl.trans (f1.2.mono hbl.size)
      obtain ⟨y, hy⟩ : ∃ y, y = (tBlock).enc x := ⟨_, rfl⟩
      have f1 : Fresh wr w1 v1 y := hy ▸ f1
      rw [← hy] at HN
      obtain ⟨A1, c1, rfl⟩ := f1.1.form
      obtain ⟨vs, ho, hS, hr⟩ := HB.out.below f1.2
      have hsz1 := f1.2.size
      have hal : Below w1.heap.size w1 (w1.alloc (.cells #[.slice A1 y.length c1] 50)) := (Below.refl _ w1).alloc (Nat.le_refl _) _
      have HAL := Lib.hid hal
      have HO := Lib.hid (show Own (w1.alloc (.cells #[.slice A1 y.length c1] 50)) _ _ _ _ _ from own_keep ho fun k hk => hal.block k (own_lt ho hk))
      have HS := Lib.hid hS
      have HR := Lib.hid (fun i x u h1 h2 => (hr i x u h1 h2).below hal)
      have HU := Lib.hid ((f1.1.1.below hal).sub (T := fun b => (w.heap.size + 1) ≤ b ∧ (Value.slice Aa R.length ca).ownBlock ≠ some b) fun b hb _ => ⟨Nat.le_trans hMz hb.1, fun e => by have := HOWN.out b e; omega⟩)
      have HS2 := Lib.hid (Cs.of_new w1 50 (size := 1) 1 (cs := [.slice A1 y.length c1]) rfl (by simp only [maxLen]; decide))
      have H63 := Lib.hid (show R.length + 1 ≤ maxLen ∧ (R.length + 1) * 24 ≤ 140737488355328 from by have := HRL.out; refine ⟨by simp only [maxLen]; omega, by omega⟩)
      have HF2 := Lib.hid f1.2
      clear ho hS hr hal f1 hy
      go_wp2_with (at_builtin; refine wpList_app _ rfl _ _ _ rfl Tryz.underlying103 info_row rfl (by decide) HO.out rfl HS2.out rfl (by simp [Value.oneCell']) H63.out.1 H63.out.2 ?_; intro v3 w3 ho3 hg3 hnil3 hat3; clear hnil3; have HO3 := Lib.hid ho3; clear ho3; have HG3 := Lib.hid hg3; clear hg3; have HAT3 := Lib.hid hat3; clear hat3)
      have hzz := HAL.out.size
      have hz3 := HG3.out.size
      have hpush := Bss.push HO.out HS.out HR.out HU.out HO3.out HG3.out HAT3.out (by have := hb1.size; omega)
      rw [← HN.out] at hpush
      have hbA : Below w.heap.size w (w1.alloc (.cells #[.slice A1 y.length c1] 50)) := hb1.trans (HAL.out.mono hb1.size)
      have hbw3 := HF2.out.trans (HAL.out.mono hsz1)
      refine ⟨⟨k + 1, by omega, by push_cast; rfl, hpush, hbA.trans (HG3.out.below hbA.size fun b h => by have h1 := HS.out b h; have h2 := HBOX.out.lt; omega), by omega, (HBOX.out.below hbw3 HBOX.out.lt).chg HG3.out fun h => by have h1 := HS.out _ h; have h2 := hMb; omega⟩, ?_⟩
      simp only [intOf]
      omega
    · have hk' : k = (List.length (α := (tBlock).El) x4) := by omega
      rw [hk', List.take_length] at hB
      have hsm : ∀ x ∈ List.map (tBlock).enc x4, x.length ≤ 140737488355328 := fun x hx => by
        have h1 := joinP_mem hx
        have h2 := HE4.out
        have h3 : ((Sh.list tBlock).enc x4).length = 8 + (joinP (List.map (tBlock).enc x4)).length := joinB_length _
        omega
      have hEJ4 := HEJ4.out
      obtain ⟨R4m, hR4m⟩ : ∃ R, R = List.map (tBlock).enc x4 := ⟨_, rfl⟩
      rw [← hR4m] at hB hsm hEJ4
      have HRm4 := Lib.hid hR4m
      have HEK4 := Lib.hid hEJ4
      clear hR4m hEJ4
      have V4 := Lib.hid (((hB.read hsm).lt_ (T := fun _ => True) fun _ _ => trivial).subs (T := fun b => b < wr.heap.size) fun b hb _ => hb.2)
      obtain ⟨Ao4, co4, rfl⟩ := hB.form
      have hbc4 := (HF.out wr hbox).2.2.2.2.1
      clear hB hsm
      obtain ⟨w_4, hw_4⟩ : ∃ w', w' = wr := ⟨_, rfl⟩
      subst hw_4
      have HBX4 := Lib.hid hbox; have hmb4 := hbox.lt; clear hbox
      go_wp2_with fail
      clear hlt hk hk'
      have hal4 : Below w_4.heap.size w_4 (w_4.alloc (.cells #[] 50)) := (Below.refl _ w_4).alloc (Nat.le_refl _) _
      have hMb : w.heap.size < w_4.heap.size := hmb4
      go_loopw [5, 6] (fun o i wr => ∃ k : Nat, k ≤ (List.length (α := (tVote).El) x5) ∧ i = .int .i64 k ∧ Bss wr (fun b => w_4.heap.size ≤ b) (fun b => w_4.heap.size ≤ b) o ((List.take k x5).map (tVote).enc) ∧ Below w.heap.size w wr ∧ w_4.heap.size ≤ wr.heap.size ∧ Blk wr w.heap.size 48 C.toArray ∧ Bsr wr (fun b => b < w_4.heap.size) (.slice Ao4 R4m.length co4) R4m) (fun _ i _ => (List.length (α := (tVote).El) x5) - (intOf i).toNat)
      case atStart => exact ⟨0, Nat.zero_le _, rfl, Bss.empty w_4 (fun b => w_4.heap.size ≤ b) (fun b => w_4.heap.size ≤ b) (Nat.le_refl _), hbl.alloc hbl.size _, by simp, (HBX4.out.below hal4 HBX4.out.lt), (V4.out.below hal4)⟩
      case round =>
        obtain ⟨k, hk, rfl, hB, hbl, hMz, hbox, hp4⟩ := hrel
        by_cases hlt : k < (List.length (α := (tVote).El) x5)
        · obtain ⟨R, hR⟩ : ∃ R, R = (List.take k x5).map (tVote).enc := ⟨_, rfl⟩
          rw [← hR] at hB
          have hRl : R.length = k := by rw [hR, List.length_map, List.length_take]; omega
          have hnext : (List.take (k + 1) x5).map (tVote).enc = R ++ [(tVote).enc (x5[k]'hlt)] := by rw [List.take_succ_eq_append_getElem hlt, List.map_append, ← hR]; rfl
          obtain ⟨Aa, ca, rfl⟩ := hB.form
          obtain ⟨_, _, e, _, hat⟩ := list_at (Sh.rep_below R5.out hbl)
          injection e with e1 e2 e3
          subst e1 e3
          obtain ⟨b, off, c, rfl, hca, hr, hcl, hblt, _⟩ := hat k hlt
          obtain ⟨x, hx⟩ : ∃ x, x = x5[k]'hlt := ⟨_, rfl⟩
          rw [← hx] at hr hnext
          have hsm2 : ((tVote).enc x).length ≤ 1099511627776 := by
            have h1 := joinP_mem (List.mem_map.2 ⟨x5[k]'hlt, List.getElem_mem hlt, rfl⟩ : (tVote).enc (x5[k]'hlt) ∈ List.map (tVote).enc x5)
            have h2 := HE5.out
            have h3 : ((Sh.list tVote).enc x5).length = 8 + (joinP (List.map (tVote).enc x5)).length := joinB_length _
            rw [hx]; omega
          have hinfo : (Tryz.prog.info? 87).map (·.size) = some c.length := by rw [hcl]; kernel_rfl
          have HCA := Lib.hid (show wr.rangeAt b (off + k * 69) c from hca)
          have HI := Lib.hid hinfo
          clear hinfo
          have HREP := Lib.hid hr
          have HSM := Lib.hid hsm2
          clear hr hsm2
          have hown : ∀ k, (Value.slice Aa R.length ca).ownBlock = some k → k < wr.heap.size := fun k hk => by obtain ⟨vs, ho, _⟩ := hB; exact own_lt ho hk
          have hbc := (HF.out wr hbox).2.2.2.2.2.1
          have HB := Lib.hid hB
          have HN := Lib.hid hnext
          have HRL := Lib.hid hRl
          have HOWN := Lib.hid hown
          have HBOX := Lib.hid hbox
          have HP4 := Lib.hid hp4
          clear hB hca hcl hat hx hR hnext hRl hown hbox hp4
          go_wp2_with (refine wpList_load_mid rfl 87 _ rfl b (off + k * 69) rfl c _ HCA.out Tryz.underlying87 rfl HI.out ?_)
          refine (rVote_any _ HREP.out HSM.out).mono ?_
          rintro e w1 ⟨v1, rfl, f1⟩
          have hb1 := hbl.trans (f1.2.mono hbl.size)
          obtain ⟨y, hy⟩ : ∃ y, y = (tVote).enc x := ⟨_, rfl⟩
          have f1 : Fresh wr w1 v1 y := hy ▸ f1
          rw [← hy] at HN
          obtain ⟨A1, c1, rfl⟩ := f1.1.form
          obtain ⟨vs, ho, hS, hr⟩ := HB.out.below f1.2
          have hsz1 := f1.2.size
          have hal : Below w1.heap.size w1 (w1.alloc (.cells #[.slice A1 y.length c1] 50)) := (Below.refl _ w1).alloc (Nat.le_refl _) _
          have HAL := Lib.hid hal
          have HO := Lib.hid (show Own (w1.alloc (.cells #[.slice A1 y.length c1] 50)) _ _ _ _ _ from own_keep ho fun k hk => hal.block k (own_lt ho hk))
          have HS := Lib.hid hS
          have HR := Lib.hid (fun i x u h1 h2 => (hr i x u h1 h2).below hal)
          have HU := Lib.hid ((f1.1.1.below hal).sub (T := fun b => w_4.heap.size ≤ b ∧ (Value.slice Aa R.length ca).ownBlock ≠ some b) fun b hb _ => ⟨Nat.le_trans hMz hb.1, fun e => by have := HOWN.out b e; omega⟩)
          have HS2 := Lib.hid (Cs.of_new w1 50 (size := 1) 1 (cs := [.slice A1 y.length c1]) rfl (by simp only [maxLen]; decide))
          have H63 := Lib.hid (show R.length + 1 ≤ maxLen ∧ (R.length + 1) * 24 ≤ 140737488355328 from by have := HRL.out; refine ⟨by simp only [maxLen]; omega, by omega⟩)
          have HF2 := Lib.hid f1.2
          clear ho hS hr hal f1 hy
          go_wp2_with (at_builtin; refine wpList_app _ rfl _ _ _ rfl Tryz.underlying103 info_row rfl (by decide) HO.out rfl HS2.out rfl (by simp [Value.oneCell']) H63.out.1 H63.out.2 ?_; intro v3 w3 ho3 hg3 hnil3 hat3; clear hnil3; have HO3 := Lib.hid ho3; clear ho3; have HG3 := Lib.hid hg3; clear hg3; have HAT3 := Lib.hid hat3; clear hat3)
          have hzz := HAL.out.size
          have hz3 := HG3.out.size
          have hpush := Bss.push HO.out HS.out HR.out HU.out HO3.out HG3.out HAT3.out (by have := hb1.size; omega)
          rw [← HN.out] at hpush
          have hbA : Below w.heap.size w (w1.alloc (.cells #[.slice A1 y.length c1] 50)) := hb1.trans (HAL.out.mono hb1.size)
          have hbw3 := HF2.out.trans (HAL.out.mono hsz1)
          refine ⟨⟨k + 1, by omega, by push_cast; rfl, hpush, hbA.trans (HG3.out.below hbA.size fun b h => by have h1 := HS.out b h; have h2 := HBOX.out.lt; omega), by omega, (HBOX.out.below hbw3 HBOX.out.lt).chg HG3.out fun h => by have h1 := HS.out _ h; have h2 := hMb; omega, (HP4.out.below hbw3).chg HG3.out fun b hb h => by have := HS.out b h; omega⟩, ?_⟩
          simp only [intOf]
          omega
        · have hk' : k = (List.length (α := (tVote).El) x5) := by omega
          rw [hk', List.take_length] at hB
          have hsm : ∀ x ∈ List.map (tVote).enc x5, x.length ≤ 140737488355328 := fun x hx => by
            have h1 := joinP_mem hx
            have h2 := HE5.out
            have h3 : ((Sh.list tVote).enc x5).length = 8 + (joinP (List.map (tVote).enc x5)).length := joinB_length _
            omega
          have hEJ5 := HEJ5.out
          obtain ⟨R5m, hR5m⟩ : ∃ R, R = List.map (tVote).enc x5 := ⟨_, rfl⟩
          rw [← hR5m] at hB hsm hEJ5
          have HRm5 := Lib.hid hR5m
          have HEK5 := Lib.hid hEJ5
          clear hR5m hEJ5
          have V5 := Lib.hid (((hB.read hsm).lt_ (T := fun _ => True) fun _ _ => trivial).subs (T := fun b => b < wr.heap.size) fun b hb _ => hb.2)
          obtain ⟨Ao5, co5, rfl⟩ := hB.form
          have hbc5 := (HF.out wr hbox).2.2.2.2.2.1
          have V4 := Lib.hid (hp4.subs (T := fun b => b < wr.heap.size) fun b hb _ => Nat.lt_of_lt_of_le hb hMz)
          clear hB hsm hp4
          obtain ⟨w_5, hw_5⟩ : ∃ w', w' = wr := ⟨_, rfl⟩
          subst hw_5
          have HBX5 := Lib.hid hbox; have hmb5 := hbox.lt; clear hbox
          go_wp2_with fail
          clear hlt hk hk'
          have hal5 : Below w_5.heap.size w_5 (w_5.alloc (.cells #[] 50)) := (Below.refl _ w_5).alloc (Nat.le_refl _) _
          have hMb : w.heap.size < w_5.heap.size := hmb5
          go_loopw [7, 8] (fun o i wr => ∃ k : Nat, k ≤ (List.length (α := (tTimeout).El) x6) ∧ i = .int .i64 k ∧ Bss wr (fun b => w_5.heap.size ≤ b) (fun b => w_5.heap.size ≤ b) o ((List.take k x6).map (tTimeout).enc) ∧ Below w.heap.size w wr ∧ w_5.heap.size ≤ wr.heap.size ∧ Blk wr w.heap.size 48 C.toArray ∧ Bsr wr (fun b => b < w_5.heap.size) (.slice Ao4 R4m.length co4) R4m ∧ Bsr wr (fun b => b < w_5.heap.size) (.slice Ao5 R5m.length co5) R5m) (fun _ i _ => (List.length (α := (tTimeout).El) x6) - (intOf i).toNat)
          case atStart => exact ⟨0, Nat.zero_le _, rfl, Bss.empty w_5 (fun b => w_5.heap.size ≤ b) (fun b => w_5.heap.size ≤ b) (Nat.le_refl _), hbl.alloc hbl.size _, by simp, (HBX5.out.below hal5 HBX5.out.lt), (V4.out.below hal5), (V5.out.below hal5)⟩
          case round =>
            obtain ⟨k, hk, rfl, hB, hbl, hMz, hbox, hp4, hp5⟩ := hrel
            by_cases hlt : k < (List.length (α := (tTimeout).El) x6)
            · obtain ⟨R, hR⟩ : ∃ R, R = (List.take k x6).map (tTimeout).enc := ⟨_, rfl⟩
              rw [← hR] at hB
              have hRl : R.length = k := by rw [hR, List.length_map, List.length_take]; omega
              have hnext : (List.take (k + 1) x6).map (tTimeout).enc = R ++ [(tTimeout).enc (x6[k]'hlt)] := by rw [List.take_succ_eq_append_getElem hlt, List.map_append, ← hR]; rfl
              obtain ⟨Aa, ca, rfl⟩ := hB.form
              obtain ⟨_, _, e, _, hat⟩ := list_at (Sh.rep_below R6.out hbl)
              injection e with e1 e2 e3
              subst e1 e3
              obtain ⟨b, off, c, rfl, hca, hr, hcl, hblt, _⟩ := hat k hlt
              obtain ⟨x, hx⟩ : ∃ x, x = x6[k]'hlt := ⟨_, rfl⟩
              rw [← hx] at hr hnext
              have hsm2 : ((tTimeout).enc x).length ≤ 1099511627776 := by
                have h1 := joinP_mem (List.mem_map.2 ⟨x6[k]'hlt, List.getElem_mem hlt, rfl⟩ : (tTimeout).enc (x6[k]'hlt) ∈ List.map (tTimeout).enc x6)
                have h2 := HE6.out
                have h3 : ((Sh.list tTimeout).enc x6).length = 8 + (joinP (List.map (tTimeout).enc x6)).length := joinB_length _
                rw [hx]; omega
              have hinfo : (Tryz.prog.info? 91).map (·.size) = some c.length := by rw [hcl]; kernel_rfl
              have HCA := Lib.hid (show wr.rangeAt b (off + k * 74) c from hca)
              have HI := Lib.hid hinfo
              clear hinfo
              have HREP := Lib.hid hr
              have HSM := Lib.hid hsm2
              clear hr hsm2
              have hown : ∀ k, (Value.slice Aa R.length ca).ownBlock = some k → k < wr.heap.size := fun k hk => by obtain ⟨vs, ho, _⟩ := hB; exact own_lt ho hk
              have hbc := (HF.out wr hbox).2.2.2.2.2.2.1
              have HB := Lib.hid hB
              have HN := Lib.hid hnext
              have HRL := Lib.hid hRl
              have HOWN := Lib.hid hown
              have HBOX := Lib.hid hbox
              have HP4 := Lib.hid hp4
              have HP5 := Lib.hid hp5
              clear hB hca hcl hat hx hR hnext hRl hown hbox hp4 hp5
              go_wp2_with (refine wpList_load_mid rfl 91 _ rfl b (off + k * 74) rfl c _ HCA.out Tryz.underlying91 rfl HI.out ?_)
              refine (rTimeout_any _ HREP.out HSM.out).mono ?_
              rintro e w1 ⟨v1, rfl, f1⟩
              have hb1 := hbl.trans (f1.2.mono hbl.size)
              obtain ⟨y, hy⟩ : ∃ y, y = (tTimeout).enc x := ⟨_, rfl⟩
              have f1 : Fresh wr w1 v1 y := hy ▸ f1
              rw [← hy] at HN
              obtain ⟨A1, c1, rfl⟩ := f1.1.form
              obtain ⟨vs, ho, hS, hr⟩ := HB.out.below f1.2
              have hsz1 := f1.2.size
              have hal : Below w1.heap.size w1 (w1.alloc (.cells #[.slice A1 y.length c1] 50)) := (Below.refl _ w1).alloc (Nat.le_refl _) _
              have HAL := Lib.hid hal
              have HO := Lib.hid (show Own (w1.alloc (.cells #[.slice A1 y.length c1] 50)) _ _ _ _ _ from own_keep ho fun k hk => hal.block k (own_lt ho hk))
              have HS := Lib.hid hS
              have HR := Lib.hid (fun i x u h1 h2 => (hr i x u h1 h2).below hal)
              have HU := Lib.hid ((f1.1.1.below hal).sub (T := fun b => w_5.heap.size ≤ b ∧ (Value.slice Aa R.length ca).ownBlock ≠ some b) fun b hb _ => ⟨Nat.le_trans hMz hb.1, fun e => by have := HOWN.out b e; omega⟩)
              have HS2 := Lib.hid (Cs.of_new w1 50 (size := 1) 1 (cs := [.slice A1 y.length c1]) rfl (by simp only [maxLen]; decide))
              have H63 := Lib.hid (show R.length + 1 ≤ maxLen ∧ (R.length + 1) * 24 ≤ 140737488355328 from by have := HRL.out; refine ⟨by simp only [maxLen]; omega, by omega⟩)
              have HF2 := Lib.hid f1.2
              clear ho hS hr hal f1 hy
              go_wp2_with (at_builtin; refine wpList_app _ rfl _ _ _ rfl Tryz.underlying103 info_row rfl (by decide) HO.out rfl HS2.out rfl (by simp [Value.oneCell']) H63.out.1 H63.out.2 ?_; intro v3 w3 ho3 hg3 hnil3 hat3; clear hnil3; have HO3 := Lib.hid ho3; clear ho3; have HG3 := Lib.hid hg3; clear hg3; have HAT3 := Lib.hid hat3; clear hat3)
              have hzz := HAL.out.size
              have hz3 := HG3.out.size
              have hpush := Bss.push HO.out HS.out HR.out HU.out HO3.out HG3.out HAT3.out (by have := hb1.size; omega)
              rw [← HN.out] at hpush
              have hbA : Below w.heap.size w (w1.alloc (.cells #[.slice A1 y.length c1] 50)) := hb1.trans (HAL.out.mono hb1.size)
              have hbw3 := HF2.out.trans (HAL.out.mono hsz1)
              refine ⟨⟨k + 1, by omega, by push_cast; rfl, hpush, hbA.trans (HG3.out.below hbA.size fun b h => by have h1 := HS.out b h; have h2 := HBOX.out.lt; omega), by omega, (HBOX.out.below hbw3 HBOX.out.lt).chg HG3.out fun h => by have h1 := HS.out _ h; have h2 := hMb; omega, (HP4.out.below hbw3).chg HG3.out fun b hb h => by have := HS.out b h; omega, (HP5.out.below hbw3).chg HG3.out fun b hb h => by have := HS.out b h; omega⟩, ?_⟩
              simp only [intOf]
              omega
            · have hk' : k = (List.length (α := (tTimeout).El) x6) := by omega
              rw [hk', List.take_length] at hB
              have hsm : ∀ x ∈ List.map (tTimeout).enc x6, x.length ≤ 140737488355328 := fun x hx => by
                have h1 := joinP_mem hx
                have h2 := HE6.out
                have h3 : ((Sh.list tTimeout).enc x6).length = 8 + (joinP (List.map (tTimeout).enc x6)).length := joinB_length _
                omega
              have hEJ6 := HEJ6.out
              obtain ⟨R6m, hR6m⟩ : ∃ R, R = List.map (tTimeout).enc x6 := ⟨_, rfl⟩
              rw [← hR6m] at hB hsm hEJ6
              have HRm6 := Lib.hid hR6m
              have HEK6 := Lib.hid hEJ6
              clear hR6m hEJ6
              have V6 := Lib.hid (((hB.read hsm).lt_ (T := fun _ => True) fun _ _ => trivial).subs (T := fun b => b < wr.heap.size) fun b hb _ => hb.2)
              obtain ⟨Ao6, co6, rfl⟩ := hB.form
              have hbc6 := (HF.out wr hbox).2.2.2.2.2.2.1
              have V4 := Lib.hid (hp4.subs (T := fun b => b < wr.heap.size) fun b hb _ => Nat.lt_of_lt_of_le hb hMz)
              have V5 := Lib.hid (hp5.subs (T := fun b => b < wr.heap.size) fun b hb _ => Nat.lt_of_lt_of_le hb hMz)
              clear hB hsm hp4 hp5
              obtain ⟨w_6, hw_6⟩ : ∃ w', w' = wr := ⟨_, rfl⟩
              subst hw_6
              have HBX6 := Lib.hid hbox; have hmb6 := hbox.lt; clear hbox
              go_wp2_with fail
              clear hlt hk hk'
              have hal6 : Below w_6.heap.size w_6 (w_6.alloc (.cells #[] 50)) := (Below.refl _ w_6).alloc (Nat.le_refl _) _
              have hMb : w.heap.size < w_6.heap.size := hmb6
              go_loopw [9, 10] (fun o i wr => ∃ k : Nat, k ≤ (List.length (α := (tCommit).El) x7) ∧ i = .int .i64 k ∧ Bss wr (fun b => w_6.heap.size ≤ b) (fun b => w_6.heap.size ≤ b) o ((List.take k x7).map (tCommit).enc) ∧ Below w.heap.size w wr ∧ w_6.heap.size ≤ wr.heap.size ∧ Blk wr w.heap.size 48 C.toArray ∧ Bsr wr (fun b => b < w_6.heap.size) (.slice Ao4 R4m.length co4) R4m ∧ Bsr wr (fun b => b < w_6.heap.size) (.slice Ao5 R5m.length co5) R5m ∧ Bsr wr (fun b => b < w_6.heap.size) (.slice Ao6 R6m.length co6) R6m) (fun _ i _ => (List.length (α := (tCommit).El) x7) - (intOf i).toNat)
              case atStart => exact ⟨0, Nat.zero_le _, rfl, Bss.empty w_6 (fun b => w_6.heap.size ≤ b) (fun b => w_6.heap.size ≤ b) (Nat.le_refl _), hbl.alloc hbl.size _, by simp, (HBX6.out.below hal6 HBX6.out.lt), (V4.out.below hal6), (V5.out.below hal6), (V6.out.below hal6)⟩
              case round =>
                obtain ⟨k, hk, rfl, hB, hbl, hMz, hbox, hp4, hp5, hp6⟩ := hrel
                by_cases hlt : k < (List.length (α := (tCommit).El) x7)
                · obtain ⟨R, hR⟩ : ∃ R, R = (List.take k x7).map (tCommit).enc := ⟨_, rfl⟩
                  rw [← hR] at hB
                  have hRl : R.length = k := by rw [hR, List.length_map, List.length_take]; omega
                  have hnext : (List.take (k + 1) x7).map (tCommit).enc = R ++ [(tCommit).enc (x7[k]'hlt)] := by rw [List.take_succ_eq_append_getElem hlt, List.map_append, ← hR]; rfl
                  obtain ⟨Aa, ca, rfl⟩ := hB.form
                  obtain ⟨_, _, e, _, hat⟩ := list_at (Sh.rep_below R7.out hbl)
                  injection e with e1 e2 e3
                  subst e1 e3
                  obtain ⟨b, off, c, rfl, hca, hr, hcl, hblt, _⟩ := hat k hlt
                  obtain ⟨x, hx⟩ : ∃ x, x = x7[k]'hlt := ⟨_, rfl⟩
                  rw [← hx] at hr hnext
                  have hsm2 : ((tCommit).enc x).length ≤ 1099511627776 := by
                    have h1 := joinP_mem (List.mem_map.2 ⟨x7[k]'hlt, List.getElem_mem hlt, rfl⟩ : (tCommit).enc (x7[k]'hlt) ∈ List.map (tCommit).enc x7)
                    have h2 := HE7.out
                    have h3 : ((Sh.list tCommit).enc x7).length = 8 + (joinP (List.map (tCommit).enc x7)).length := joinB_length _
                    rw [hx]; omega
                  have hinfo : (Tryz.prog.info? 56).map (·.size) = some c.length := by rw [hcl]; kernel_rfl
                  have HCA := Lib.hid (show wr.rangeAt b (off + k * 38) c from hca)
                  have HI := Lib.hid hinfo
                  clear hinfo
                  have HREP := Lib.hid hr
                  have HSM := Lib.hid hsm2
                  clear hr hsm2
                  have hown : ∀ k, (Value.slice Aa R.length ca).ownBlock = some k → k < wr.heap.size := fun k hk => by obtain ⟨vs, ho, _⟩ := hB; exact own_lt ho hk
                  have hbc := (HF.out wr hbox).2.2.2.2.2.2.2.1
                  have HB := Lib.hid hB
                  have HN := Lib.hid hnext
                  have HRL := Lib.hid hRl
                  have HOWN := Lib.hid hown
                  have HBOX := Lib.hid hbox
                  have HP4 := Lib.hid hp4
                  have HP5 := Lib.hid hp5
                  have HP6 := Lib.hid hp6
                  clear hB hca hcl hat hx hR hnext hRl hown hbox hp4 hp5 hp6
                  go_wp2_with (refine wpList_load_mid rfl 56 _ rfl b (off + k * 38) rfl c _ HCA.out Tryz.underlying56 rfl HI.out ?_)
                  refine (rCommit_any _ HREP.out HSM.out).mono ?_
                  rintro e w1 ⟨v1, rfl, f1⟩
                  have hb1 := hbl.trans (f1.2.mono hbl.size)
                  obtain ⟨y, hy⟩ : ∃ y, y = (tCommit).enc x := ⟨_, rfl⟩
                  have f1 : Fresh wr w1 v1 y := hy ▸ f1
                  rw [← hy] at HN
                  obtain ⟨A1, c1, rfl⟩ := f1.1.form
                  obtain ⟨vs, ho, hS, hr⟩ := HB.out.below f1.2
                  have hsz1 := f1.2.size
                  have hal : Below w1.heap.size w1 (w1.alloc (.cells #[.slice A1 y.length c1] 50)) := (Below.refl _ w1).alloc (Nat.le_refl _) _
                  have HAL := Lib.hid hal
                  have HO := Lib.hid (show Own (w1.alloc (.cells #[.slice A1 y.length c1] 50)) _ _ _ _ _ from own_keep ho fun k hk => hal.block k (own_lt ho hk))
                  have HS := Lib.hid hS
                  have HR := Lib.hid (fun i x u h1 h2 => (hr i x u h1 h2).below hal)
                  have HU := Lib.hid ((f1.1.1.below hal).sub (T := fun b => w_6.heap.size ≤ b ∧ (Value.slice Aa R.length ca).ownBlock ≠ some b) fun b hb _ => ⟨Nat.le_trans hMz hb.1, fun e => by have := HOWN.out b e; omega⟩)
                  have HS2 := Lib.hid (Cs.of_new w1 50 (size := 1) 1 (cs := [.slice A1 y.length c1]) rfl (by simp only [maxLen]; decide))
                  have H63 := Lib.hid (show R.length + 1 ≤ maxLen ∧ (R.length + 1) * 24 ≤ 140737488355328 from by have := HRL.out; refine ⟨by simp only [maxLen]; omega, by omega⟩)
                  have HF2 := Lib.hid f1.2
                  clear ho hS hr hal f1 hy
                  go_wp2_with (at_builtin; refine wpList_app _ rfl _ _ _ rfl Tryz.underlying103 info_row rfl (by decide) HO.out rfl HS2.out rfl (by simp [Value.oneCell']) H63.out.1 H63.out.2 ?_; intro v3 w3 ho3 hg3 hnil3 hat3; clear hnil3; have HO3 := Lib.hid ho3; clear ho3; have HG3 := Lib.hid hg3; clear hg3; have HAT3 := Lib.hid hat3; clear hat3)
                  have hzz := HAL.out.size
                  have hz3 := HG3.out.size
                  have hpush := Bss.push HO.out HS.out HR.out HU.out HO3.out HG3.out HAT3.out (by have := hb1.size; omega)
                  rw [← HN.out] at hpush
                  have hbA : Below w.heap.size w (w1.alloc (.cells #[.slice A1 y.length c1] 50)) := hb1.trans (HAL.out.mono hb1.size)
                  have hbw3 := HF2.out.trans (HAL.out.mono hsz1)
                  refine ⟨⟨k + 1, by omega, by push_cast; rfl, hpush, hbA.trans (HG3.out.below hbA.size fun b h => by have h1 := HS.out b h; have h2 := HBOX.out.lt; omega), by omega, (HBOX.out.below hbw3 HBOX.out.lt).chg HG3.out fun h => by have h1 := HS.out _ h; have h2 := hMb; omega, (HP4.out.below hbw3).chg HG3.out fun b hb h => by have := HS.out b h; omega, (HP5.out.below hbw3).chg HG3.out fun b hb h => by have := HS.out b h; omega, (HP6.out.below hbw3).chg HG3.out fun b hb h => by have := HS.out b h; omega⟩, ?_⟩
                  simp only [intOf]
                  omega
                · have hk' : k = (List.length (α := (tCommit).El) x7) := by omega
                  rw [hk', List.take_length] at hB
                  have hsm : ∀ x ∈ List.map (tCommit).enc x7, x.length ≤ 140737488355328 := fun x hx => by
                    have h1 := joinP_mem hx
                    have h2 := HE7.out
                    have h3 : ((Sh.list tCommit).enc x7).length = 8 + (joinP (List.map (tCommit).enc x7)).length := joinB_length _
                    omega
                  have hEJ7 := HEJ7.out
                  obtain ⟨R7m, hR7m⟩ : ∃ R, R = List.map (tCommit).enc x7 := ⟨_, rfl⟩
                  rw [← hR7m] at hB hsm hEJ7
                  have HRm7 := Lib.hid hR7m
                  have HEK7 := Lib.hid hEJ7
                  clear hR7m hEJ7
                  have V7 := Lib.hid (((hB.read hsm).lt_ (T := fun _ => True) fun _ _ => trivial).subs (T := fun b => b < wr.heap.size) fun b hb _ => hb.2)
                  obtain ⟨Ao7, co7, rfl⟩ := hB.form
                  have hbc7 := (HF.out wr hbox).2.2.2.2.2.2.2.1
                  have V4 := Lib.hid (hp4.subs (T := fun b => b < wr.heap.size) fun b hb _ => Nat.lt_of_lt_of_le hb hMz)
                  have V5 := Lib.hid (hp5.subs (T := fun b => b < wr.heap.size) fun b hb _ => Nat.lt_of_lt_of_le hb hMz)
                  have V6 := Lib.hid (hp6.subs (T := fun b => b < wr.heap.size) fun b hb _ => Nat.lt_of_lt_of_le hb hMz)
                  clear hB hsm hp4 hp5 hp6
                  obtain ⟨w_7, hw_7⟩ : ∃ w', w' = wr := ⟨_, rfl⟩
                  subst hw_7
                  have HBX7 := Lib.hid hbox; have hmb7 := hbox.lt; clear hbox
                  go_wp2_with fail
                  clear hlt hk hk'
                  have hal7 : Below w_7.heap.size w_7 (w_7.alloc (.cells #[] 50)) := (Below.refl _ w_7).alloc (Nat.le_refl _) _
                  have hMb : w.heap.size < w_7.heap.size := hmb7
                  go_loopw [11, 12] (fun o i wr => ∃ k : Nat, k ≤ (List.length (α := (tTx).El) x8) ∧ i = .int .i64 k ∧ Bss wr (fun b => w_7.heap.size ≤ b) (fun b => w_7.heap.size ≤ b) o ((List.take k x8).map (tTx).enc) ∧ Below w.heap.size w wr ∧ w_7.heap.size ≤ wr.heap.size ∧ Blk wr w.heap.size 48 C.toArray ∧ Bsr wr (fun b => b < w_7.heap.size) (.slice Ao4 R4m.length co4) R4m ∧ Bsr wr (fun b => b < w_7.heap.size) (.slice Ao5 R5m.length co5) R5m ∧ Bsr wr (fun b => b < w_7.heap.size) (.slice Ao6 R6m.length co6) R6m ∧ Bsr wr (fun b => b < w_7.heap.size) (.slice Ao7 R7m.length co7) R7m) (fun _ i _ => (List.length (α := (tTx).El) x8) - (intOf i).toNat)
                  case atStart => exact ⟨0, Nat.zero_le _, rfl, Bss.empty w_7 (fun b => w_7.heap.size ≤ b) (fun b => w_7.heap.size ≤ b) (Nat.le_refl _), hbl.alloc hbl.size _, by simp, (HBX7.out.below hal7 HBX7.out.lt), (V4.out.below hal7), (V5.out.below hal7), (V6.out.below hal7), (V7.out.below hal7)⟩
                  case round =>
                    obtain ⟨k, hk, rfl, hB, hbl, hMz, hbox, hp4, hp5, hp6, hp7⟩ := hrel
                    by_cases hlt : k < (List.length (α := (tTx).El) x8)
                    · obtain ⟨R, hR⟩ : ∃ R, R = (List.take k x8).map (tTx).enc := ⟨_, rfl⟩
                      rw [← hR] at hB
                      have hRl : R.length = k := by rw [hR, List.length_map, List.length_take]; omega
                      have hnext : (List.take (k + 1) x8).map (tTx).enc = R ++ [(tTx).enc (x8[k]'hlt)] := by rw [List.take_succ_eq_append_getElem hlt, List.map_append, ← hR]; rfl
                      obtain ⟨Aa, ca, rfl⟩ := hB.form
                      obtain ⟨_, _, e, _, hat⟩ := list_at (Sh.rep_below R8.out hbl)
                      injection e with e1 e2 e3
                      subst e1 e3
                      obtain ⟨b, off, c, rfl, hca, hr, hcl, hblt, _⟩ := hat k hlt
                      obtain ⟨x, hx⟩ : ∃ x, x = x8[k]'hlt := ⟨_, rfl⟩
                      rw [← hx] at hr hnext
                      have hsm2 : ((tTx).enc x).length ≤ 1099511627776 := by
                        have h1 := joinP_mem (List.mem_map.2 ⟨x8[k]'hlt, List.getElem_mem hlt, rfl⟩ : (tTx).enc (x8[k]'hlt) ∈ List.map (tTx).enc x8)
                        have h2 := HE8.out
                        have h3 : ((Sh.list tTx).enc x8).length = 8 + (joinP (List.map (tTx).enc x8)).length := joinB_length _
                        rw [hx]; omega
                      have hinfo : (Tryz.prog.info? 27).map (·.size) = some c.length := by rw [hcl]; kernel_rfl
                      have HCA := Lib.hid (show wr.rangeAt b (off + k * 41) c from hca)
                      have HI := Lib.hid hinfo
                      clear hinfo
                      have HREP := Lib.hid hr
                      have HSM := Lib.hid hsm2
                      clear hr hsm2
                      have hown : ∀ k, (Value.slice Aa R.length ca).ownBlock = some k → k < wr.heap.size := fun k hk => by obtain ⟨vs, ho, _⟩ := hB; exact own_lt ho hk
                      have hbc := (HF.out wr hbox).2.2.2.2.2.2.2.2
                      have HB := Lib.hid hB
                      have HN := Lib.hid hnext
                      have HRL := Lib.hid hRl
                      have HOWN := Lib.hid hown
                      have HBOX := Lib.hid hbox
                      have HP4 := Lib.hid hp4
                      have HP5 := Lib.hid hp5
                      have HP6 := Lib.hid hp6
                      have HP7 := Lib.hid hp7
                      clear hB hca hcl hat hx hR hnext hRl hown hbox hp4 hp5 hp6 hp7
                      go_wp2_with (refine wpList_load_mid rfl 27 _ rfl b (off + k * 41) rfl c _ HCA.out Tryz.underlying27 rfl HI.out ?_)
                      refine (rTx_any _ HREP.out HSM.out).mono ?_
                      rintro e w1 ⟨v1, rfl, f1⟩
                      have hb1 := hbl.trans (f1.2.mono hbl.size)
                      obtain ⟨y, hy⟩ : ∃ y, y = (tTx).enc x := ⟨_, rfl⟩
                      have f1 : Fresh wr w1 v1 y := hy ▸ f1
                      rw [← hy] at HN
                      obtain ⟨A1, c1, rfl⟩ := f1.1.form
                      obtain ⟨vs, ho, hS, hr⟩ := HB.out.below f1.2
                      have hsz1 := f1.2.size
                      have hal : Below w1.heap.size w1 (w1.alloc (.cells #[.slice A1 y.length c1] 50)) := (Below.refl _ w1).alloc (Nat.le_refl _) _
                      have HAL := Lib.hid hal
                      have HO := Lib.hid (show Own (w1.alloc (.cells #[.slice A1 y.length c1] 50)) _ _ _ _ _ from own_keep ho fun k hk => hal.block k (own_lt ho hk))
                      have HS := Lib.hid hS
                      have HR := Lib.hid (fun i x u h1 h2 => (hr i x u h1 h2).below hal)
                      have HU := Lib.hid ((f1.1.1.below hal).sub (T := fun b => w_7.heap.size ≤ b ∧ (Value.slice Aa R.length ca).ownBlock ≠ some b) fun b hb _ => ⟨Nat.le_trans hMz hb.1, fun e => by have := HOWN.out b e; omega⟩)
                      have HS2 := Lib.hid (Cs.of_new w1 50 (size := 1) 1 (cs := [.slice A1 y.length c1]) rfl (by simp only [maxLen]; decide))
                      have H63 := Lib.hid (show R.length + 1 ≤ maxLen ∧ (R.length + 1) * 24 ≤ 140737488355328 from by have := HRL.out; refine ⟨by simp only [maxLen]; omega, by omega⟩)
                      have HF2 := Lib.hid f1.2
                      clear ho hS hr hal f1 hy
                      go_wp2_with (at_builtin; refine wpList_app _ rfl _ _ _ rfl Tryz.underlying103 info_row rfl (by decide) HO.out rfl HS2.out rfl (by simp [Value.oneCell']) H63.out.1 H63.out.2 ?_; intro v3 w3 ho3 hg3 hnil3 hat3; clear hnil3; have HO3 := Lib.hid ho3; clear ho3; have HG3 := Lib.hid hg3; clear hg3; have HAT3 := Lib.hid hat3; clear hat3)
                      have hzz := HAL.out.size
                      have hz3 := HG3.out.size
                      have hpush := Bss.push HO.out HS.out HR.out HU.out HO3.out HG3.out HAT3.out (by have := hb1.size; omega)
                      rw [← HN.out] at hpush
                      have hbA : Below w.heap.size w (w1.alloc (.cells #[.slice A1 y.length c1] 50)) := hb1.trans (HAL.out.mono hb1.size)
                      have hbw3 := HF2.out.trans (HAL.out.mono hsz1)
                      refine ⟨⟨k + 1, by omega, by push_cast; rfl, hpush, hbA.trans (HG3.out.below hbA.size fun b h => by have h1 := HS.out b h; have h2 := HBOX.out.lt; omega), by omega, (HBOX.out.below hbw3 HBOX.out.lt).chg HG3.out fun h => by have h1 := HS.out _ h; have h2 := hMb; omega, (HP4.out.below hbw3).chg HG3.out fun b hb h => by have := HS.out b h; omega, (HP5.out.below hbw3).chg HG3.out fun b hb h => by have := HS.out b h; omega, (HP6.out.below hbw3).chg HG3.out fun b hb h => by have := HS.out b h; omega, (HP7.out.below hbw3).chg HG3.out fun b hb h => by have := HS.out b h; omega⟩, ?_⟩
                      simp only [intOf]
                      omega
                    · have hk' : k = (List.length (α := (tTx).El) x8) := by omega
                      rw [hk', List.take_length] at hB
                      have hsm : ∀ x ∈ List.map (tTx).enc x8, x.length ≤ 140737488355328 := fun x hx => by
                        have h1 := joinP_mem hx
                        have h2 := HE8.out
                        have h3 : ((Sh.list tTx).enc x8).length = 8 + (joinP (List.map (tTx).enc x8)).length := joinB_length _
                        omega
                      have hEJ8 := HEJ8.out
                      obtain ⟨R8m, hR8m⟩ : ∃ R, R = List.map (tTx).enc x8 := ⟨_, rfl⟩
                      rw [← hR8m] at hB hsm hEJ8
                      have HRm8 := Lib.hid hR8m
                      have HEK8 := Lib.hid hEJ8
                      clear hR8m hEJ8
                      have V8 := Lib.hid (((hB.read hsm).lt_ (T := fun _ => True) fun _ _ => trivial).subs (T := fun b => b < wr.heap.size) fun b hb _ => hb.2)
                      obtain ⟨Ao8, co8, rfl⟩ := hB.form
                      have hbc8 := (HF.out wr hbox).2.2.2.2.2.2.2.2
                      have V4 := Lib.hid (hp4.subs (T := fun b => b < wr.heap.size) fun b hb _ => Nat.lt_of_lt_of_le hb hMz)
                      have V5 := Lib.hid (hp5.subs (T := fun b => b < wr.heap.size) fun b hb _ => Nat.lt_of_lt_of_le hb hMz)
                      have V6 := Lib.hid (hp6.subs (T := fun b => b < wr.heap.size) fun b hb _ => Nat.lt_of_lt_of_le hb hMz)
                      have V7 := Lib.hid (hp7.subs (T := fun b => b < wr.heap.size) fun b hb _ => Nat.lt_of_lt_of_le hb hMz)
                      clear hB hsm hp4 hp5 hp6 hp7
                      obtain ⟨w_8, hw_8⟩ : ∃ w', w' = wr := ⟨_, rfl⟩
                      subst hw_8
                      have HBX8 := Lib.hid hbox; have hmb8 := hbox.lt; clear hbox
                      go_wp2_with fail
                      clear hlt hk hk'
                      have hsz := HBX8.out.lt
                      have hb0 : Blk w_8.drew w.heap.size 48 C.toArray := HBX8.out.drew
                      have hbw : Below w.heap.size w w_8.drew := (hbl).drew
                      have D3 := Lib.hid (Bs.of_range32 (S := fun b => b = w.heap.size) rfl hb0.lt ((HF.out _ hb0).2.2.2.1) L3.out)
                      refine wp_region_hoist [0, 1, 2, 4, 5, 6, 8, 9, 10, 12, 13, 14, 16, 18, 20, 22] [3, 7, 11, 15, 17, 19, 21, 23] [24, 25, 26] (fun w' => Blk w' w.heap.size 48 C.toArray)
                        (by kernel_rfl) (by kernel_rfl) (by kernel_rfl) (by kernel_rfl) (by kernel_rfl) (by kernel_rfl) hb0 ?_
                      (refine HoistK.yes (by rfl) (by kernel_rfl) ⟨?_, fun w' hSw => ?_, ?_⟩; rotate_left; (· go_simp; try with_reducible rfl); simp only [Act.put, List.setIfInBounds_toArray, List.getElem_toArray, List.getElem_cons_zero, List.set_cons_succ, List.set_cons_zero])
                      (refine HoistK.yes (by rfl) (by kernel_rfl) ⟨?_, fun w' hSw => ?_, ?_⟩; rotate_left; (· obtain ⟨s0, s1, s2, s3, s4, s5, s6, s7, s8⟩ := HF.out _ hSw; go_simp; try with_reducible rfl); simp only [Act.put, List.setIfInBounds_toArray, List.getElem_toArray, List.getElem_cons_succ, List.getElem_cons_zero, List.set_cons_succ, List.set_cons_zero])
                      (refine HoistK.yes (by rfl) (by kernel_rfl) ⟨?_, fun w' hSw => ?_, ?_⟩; rotate_left; (· go_simp; try with_reducible rfl); simp only [Act.put, List.setIfInBounds_toArray, List.getElem_toArray, List.getElem_cons_succ, List.getElem_cons_zero, List.set_cons_succ, List.set_cons_zero])
                      (refine HoistK.yes (by rfl) (by kernel_rfl) ⟨?_, fun w' hSw => ?_, ?_⟩; rotate_left; (· go_simp; try with_reducible rfl); simp only [Act.put, List.setIfInBounds_toArray, List.getElem_toArray, List.getElem_cons_succ, List.getElem_cons_zero, List.set_cons_succ, List.set_cons_zero])
                      (refine HoistK.yes (by rfl) (by kernel_rfl) ⟨?_, fun w' hSw => ?_, ?_⟩; rotate_left; (· obtain ⟨s0, s1, s2, s3, s4, s5, s6, s7, s8⟩ := HF.out _ hSw; go_simp; try with_reducible rfl); simp only [Act.put, List.setIfInBounds_toArray, List.getElem_toArray, List.getElem_cons_succ, List.getElem_cons_zero, List.set_cons_succ, List.set_cons_zero])
                      (refine HoistK.yes (by rfl) (by kernel_rfl) ⟨?_, fun w' hSw => ?_, ?_⟩; rotate_left; (· go_simp; try with_reducible rfl); simp only [Act.put, List.setIfInBounds_toArray, List.getElem_toArray, List.getElem_cons_succ, List.getElem_cons_zero, List.set_cons_succ, List.set_cons_zero])
                      (refine HoistK.yes (by rfl) (by kernel_rfl) ⟨?_, fun w' hSw => ?_, ?_⟩; rotate_left; (· go_simp; try with_reducible rfl); simp only [Act.put, List.setIfInBounds_toArray, List.getElem_toArray, List.getElem_cons_succ, List.getElem_cons_zero, List.set_cons_succ, List.set_cons_zero])
                      (refine HoistK.yes (by rfl) (by kernel_rfl) ⟨?_, fun w' hSw => ?_, ?_⟩; rotate_left; (· obtain ⟨s0, s1, s2, s3, s4, s5, s6, s7, s8⟩ := HF.out _ hSw; go_simp; try with_reducible rfl); simp only [Act.put, List.setIfInBounds_toArray, List.getElem_toArray, List.getElem_cons_succ, List.getElem_cons_zero, List.set_cons_succ, List.set_cons_zero])
                      (refine HoistK.yes (by rfl) (by kernel_rfl) ⟨?_, fun w' hSw => ?_, ?_⟩; rotate_left; (· go_simp; try with_reducible rfl); simp only [Act.put, List.setIfInBounds_toArray, List.getElem_toArray, List.getElem_cons_succ, List.getElem_cons_zero, List.set_cons_succ, List.set_cons_zero])
                      (refine HoistK.yes (by rfl) (by kernel_rfl) ⟨?_, fun w' hSw => ?_, ?_⟩; rotate_left; (· go_simp; try with_reducible rfl); simp only [Act.put, List.setIfInBounds_toArray, List.getElem_toArray, List.getElem_cons_succ, List.getElem_cons_zero, List.set_cons_succ, List.set_cons_zero])
                      (refine HoistK.yes (by rfl) (by kernel_rfl) ⟨?_, fun w' hSw => ?_, ?_⟩; rotate_left; (· go_simp; try with_reducible rfl); simp only [Act.put, List.setIfInBounds_toArray, List.getElem_toArray, List.getElem_cons_succ, List.getElem_cons_zero, List.set_cons_succ, List.set_cons_zero])
                      (refine HoistK.yes (by rfl) (by kernel_rfl) ⟨?_, fun w' hSw => ?_, ?_⟩; rotate_left; (· go_simp; try with_reducible rfl); simp only [Act.put, List.setIfInBounds_toArray, List.getElem_toArray, List.getElem_cons_succ, List.getElem_cons_zero, List.set_cons_succ, List.set_cons_zero])
                      (refine HoistK.yes (by rfl) (by kernel_rfl) ⟨?_, fun w' hSw => ?_, ?_⟩; rotate_left; (· go_simp; try with_reducible rfl); simp only [Act.put, List.setIfInBounds_toArray, List.getElem_toArray, List.getElem_cons_succ, List.getElem_cons_zero, List.set_cons_succ, List.set_cons_zero])
                      (refine HoistK.yes (by rfl) (by kernel_rfl) ⟨?_, fun w' hSw => ?_, ?_⟩; rotate_left; (· go_simp; try with_reducible rfl); simp only [Act.put, List.setIfInBounds_toArray, List.getElem_toArray, List.getElem_cons_succ, List.getElem_cons_zero, List.set_cons_succ, List.set_cons_zero])
                      (refine HoistK.yes (by rfl) (by kernel_rfl) ⟨?_, fun w' hSw => ?_, ?_⟩; rotate_left; (· go_simp; try with_reducible rfl); simp only [Act.put, List.setIfInBounds_toArray, List.getElem_toArray, List.getElem_cons_succ, List.getElem_cons_zero, List.set_cons_succ, List.set_cons_zero])
                      (refine HoistK.yes (by rfl) (by kernel_rfl) ⟨?_, fun w' hSw => ?_, ?_⟩; rotate_left; (· go_simp; try with_reducible rfl); simp only [Act.put, List.setIfInBounds_toArray, List.getElem_toArray, List.getElem_cons_succ, List.getElem_cons_zero, List.set_cons_succ, List.set_cons_zero])
                      refine HoistK.nil_ ?_
                      simp only [opsAt, List.filterMap_cons, List.filterMap_nil, List.getElem?_toArray, List.getElem?_cons_succ, List.getElem?_cons_zero]
                      have g0 : Got w_8.drew w_8.drew [] [] := Got.start (Below.refl _ _)
                      refine Effects.cons_ fun _ hQ1 => ?_
                      go_wp2_with fail
                      refine (rNumI_any _ _).mono ?_
                      rintro e u1 ⟨v1, rfl, f1⟩
                      have g1 := g0.step f1
                      have hb1 := hb0.below f1.2 hb0.lt
                      clear f1
                      go_wp2_with fail
                      refine hQ1 _ _ hb1 (Effects.cons_ fun _ hQ2 => ?_)
                      clear hQ1 hb0 g0
                      go_wp2_with fail
                      refine (rNumI_any _ _).mono ?_
                      rintro e u2 ⟨v2, rfl, f2⟩
                      have g2 := g1.step f2
                      have hb2 := hb1.below f2.2 hb1.lt
                      clear f2
                      go_wp2_with fail
                      refine hQ2 _ _ hb2 (Effects.cons_ fun _ hQ3 => ?_)
                      clear hQ2 hb1 g1
                      go_wp2_with fail
                      refine (rNumI_any _ _).mono ?_
                      rintro e u3 ⟨v3, rfl, f3⟩
                      have g3 := g2.step f3
                      have hb3 := hb2.below f3.2 hb2.lt
                      clear f3
                      go_wp2_with fail
                      refine hQ3 _ _ hb3 (Effects.cons_ fun _ hQ4 => ?_)
                      clear hQ3 hb2 g2
                      have g4 := g3.old D3.out
                      clear g3
                      go_wp2_with fail
                      refine (rJoin_any _ (V4.out.drew_.below g4.1) HEK4.out (fun b hb => Nat.lt_of_lt_of_le hb g4.1.size)).mono ?_
                      rintro e u4 ⟨v5, rfl, f4⟩
                      rw [HRm4.out] at f4
                      have f4 : Fresh _ _ _ ((Sh.list tBlock).enc x4) := f4
                      have g5 := g4.step f4
                      have hb4 := hb3.below f4.2 hb3.lt
                      clear f4
                      go_wp2_with fail
                      refine hQ4 _ _ hb4 (Effects.cons_ fun _ hQ5 => ?_)
                      clear hQ4 hb3 g4
                      go_wp2_with fail
                      refine (rJoin_any _ (V5.out.drew_.below g5.1) HEK5.out (fun b hb => Nat.lt_of_lt_of_le hb g5.1.size)).mono ?_
                      rintro e u5 ⟨v6, rfl, f5⟩
                      rw [HRm5.out] at f5
                      have f5 : Fresh _ _ _ ((Sh.list tVote).enc x5) := f5
                      have g6 := g5.step f5
                      have hb5 := hb4.below f5.2 hb4.lt
                      clear f5
                      go_wp2_with fail
                      refine hQ5 _ _ hb5 (Effects.cons_ fun _ hQ6 => ?_)
                      clear hQ5 hb4 g5
                      go_wp2_with fail
                      refine (rJoin_any _ (V6.out.drew_.below g6.1) HEK6.out (fun b hb => Nat.lt_of_lt_of_le hb g6.1.size)).mono ?_
                      rintro e u6 ⟨v7, rfl, f6⟩
                      rw [HRm6.out] at f6
                      have f6 : Fresh _ _ _ ((Sh.list tTimeout).enc x6) := f6
                      have g7 := g6.step f6
                      have hb6 := hb5.below f6.2 hb5.lt
                      clear f6
                      go_wp2_with fail
                      refine hQ6 _ _ hb6 (Effects.cons_ fun _ hQ7 => ?_)
                      clear hQ6 hb5 g6
                      go_wp2_with fail
                      refine (rJoin_any _ (V7.out.drew_.below g7.1) HEK7.out (fun b hb => Nat.lt_of_lt_of_le hb g7.1.size)).mono ?_
                      rintro e u7 ⟨v8, rfl, f7⟩
                      rw [HRm7.out] at f7
                      have f7 : Fresh _ _ _ ((Sh.list tCommit).enc x7) := f7
                      have g8 := g7.step f7
                      have hb7 := hb6.below f7.2 hb6.lt
                      clear f7
                      go_wp2_with fail
                      refine hQ7 _ _ hb7 (Effects.cons_ fun _ hQ8 => ?_)
                      clear hQ7 hb6 g7
                      go_wp2_with fail
                      refine (rJoin_any _ (V8.out.drew_.below g8.1) HEK8.out (fun b hb => Nat.lt_of_lt_of_le hb g8.1.size)).mono ?_
                      rintro e u8 ⟨v9, rfl, f8⟩
                      rw [HRm8.out] at f8
                      have f8 : Fresh _ _ _ ((Sh.list tTx).enc x8) := f8
                      have g9 := g8.step f8
                      have hb8 := hb7.below f8.2 hb7.lt
                      clear f8
                      go_wp2_with fail
                      refine hQ8 _ _ hb8 (Effects.nil_ fun _ hQ9 => ?_)
                      clear hQ8 hb7 g8
                      have hcs : ∀ v ∈ [v1, v2, v3, (.slice (some ⟨w.heap.size, 3, none⟩) 32 32), v5, v6, v7, v8, v9], v.cells = #[v] := fun v hv => by
                        obtain ⟨i, hi, rfl⟩ := List.getElem_of_mem hv
                        obtain ⟨y, _, hr⟩ := g9.2.get i hi
                        obtain ⟨A, c, e⟩ := hr.form
                        have e' : [v1, v2, v3, (.slice (some ⟨w.heap.size, 3, none⟩) 32 32), v5, v6, v7, v8, v9][i] = .slice A y.length c := e
                        rw [e']; rfl
                      refine wpList_rows rfl 9 _ rfl [v1, v2, v3, (.slice (some ⟨w.heap.size, 3, none⟩) 32 32), v5, v6, v7, v8, v9] rfl (by decide) (by decide) hcs (by simp [Act.eval]) ?_
                      have hr : Bsr (u8.alloc (.cells [v1, v2, v3, (.slice (some ⟨w.heap.size, 3, none⟩) 32 32), v5, v6, v7, v8, v9].toArray 50)) (fun b => b < u8.heap.size + 1) (.slice (some ⟨u8.heap.size, 0, none⟩) 9 9) [numB x0, numB x1, numB x2, x3, (Sh.list tBlock).enc x4, (Sh.list tVote).enc x5, (Sh.list tTimeout).enc x6, (Sh.list tCommit).enc x7, (Sh.list tTx).enc x8] := g9.row (by simp [maxLen]) 50
                      have hj := rJoin_any _ hr (by have := HLL.out; omega) (fun b hb => by simpa using hb)
                      have hbb : Below w.heap.size w (u8.alloc (.cells [v1, v2, v3, (.slice (some ⟨w.heap.size, 3, none⟩) 32 32), v5, v6, v7, v8, v9].toArray 50)) := (hbw.trans (g9.1.mono hbw.size)).alloc (hbw.trans (g9.1.mono hbw.size)).size _
                      have HJ := Lib.hid hj
                      have HBB := Lib.hid hbb
                      clear hj hbb hr g9 hcs
                      go_wp2_with fail
                      refine HJ.out.mono ?_
                      rintro e uz ⟨vz, rfl, fz⟩
                      go_wp2_with fail
                      go_ret
                      exact ⟨vz, rfl, fz.1.sub fun b hb _ => ⟨Nat.le_trans HBB.out.size hb.1, hb.2⟩, HBB.out.trans (fz.2.mono HBB.out.size)⟩

end Go.Proofs.YtjjgmkfkmckkoabGreatDoor

/- Codec: list[Block]. -/
namespace Go.Proofs.YtjjgmkfkmckkoabGreatDoor
open Go.RowKit Go.Maps
attribute [-simp] Tryz.isAgg24 Tryz.typeInfo24 Tryz.isAgg39 Tryz.typeInfo39

set_option maxHeartbeats 2000000 in
set_option maxRecDepth 100000 in
theorem listBlock_any (w : World) {S : Nat → Prop} {v : Value} {l : List (tBlock).El} (h : (Sh.list tBlock).rep w S l [v]) (hl : ((Sh.list tBlock).enc l).length ≤ 1099511627776) :
    Calls Tryz.prog 31 #[v, .func (Fn.func 19) #[] #[]] w fun e w' => ∃ v', e = .returned v' ∧ Fresh w w' v' ((Sh.list tBlock).enc l) := by
  obtain ⟨A, cap, rfl, hlen, hat⟩ := list_at h
  have H := Lib.hid h; clear h
  have hl' : (joinB (l.map (tBlock).enc)).length ≤ 1099511627776 := hl
  have hcnt := joinP_count (l.map (tBlock).enc)
  rw [joinB_length] at hl'
  rw [List.length_map] at hcnt
  have HLL := Lib.hid hl
  clear hl hat
  go_enter Tryz.func31, Tryz.ntmps31
  go_wp2_with fail
  go_loopw [5, 10] (fun a i wr => ∃ k : Nat, k ≤ l.length ∧ i = .int .i64 k ∧ Bss wr (fun b => w.heap.size ≤ b) (fun b => w.heap.size ≤ b) a ((l.take k).map (tBlock).enc) ∧ Below w.heap.size w wr) (fun _ i _ => l.length - (intOf i).toNat)
  case atStart => exact ⟨0, Nat.zero_le _, rfl, Bss.nil_ _ _ _, Below.refl _ _⟩
  case round =>
    obtain ⟨k, hk, rfl, hB, hbl⟩ := hrel
    by_cases hlt : k < l.length
    · obtain ⟨R, hR⟩ : ∃ R, R = (l.take k).map (tBlock).enc := ⟨_, rfl⟩
      rw [← hR] at hB
      have hRl : R.length = k := by rw [hR, List.length_map, List.length_take]; omega
      have hnext : (l.take (k + 1)).map (tBlock).enc = R ++ [(tBlock).enc l[k]] := by rw [List.take_succ_eq_append_getElem hlt, List.map_append, ← hR]; rfl
      obtain ⟨Aa, ca, rfl⟩ := hB.form
      obtain ⟨_, _, e, _, hat⟩ := list_at (Sh.rep_below H.out hbl)
      injection e with e1 e2 e3
      subst e1 e3
      obtain ⟨b, off, c, rfl, hca, hr, hcl, _, _⟩ := hat k hlt
      obtain ⟨x, hx⟩ : ∃ x, x = l[k] := ⟨_, rfl⟩
      rw [← hx] at hr hnext
      have hsm2 : ((tBlock).enc x).length ≤ 1099511627776 := by
        have h1 := joinP_mem (List.mem_map.2 ⟨l[k], List.getElem_mem hlt, rfl⟩ : (tBlock).enc l[k] ∈ l.map (tBlock).enc)
        rw [hx]; omega
      have hinfo : (Tryz.prog.info? 39).map (·.size) = some c.length := by rw [hcl]; kernel_rfl
      have HC1 := Lib.hid (Sh.rep_one _ _ _ hr)
      have HCA := Lib.hid (show wr.rangeAt b (off + k * 173) c from hca)
      have HI := Lib.hid hinfo
      have HCL := Lib.hid hcl
      have HREP := Lib.hid hr
      have HSM := Lib.hid hsm2
      clear hinfo hr hsm2
      have hown : ∀ k, (Value.slice Aa R.length ca).ownBlock = some k → k < wr.heap.size := fun k hk => by obtain ⟨vs, ho, _⟩ := hB; exact own_lt ho hk
      have HB := Lib.hid hB
      have HN := Lib.hid hnext
      have HRL := Lib.hid hRl
      have HOWN := Lib.hid hown
      clear hB hca hcl hat hx hR hnext hRl hown
      go_wp2_with (first | (refine wpList_load_mid rfl 39 _ rfl b (off + k * 173) rfl c _ HCA.out Tryz.underlying39 rfl HI.out ?_) | (refine wpList_store_blk (cs0 := ([.int .i64 0, .int .i64 0, .int .i64 0, .int .i64 0] ++ List.replicate 96 (.int .u8 0) ++ [.int .i64 0]) ++ ([.int .i64 0, .int .i64 0, .int .i64 0] ++ List.replicate 32 (.int .u8 0) ++ [.slice none 0 0, .slice none 0 0]) ++ [.slice none 0 0, .slice none 0 0] ++ ([.int .i64 0] ++ List.replicate 32 (.int .u8 0))) (cs := c) rfl 39 _ _ rfl (Blk.new wr _ _) rfl rfl (by rw [HCL.out]; rfl) HI.out HC1.out ?_; intro w4 hb4 hc4; have HB4 := Lib.hid hb4; have HC4 := Lib.hid hc4; clear hb4 hc4) | (refine wpList_load_blk' rfl 39 _ rfl HB4.out rfl Tryz.underlying39 rfl HI.out ?_))
      have hbw4 : Below wr.heap.size wr w4 := ((Below.refl _ wr).alloc (Nat.le_refl _) _).trans (HC4.out.below (by simp) fun b hb => Nat.le_of_eq hb.symm)
      have hr := Sh.rep_below HREP.out hbw4
      refine (block_any _ hr HSM.out).mono ?_
      rintro e w1 ⟨v1, rfl, f4⟩
      have f1 : Fresh wr w1 v1 _ := ⟨f4.1.sub fun b hb _ => ⟨Nat.le_trans hbw4.size hb.1, hb.2⟩, hbw4.trans (f4.2.mono hbw4.size)⟩
      clear f4 hr
      have hb1 := hbl.trans (f1.2.mono hbl.size)
      obtain ⟨y, hy⟩ : ∃ y, y = (tBlock).enc x := ⟨_, rfl⟩
      have f1 : Fresh wr w1 v1 y := hy ▸ f1
      rw [← hy] at HN
      obtain ⟨A1, c1, rfl⟩ := f1.1.form
      obtain ⟨vs, ho, hS, hr⟩ := HB.out.below f1.2
      have hsz1 := f1.2.size
      have hal : Below w1.heap.size w1 (w1.alloc (.cells #[.slice A1 y.length c1] 50)) := (Below.refl _ w1).alloc (Nat.le_refl _) _
      have HAL := Lib.hid hal
      have HO := Lib.hid (show Own (w1.alloc (.cells #[.slice A1 y.length c1] 50)) _ _ _ _ _ from own_keep ho fun k hk => hal.block k (own_lt ho hk))
      have HS := Lib.hid hS
      have HR := Lib.hid (fun i x u h1 h2 => (hr i x u h1 h2).below hal)
      have HU := Lib.hid ((f1.1.1.below hal).sub (T := fun b => w.heap.size ≤ b ∧ (Value.slice Aa R.length ca).ownBlock ≠ some b) fun b hb _ => ⟨Nat.le_trans hbl.size hb.1, fun e => by have := HOWN.out b e; omega⟩)
      have HS2 := Lib.hid (Cs.of_new w1 50 (size := 1) 1 (cs := [.slice A1 y.length c1]) rfl (by simp only [maxLen]; decide))
      have H63 := Lib.hid (show R.length + 1 ≤ maxLen ∧ (R.length + 1) * 24 ≤ 140737488355328 from by have := HRL.out; refine ⟨by simp only [maxLen]; omega, by omega⟩)
      clear ho hS hr hal f1 hy
      go_wp2_with (at_builtin; refine wpList_app _ rfl _ _ _ rfl Tryz.underlying103 info_row rfl (by decide) HO.out rfl HS2.out rfl (by simp [Value.oneCell']) H63.out.1 H63.out.2 ?_; intro v3 w3 ho3 hg3 hnil3 hat3; clear hnil3; have HO3 := Lib.hid ho3; clear ho3; have HG3 := Lib.hid hg3; clear hg3; have HAT3 := Lib.hid hat3; clear hat3)
      have hpush := Bss.push HO.out HS.out HR.out HU.out HO3.out HG3.out HAT3.out (by have := hb1.size; have := HAL.out.size; omega)
      rw [← HN.out] at hpush
      refine ⟨⟨k + 1, by omega, by push_cast; rfl, hpush, (hb1.trans (HAL.out.mono hb1.size)).trans (HG3.out.below (Nat.le_trans hb1.size HAL.out.size) fun b h => HS.out b h)⟩, ?_⟩
      simp only [intOf]
      omega
    · have hk' : k = l.length := by omega
      rw [hk', List.take_length] at hB
      have hsm : ∀ x ∈ l.map (tBlock).enc, x.length ≤ 140737488355328 := fun x hx => by have := joinP_mem hx; omega
      have hj := join_any _ ((hB.read hsm).lt_ (T := fun b => w.heap.size ≤ b) fun b h => h.elim id id) (by rw [joinB_length]; omega) fun b h => h.2
      have HJ := Lib.hid hj
      obtain ⟨R, hR⟩ : ∃ R, R = l.map (tBlock).enc := ⟨_, rfl⟩
      have HR := Lib.hid hR
      rw [← hR] at hB HJ
      obtain ⟨Aa, ca, rfl⟩ := hB.form
      clear hj hB hR hsm
      go_wp2_with fail
      refine HJ.out.mono ?_
      rintro e w1 ⟨v1, rfl, f1⟩
      go_wp2_with fail
      go_ret
      refine ⟨v1, rfl, ?_, hbl.trans (f1.2.mono hbl.size)⟩
      have := f1.1.sub (T := fun b => w.heap.size ≤ b ∧ Th w1 b) fun b hb _ => ⟨Nat.le_trans hbl.size hb.1, hb.2⟩
      rw [HR.out] at this
      exact this

end Go.Proofs.YtjjgmkfkmckkoabGreatDoor

/- Codec: a vote. -/
namespace Go.Proofs.YtjjgmkfkmckkoabGreatDoor
open Go.RowKit Go.Maps
attribute [-simp] Tryz.isAgg24 Tryz.typeInfo24 Tryz.isAgg37 Tryz.typeInfo37

set_option maxHeartbeats 4000000 in
set_option maxRecDepth 100000 in
theorem vote_any (w : World) {S : Nat → Prop} {x : tVote.El} {cs : List Value} (h : tVote.rep w S x cs) (hl : (tVote.enc x).length ≤ 1099511627776) :
    Calls Tryz.prog 33 #[.agg cs.toArray] w fun e w' => ∃ v', e = .returned v' ∧ Fresh w w' v' (tVote.enc x) := by
  obtain ⟨x0, x1, x2, x3, x4, x5, _⟩ := x
  obtain ⟨c0, _, rfl, ⟨rfl, _⟩, c1, _, rfl, ⟨rfl, _⟩, c2, _, rfl, ⟨rfl, _⟩, c3, _, rfl, ⟨rfl, l3⟩, c4, _, rfl, ⟨rfl, _⟩, c5, _, rfl, r5, rfl⟩ := h
  have l5 : c5.length = 33 := Sh.rep_size _ _ _ r5
  obtain ⟨y5, hy5⟩ : ∃ y, y = c5 := ⟨_, rfl⟩
  subst hy5
  have R5 := Lib.hid r5; clear r5
  simp only [nk_t]
  obtain ⟨C, hC⟩ : ∃ C, C = [Value.int .i64 x0] ++ ([Value.int .i64 x1] ++ ([Value.int .i64 x2] ++ (u8s x3 ++ ([Value.int .i64 x4] ++ (y5 ++ ([])))))) := ⟨_, rfl⟩
  rw [← hC]
  have hf : ∀ w', Blk w' w.heap.size 87 C.toArray → w'.cell? ⟨w.heap.size, 0, none⟩ = some (.int .i64 x0) ∧ w'.cell? ⟨w.heap.size, 1, none⟩ = some (.int .i64 x1) ∧ w'.cell? ⟨w.heap.size, 2, none⟩ = some (.int .i64 x2) ∧ w'.rangeAt w.heap.size 3 (u8s x3) ∧ w'.cell? ⟨w.heap.size, 35, none⟩ = some (.int .i64 x4) ∧ w'.rangeAt w.heap.size 36 y5 := fun w' hb => by
    have := hb.lies [[Value.int .i64 x0], [Value.int .i64 x1], [Value.int .i64 x2], u8s x3, [Value.int .i64 x4], y5] [] (by rw [hC]; simp)
    simp only [Lies, u8s_length, l3, List.length_cons, List.length_nil] at this
    obtain ⟨s0, s1, s2, s3, s4, s5, _⟩ := this
    exact ⟨Lies.one s0, Lies.one s1, Lies.one s2, s3, Lies.one s4, s5⟩
  have HF := Lib.hid hf
  clear hf hC
  have hrows : tVote.enc (x0, x1, x2, x3, x4, x5, ()) = joinB [numB x0, numB x1, numB x2, x3, numB x4, tSig.enc x5] := rfl
  have hl' : (joinB [numB x0, numB x1, numB x2, x3, numB x4, tSig.enc x5]).length ≤ 1099511627776 := hl
  have HLL := Lib.hid hl'
  clear hl hl'
  go_enter Tryz.func33, Tryz.ntmps33
  go_wp2_with fail
  have hsz : w.heap.size < w.heap.size + 1 := by omega
  refine wp_region_hoist [0, 1, 3, 4, 6, 7, 9, 10, 12, 13, 15, 16] [2, 5, 8, 11, 14, 17] [18, 19, 20] (fun w' => Blk w' w.heap.size 87 C.toArray)
    (by kernel_rfl) (by kernel_rfl) (by kernel_rfl) (by kernel_rfl) (by kernel_rfl) (by kernel_rfl) (Blk.new w _ _).drew ?_
  (refine HoistK.yes (by rfl) (by kernel_rfl) ⟨?_, fun w' hSw => ?_, ?_⟩; rotate_left; (· go_simp; try with_reducible rfl); simp only [Act.put, List.setIfInBounds_toArray, List.getElem_toArray, List.getElem_cons_zero, List.set_cons_succ, List.set_cons_zero])
  (refine HoistK.yes (by rfl) (by kernel_rfl) ⟨?_, fun w' hSw => ?_, ?_⟩; rotate_left; (· obtain ⟨s0, s1, s2, s3, s4, s5⟩ := HF.out _ hSw; go_simp; try with_reducible rfl); simp only [Act.put, List.setIfInBounds_toArray, List.getElem_toArray, List.getElem_cons_succ, List.getElem_cons_zero, List.set_cons_succ, List.set_cons_zero])
  (refine HoistK.yes (by rfl) (by kernel_rfl) ⟨?_, fun w' hSw => ?_, ?_⟩; rotate_left; (· go_simp; try with_reducible rfl); simp only [Act.put, List.setIfInBounds_toArray, List.getElem_toArray, List.getElem_cons_succ, List.getElem_cons_zero, List.set_cons_succ, List.set_cons_zero])
  (refine HoistK.yes (by rfl) (by kernel_rfl) ⟨?_, fun w' hSw => ?_, ?_⟩; rotate_left; (· obtain ⟨s0, s1, s2, s3, s4, s5⟩ := HF.out _ hSw; go_simp; try with_reducible rfl); simp only [Act.put, List.setIfInBounds_toArray, List.getElem_toArray, List.getElem_cons_succ, List.getElem_cons_zero, List.set_cons_succ, List.set_cons_zero])
  (refine HoistK.yes (by rfl) (by kernel_rfl) ⟨?_, fun w' hSw => ?_, ?_⟩; rotate_left; (· go_simp; try with_reducible rfl); simp only [Act.put, List.setIfInBounds_toArray, List.getElem_toArray, List.getElem_cons_succ, List.getElem_cons_zero, List.set_cons_succ, List.set_cons_zero])
  (refine HoistK.yes (by rfl) (by kernel_rfl) ⟨?_, fun w' hSw => ?_, ?_⟩; rotate_left; (· obtain ⟨s0, s1, s2, s3, s4, s5⟩ := HF.out _ hSw; go_simp; try with_reducible rfl); simp only [Act.put, List.setIfInBounds_toArray, List.getElem_toArray, List.getElem_cons_succ, List.getElem_cons_zero, List.set_cons_succ, List.set_cons_zero])
  (refine HoistK.yes (by rfl) (by kernel_rfl) ⟨?_, fun w' hSw => ?_, ?_⟩; rotate_left; (· go_simp; try with_reducible rfl); simp only [Act.put, List.setIfInBounds_toArray, List.getElem_toArray, List.getElem_cons_succ, List.getElem_cons_zero, List.set_cons_succ, List.set_cons_zero])
  (refine HoistK.load (by rfl) (by kernel_rfl) 24 _ rfl w.heap.size 3 rfl (u8s x3) _ (fun w' hw => (HF.out w' hw).2.2.2.1) Tryz.underlying24 rfl (by rw [u8s_length, l3]; kernel_rfl) ?_; simp only [Act.put, List.setIfInBounds_toArray, List.getElem_toArray, List.getElem_cons_succ, List.getElem_cons_zero, List.set_cons_succ, List.set_cons_zero])
  (refine HoistK.yes (by rfl) (by kernel_rfl) ⟨?_, fun w' hSw => ?_, ?_⟩; rotate_left; (· go_simp; try with_reducible rfl); simp only [Act.put, List.setIfInBounds_toArray, List.getElem_toArray, List.getElem_cons_succ, List.getElem_cons_zero, List.set_cons_succ, List.set_cons_zero])
  (refine HoistK.yes (by rfl) (by kernel_rfl) ⟨?_, fun w' hSw => ?_, ?_⟩; rotate_left; (· obtain ⟨s0, s1, s2, s3, s4, s5⟩ := HF.out _ hSw; go_simp; try with_reducible rfl); simp only [Act.put, List.setIfInBounds_toArray, List.getElem_toArray, List.getElem_cons_succ, List.getElem_cons_zero, List.set_cons_succ, List.set_cons_zero])
  (refine HoistK.yes (by rfl) (by kernel_rfl) ⟨?_, fun w' hSw => ?_, ?_⟩; rotate_left; (· go_simp; try with_reducible rfl); simp only [Act.put, List.setIfInBounds_toArray, List.getElem_toArray, List.getElem_cons_succ, List.getElem_cons_zero, List.set_cons_succ, List.set_cons_zero])
  (refine HoistK.load (by rfl) (by kernel_rfl) 37 _ rfl w.heap.size 36 rfl (y5) _ (fun w' hw => (HF.out w' hw).2.2.2.2.2) Tryz.underlying37 rfl (by rw [l5]; kernel_rfl) ?_; simp only [Act.put, List.setIfInBounds_toArray, List.getElem_toArray, List.getElem_cons_succ, List.getElem_cons_zero, List.set_cons_succ, List.set_cons_zero])
  refine HoistK.nil_ ?_
  simp only [opsAt, List.filterMap_cons, List.filterMap_nil, List.getElem?_toArray, List.getElem?_cons_succ, List.getElem?_cons_zero]
  have hb0 : Blk (w.alloc (.cells C.toArray 87)).drew w.heap.size 87 C.toArray := (Blk.new w _ _).drew
  have g0 : Got w (w.alloc (.cells C.toArray 87)).drew [] [] := Got.start ((Below.refl _ w).alloc (Nat.le_refl _) _).drew
  refine Effects.cons_ fun _ hQ1 => ?_
  go_wp2_with fail
  refine (numInt_any _ _).mono ?_
  rintro e w1 ⟨v1, rfl, f1⟩
  have g1 := g0.step f1
  have hb1 := hb0.below f1.2 hb0.lt
  clear f1
  go_wp2_with fail
  refine hQ1 _ _ hb1 (Effects.cons_ fun _ hQ2 => ?_)
  clear hQ1 hb0 g0
  go_wp2_with fail
  refine (numInt_any _ _).mono ?_
  rintro e w2 ⟨v2, rfl, f2⟩
  have g2 := g1.step f2
  have hb2 := hb1.below f2.2 hb1.lt
  clear f2
  go_wp2_with fail
  refine hQ2 _ _ hb2 (Effects.cons_ fun _ hQ3 => ?_)
  clear hQ2 hb1 g1
  go_wp2_with fail
  refine (numInt64_any _ _).mono ?_
  rintro e w3 ⟨v3, rfl, f3⟩
  have g3 := g2.step f3
  have hb3 := hb2.below f3.2 hb2.lt
  clear f3
  go_wp2_with fail
  refine hQ3 _ _ hb3 (Effects.cons_ fun _ hQ4 => ?_)
  clear hQ3 hb2 g2
  go_wp2_with fail
  refine (digest_any _ _ l3).mono ?_
  rintro e w4 ⟨v4, rfl, f4⟩
  have g4 := g3.step f4
  have hb4 := hb3.below f4.2 hb3.lt
  clear f4
  go_wp2_with fail
  refine hQ4 _ _ hb4 (Effects.cons_ fun _ hQ5 => ?_)
  clear hQ4 hb3 g3
  go_wp2_with fail
  refine (numInt_any _ _).mono ?_
  rintro e w5 ⟨v5, rfl, f5⟩
  have g5 := g4.step f5
  have hb5 := hb4.below f5.2 hb4.lt
  clear f5
  go_wp2_with fail
  refine hQ5 _ _ hb5 (Effects.cons_ fun _ hQ6 => ?_)
  clear hQ5 hb4 g4
  go_wp2_with fail
  refine (sig_any _ (Sh.rep_below R5.out g5.1) (by have h1 := HLL.out; rw [joinB_length] at h1; have h2 := joinP_mem (l := [numB x0, numB x1, numB x2, x3, numB x4, tSig.enc x5]) (x := tSig.enc x5) (by simp); omega)).mono ?_
  rintro e w6 ⟨v6, rfl, f6⟩
  have g6 := g5.step f6
  have hb6 := hb5.below f6.2 hb5.lt
  clear f6
  go_wp2_with fail
  refine hQ6 _ _ hb6 (Effects.nil_ fun _ hQ7 => ?_)
  clear hQ6 hb5 g5
  have hcs : ∀ v ∈ [v1, v2, v3, v4, v5, v6], v.cells = #[v] := fun v hv => by
    obtain ⟨i, hi, rfl⟩ := List.getElem_of_mem hv
    obtain ⟨y, _, hr⟩ := g6.2.get i hi
    obtain ⟨A, c, e⟩ := hr.form
    have e' : [v1, v2, v3, v4, v5, v6][i] = .slice A y.length c := e
    rw [e']; rfl
  refine wpList_rows rfl 6 _ rfl [v1, v2, v3, v4, v5, v6] rfl (by decide) (by decide) hcs (by simp [Act.eval]) ?_
  have hr : Bsr (w6.alloc (.cells [v1, v2, v3, v4, v5, v6].toArray 50)) (fun b => b < w6.heap.size + 1) (.slice (some ⟨w6.heap.size, 0, none⟩) 6 6) [numB x0, numB x1, numB x2, x3, numB x4, tSig.enc x5] := g6.row (by simp [maxLen]) 50
  have hj := join_any _ hr (by have := HLL.out; omega) (fun b hb => by simpa using hb)
  have hbb : Below w.heap.size w (w6.alloc (.cells [v1, v2, v3, v4, v5, v6].toArray 50)) := g6.1.alloc g6.1.size _
  have HJ := Lib.hid hj
  have HBB := Lib.hid hbb
  clear hj hbb hr g6 hcs
  go_wp2_with fail
  refine HJ.out.mono ?_
  rintro e w7 ⟨v7, rfl, f7⟩
  go_wp2_with fail
  go_ret
  exact ⟨v7, rfl, f7.1.sub fun b hb _ => ⟨Nat.le_trans HBB.out.size hb.1, hb.2⟩, HBB.out.trans (f7.2.mono HBB.out.size)⟩

end Go.Proofs.YtjjgmkfkmckkoabGreatDoor

/- Codec: list[Vote]. -/
namespace Go.Proofs.YtjjgmkfkmckkoabGreatDoor
open Go.RowKit Go.Maps
attribute [-simp] Tryz.isAgg24 Tryz.typeInfo24 Tryz.isAgg87 Tryz.typeInfo87

set_option maxHeartbeats 2000000 in
set_option maxRecDepth 100000 in
theorem listVote_any (w : World) {S : Nat → Prop} {v : Value} {l : List (tVote).El} (h : (Sh.list tVote).rep w S l [v]) (hl : ((Sh.list tVote).enc l).length ≤ 1099511627776) :
    Calls Tryz.prog 32 #[v, .func (Fn.func 33) #[] #[]] w fun e w' => ∃ v', e = .returned v' ∧ Fresh w w' v' ((Sh.list tVote).enc l) := by
  obtain ⟨A, cap, rfl, hlen, hat⟩ := list_at h
  have H := Lib.hid h; clear h
  have hl' : (joinB (l.map (tVote).enc)).length ≤ 1099511627776 := hl
  have hcnt := joinP_count (l.map (tVote).enc)
  rw [joinB_length] at hl'
  rw [List.length_map] at hcnt
  have HLL := Lib.hid hl
  clear hl hat
  go_enter Tryz.func32, Tryz.ntmps32
  go_wp2_with fail
  go_loopw [5, 10] (fun a i wr => ∃ k : Nat, k ≤ l.length ∧ i = .int .i64 k ∧ Bss wr (fun b => w.heap.size ≤ b) (fun b => w.heap.size ≤ b) a ((l.take k).map (tVote).enc) ∧ Below w.heap.size w wr) (fun _ i _ => l.length - (intOf i).toNat)
  case atStart => exact ⟨0, Nat.zero_le _, rfl, Bss.nil_ _ _ _, Below.refl _ _⟩
  case round =>
    obtain ⟨k, hk, rfl, hB, hbl⟩ := hrel
    by_cases hlt : k < l.length
    · obtain ⟨R, hR⟩ : ∃ R, R = (l.take k).map (tVote).enc := ⟨_, rfl⟩
      rw [← hR] at hB
      have hRl : R.length = k := by rw [hR, List.length_map, List.length_take]; omega
      have hnext : (l.take (k + 1)).map (tVote).enc = R ++ [(tVote).enc l[k]] := by rw [List.take_succ_eq_append_getElem hlt, List.map_append, ← hR]; rfl
      obtain ⟨Aa, ca, rfl⟩ := hB.form
      obtain ⟨_, _, e, _, hat⟩ := list_at (Sh.rep_below H.out hbl)
      injection e with e1 e2 e3
      subst e1 e3
      obtain ⟨b, off, c, rfl, hca, hr, hcl, _, _⟩ := hat k hlt
      obtain ⟨x, hx⟩ : ∃ x, x = l[k] := ⟨_, rfl⟩
      rw [← hx] at hr hnext
      have hsm2 : ((tVote).enc x).length ≤ 1099511627776 := by
        have h1 := joinP_mem (List.mem_map.2 ⟨l[k], List.getElem_mem hlt, rfl⟩ : (tVote).enc l[k] ∈ l.map (tVote).enc)
        rw [hx]; omega
      have hinfo : (Tryz.prog.info? 87).map (·.size) = some c.length := by rw [hcl]; kernel_rfl
      have HC1 := Lib.hid (Sh.rep_one _ _ _ hr)
      have HCA := Lib.hid (show wr.rangeAt b (off + k * 69) c from hca)
      have HI := Lib.hid hinfo
      have HCL := Lib.hid hcl
      have HREP := Lib.hid hr
      have HSM := Lib.hid hsm2
      clear hinfo hr hsm2
      have hown : ∀ k, (Value.slice Aa R.length ca).ownBlock = some k → k < wr.heap.size := fun k hk => by obtain ⟨vs, ho, _⟩ := hB; exact own_lt ho hk
      have HB := Lib.hid hB
      have HN := Lib.hid hnext
      have HRL := Lib.hid hRl
      have HOWN := Lib.hid hown
      clear hB hca hcl hat hx hR hnext hRl hown
      go_wp2_with (first | (refine wpList_load_mid rfl 87 _ rfl b (off + k * 69) rfl c _ HCA.out Tryz.underlying87 rfl HI.out ?_) | (refine wpList_store_blk (cs0 := [.int .i64 0, .int .i64 0, .int .i64 0] ++ List.replicate 32 (.int .u8 0) ++ [.int .i64 0] ++ ([.int .i64 0] ++ List.replicate 32 (.int .u8 0))) (cs := c) rfl 87 _ _ rfl (Blk.new wr _ _) rfl rfl (by rw [HCL.out]; rfl) HI.out HC1.out ?_; intro w4 hb4 hc4; have HB4 := Lib.hid hb4; have HC4 := Lib.hid hc4; clear hb4 hc4) | (refine wpList_load_blk' rfl 87 _ rfl HB4.out rfl Tryz.underlying87 rfl HI.out ?_))
      have hbw4 : Below wr.heap.size wr w4 := ((Below.refl _ wr).alloc (Nat.le_refl _) _).trans (HC4.out.below (by simp) fun b hb => Nat.le_of_eq hb.symm)
      have hr := Sh.rep_below HREP.out hbw4
      refine (vote_any _ hr HSM.out).mono ?_
      rintro e w1 ⟨v1, rfl, f4⟩
      have f1 : Fresh wr w1 v1 _ := ⟨f4.1.sub fun b hb _ => ⟨Nat.le_trans hbw4.size hb.1, hb.2⟩, hbw4.trans (f4.2.mono hbw4.size)⟩
      clear f4 hr
      have hb1 := hbl.trans (f1.2.mono hbl.size)
      obtain ⟨y, hy⟩ : ∃ y, y = (tVote).enc x := ⟨_, rfl⟩
      have f1 : Fresh wr w1 v1 y := hy ▸ f1
      rw [← hy] at HN
      obtain ⟨A1, c1, rfl⟩ := f1.1.form
      obtain ⟨vs, ho, hS, hr⟩ := HB.out.below f1.2
      have hsz1 := f1.2.size
      have hal : Below w1.heap.size w1 (w1.alloc (.cells #[.slice A1 y.length c1] 50)) := (Below.refl _ w1).alloc (Nat.le_refl _) _
      have HAL := Lib.hid hal
      have HO := Lib.hid (show Own (w1.alloc (.cells #[.slice A1 y.length c1] 50)) _ _ _ _ _ from own_keep ho fun k hk => hal.block k (own_lt ho hk))
      have HS := Lib.hid hS
      have HR := Lib.hid (fun i x u h1 h2 => (hr i x u h1 h2).below hal)
      have HU := Lib.hid ((f1.1.1.below hal).sub (T := fun b => w.heap.size ≤ b ∧ (Value.slice Aa R.length ca).ownBlock ≠ some b) fun b hb _ => ⟨Nat.le_trans hbl.size hb.1, fun e => by have := HOWN.out b e; omega⟩)
      have HS2 := Lib.hid (Cs.of_new w1 50 (size := 1) 1 (cs := [.slice A1 y.length c1]) rfl (by simp only [maxLen]; decide))
      have H63 := Lib.hid (show R.length + 1 ≤ maxLen ∧ (R.length + 1) * 24 ≤ 140737488355328 from by have := HRL.out; refine ⟨by simp only [maxLen]; omega, by omega⟩)
      clear ho hS hr hal f1 hy
      go_wp2_with (at_builtin; refine wpList_app _ rfl _ _ _ rfl Tryz.underlying103 info_row rfl (by decide) HO.out rfl HS2.out rfl (by simp [Value.oneCell']) H63.out.1 H63.out.2 ?_; intro v3 w3 ho3 hg3 hnil3 hat3; clear hnil3; have HO3 := Lib.hid ho3; clear ho3; have HG3 := Lib.hid hg3; clear hg3; have HAT3 := Lib.hid hat3; clear hat3)
      have hpush := Bss.push HO.out HS.out HR.out HU.out HO3.out HG3.out HAT3.out (by have := hb1.size; have := HAL.out.size; omega)
      rw [← HN.out] at hpush
      refine ⟨⟨k + 1, by omega, by push_cast; rfl, hpush, (hb1.trans (HAL.out.mono hb1.size)).trans (HG3.out.below (Nat.le_trans hb1.size HAL.out.size) fun b h => HS.out b h)⟩, ?_⟩
      simp only [intOf]
      omega
    · have hk' : k = l.length := by omega
      rw [hk', List.take_length] at hB
      have hsm : ∀ x ∈ l.map (tVote).enc, x.length ≤ 140737488355328 := fun x hx => by have := joinP_mem hx; omega
      have hj := join_any _ ((hB.read hsm).lt_ (T := fun b => w.heap.size ≤ b) fun b h => h.elim id id) (by rw [joinB_length]; omega) fun b h => h.2
      have HJ := Lib.hid hj
      obtain ⟨R, hR⟩ : ∃ R, R = l.map (tVote).enc := ⟨_, rfl⟩
      have HR := Lib.hid hR
      rw [← hR] at hB HJ
      obtain ⟨Aa, ca, rfl⟩ := hB.form
      clear hj hB hR hsm
      go_wp2_with fail
      refine HJ.out.mono ?_
      rintro e w1 ⟨v1, rfl, f1⟩
      go_wp2_with fail
      go_ret
      refine ⟨v1, rfl, ?_, hbl.trans (f1.2.mono hbl.size)⟩
      have := f1.1.sub (T := fun b => w.heap.size ≤ b ∧ Th w1 b) fun b hb _ => ⟨Nat.le_trans hbl.size hb.1, hb.2⟩
      rw [HR.out] at this
      exact this

end Go.Proofs.YtjjgmkfkmckkoabGreatDoor

/- Codec: a timeout. -/
namespace Go.Proofs.YtjjgmkfkmckkoabGreatDoor
open Go.RowKit Go.Maps
attribute [-simp] Tryz.isAgg24 Tryz.typeInfo24 Tryz.isAgg33 Tryz.typeInfo33 Tryz.isAgg37 Tryz.typeInfo37

set_option maxHeartbeats 4000000 in
set_option maxRecDepth 100000 in
theorem timeout_any (w : World) {S : Nat → Prop} {x : tTimeout.El} {cs : List Value} (h : tTimeout.rep w S x cs) (hl : (tTimeout.enc x).length ≤ 1099511627776) :
    Calls Tryz.prog 35 #[.agg cs.toArray] w fun e w' => ∃ v', e = .returned v' ∧ Fresh w w' v' (tTimeout.enc x) := by
  obtain ⟨x0, x1, x2, x3, x4, x5, _⟩ := x
  obtain ⟨c0, _, rfl, ⟨rfl, _⟩, c1, _, rfl, ⟨rfl, _⟩, c2, _, rfl, ⟨rfl, _⟩, c3, _, rfl, r3, c4, _, rfl, ⟨rfl, _⟩, c5, _, rfl, r5, rfl⟩ := h
  have l3 : c3.length = 37 := Sh.rep_size _ _ _ r3
  obtain ⟨y3, hy3⟩ : ∃ y, y = c3 := ⟨_, rfl⟩
  subst hy3
  have l5 : c5.length = 33 := Sh.rep_size _ _ _ r5
  obtain ⟨y5, hy5⟩ : ∃ y, y = c5 := ⟨_, rfl⟩
  subst hy5
  have R3 := Lib.hid r3; clear r3
  have R5 := Lib.hid r5; clear r5
  simp only [nk_t]
  obtain ⟨C, hC⟩ : ∃ C, C = [Value.int .i64 x0] ++ ([Value.int .i64 x1] ++ ([Value.int .i64 x2] ++ (y3 ++ ([Value.int .i64 x4] ++ (y5 ++ ([])))))) := ⟨_, rfl⟩
  rw [← hC]
  have hf : ∀ w', Blk w' w.heap.size 91 C.toArray → w'.cell? ⟨w.heap.size, 0, none⟩ = some (.int .i64 x0) ∧ w'.cell? ⟨w.heap.size, 1, none⟩ = some (.int .i64 x1) ∧ w'.cell? ⟨w.heap.size, 2, none⟩ = some (.int .i64 x2) ∧ w'.rangeAt w.heap.size 3 y3 ∧ w'.cell? ⟨w.heap.size, 40, none⟩ = some (.int .i64 x4) ∧ w'.rangeAt w.heap.size 41 y5 := fun w' hb => by
    have := hb.lies [[Value.int .i64 x0], [Value.int .i64 x1], [Value.int .i64 x2], y3, [Value.int .i64 x4], y5] [] (by rw [hC]; simp)
    simp only [Lies, l3, List.length_cons, List.length_nil] at this
    obtain ⟨s0, s1, s2, s3, s4, s5, _⟩ := this
    exact ⟨Lies.one s0, Lies.one s1, Lies.one s2, s3, Lies.one s4, s5⟩
  have HF := Lib.hid hf
  clear hf hC
  have hrows : tTimeout.enc (x0, x1, x2, x3, x4, x5, ()) = joinB [numB x0, numB x1, numB x2, tQC.enc x3, numB x4, tSig.enc x5] := rfl
  have hl' : (joinB [numB x0, numB x1, numB x2, tQC.enc x3, numB x4, tSig.enc x5]).length ≤ 1099511627776 := hl
  have HLL := Lib.hid hl'
  clear hl hl'
  go_enter Tryz.func35, Tryz.ntmps35
  go_wp2_with fail
  have hsz : w.heap.size < w.heap.size + 1 := by omega
  refine wp_region_hoist [0, 1, 3, 4, 6, 7, 9, 10, 12, 13, 15, 16] [2, 5, 8, 11, 14, 17] [18, 19, 20] (fun w' => Blk w' w.heap.size 91 C.toArray)
    (by kernel_rfl) (by kernel_rfl) (by kernel_rfl) (by kernel_rfl) (by kernel_rfl) (by kernel_rfl) (Blk.new w _ _).drew ?_
  (refine HoistK.yes (by rfl) (by kernel_rfl) ⟨?_, fun w' hSw => ?_, ?_⟩; rotate_left; (· go_simp; try with_reducible rfl); simp only [Act.put, List.setIfInBounds_toArray, List.getElem_toArray, List.getElem_cons_zero, List.set_cons_succ, List.set_cons_zero])
  (refine HoistK.yes (by rfl) (by kernel_rfl) ⟨?_, fun w' hSw => ?_, ?_⟩; rotate_left; (· obtain ⟨s0, s1, s2, s3, s4, s5⟩ := HF.out _ hSw; go_simp; try with_reducible rfl); simp only [Act.put, List.setIfInBounds_toArray, List.getElem_toArray, List.getElem_cons_succ, List.getElem_cons_zero, List.set_cons_succ, List.set_cons_zero])
  (refine HoistK.yes (by rfl) (by kernel_rfl) ⟨?_, fun w' hSw => ?_, ?_⟩; rotate_left; (· go_simp; try with_reducible rfl); simp only [Act.put, List.setIfInBounds_toArray, List.getElem_toArray, List.getElem_cons_succ, List.getElem_cons_zero, List.set_cons_succ, List.set_cons_zero])
  (refine HoistK.yes (by rfl) (by kernel_rfl) ⟨?_, fun w' hSw => ?_, ?_⟩; rotate_left; (· obtain ⟨s0, s1, s2, s3, s4, s5⟩ := HF.out _ hSw; go_simp; try with_reducible rfl); simp only [Act.put, List.setIfInBounds_toArray, List.getElem_toArray, List.getElem_cons_succ, List.getElem_cons_zero, List.set_cons_succ, List.set_cons_zero])
  (refine HoistK.yes (by rfl) (by kernel_rfl) ⟨?_, fun w' hSw => ?_, ?_⟩; rotate_left; (· go_simp; try with_reducible rfl); simp only [Act.put, List.setIfInBounds_toArray, List.getElem_toArray, List.getElem_cons_succ, List.getElem_cons_zero, List.set_cons_succ, List.set_cons_zero])
  (refine HoistK.yes (by rfl) (by kernel_rfl) ⟨?_, fun w' hSw => ?_, ?_⟩; rotate_left; (· obtain ⟨s0, s1, s2, s3, s4, s5⟩ := HF.out _ hSw; go_simp; try with_reducible rfl); simp only [Act.put, List.setIfInBounds_toArray, List.getElem_toArray, List.getElem_cons_succ, List.getElem_cons_zero, List.set_cons_succ, List.set_cons_zero])
  (refine HoistK.yes (by rfl) (by kernel_rfl) ⟨?_, fun w' hSw => ?_, ?_⟩; rotate_left; (· go_simp; try with_reducible rfl); simp only [Act.put, List.setIfInBounds_toArray, List.getElem_toArray, List.getElem_cons_succ, List.getElem_cons_zero, List.set_cons_succ, List.set_cons_zero])
  (refine HoistK.load (by rfl) (by kernel_rfl) 33 _ rfl w.heap.size 3 rfl (y3) _ (fun w' hw => (HF.out w' hw).2.2.2.1) Tryz.underlying33 rfl (by rw [l3]; kernel_rfl) ?_; simp only [Act.put, List.setIfInBounds_toArray, List.getElem_toArray, List.getElem_cons_succ, List.getElem_cons_zero, List.set_cons_succ, List.set_cons_zero])
  (refine HoistK.yes (by rfl) (by kernel_rfl) ⟨?_, fun w' hSw => ?_, ?_⟩; rotate_left; (· go_simp; try with_reducible rfl); simp only [Act.put, List.setIfInBounds_toArray, List.getElem_toArray, List.getElem_cons_succ, List.getElem_cons_zero, List.set_cons_succ, List.set_cons_zero])
  (refine HoistK.yes (by rfl) (by kernel_rfl) ⟨?_, fun w' hSw => ?_, ?_⟩; rotate_left; (· obtain ⟨s0, s1, s2, s3, s4, s5⟩ := HF.out _ hSw; go_simp; try with_reducible rfl); simp only [Act.put, List.setIfInBounds_toArray, List.getElem_toArray, List.getElem_cons_succ, List.getElem_cons_zero, List.set_cons_succ, List.set_cons_zero])
  (refine HoistK.yes (by rfl) (by kernel_rfl) ⟨?_, fun w' hSw => ?_, ?_⟩; rotate_left; (· go_simp; try with_reducible rfl); simp only [Act.put, List.setIfInBounds_toArray, List.getElem_toArray, List.getElem_cons_succ, List.getElem_cons_zero, List.set_cons_succ, List.set_cons_zero])
  (refine HoistK.load (by rfl) (by kernel_rfl) 37 _ rfl w.heap.size 41 rfl (y5) _ (fun w' hw => (HF.out w' hw).2.2.2.2.2) Tryz.underlying37 rfl (by rw [l5]; kernel_rfl) ?_; simp only [Act.put, List.setIfInBounds_toArray, List.getElem_toArray, List.getElem_cons_succ, List.getElem_cons_zero, List.set_cons_succ, List.set_cons_zero])
  refine HoistK.nil_ ?_
  simp only [opsAt, List.filterMap_cons, List.filterMap_nil, List.getElem?_toArray, List.getElem?_cons_succ, List.getElem?_cons_zero]
  have hb0 : Blk (w.alloc (.cells C.toArray 91)).drew w.heap.size 91 C.toArray := (Blk.new w _ _).drew
  have g0 : Got w (w.alloc (.cells C.toArray 91)).drew [] [] := Got.start ((Below.refl _ w).alloc (Nat.le_refl _) _).drew
  refine Effects.cons_ fun _ hQ1 => ?_
  go_wp2_with fail
  refine (numInt_any _ _).mono ?_
  rintro e w1 ⟨v1, rfl, f1⟩
  have g1 := g0.step f1
  have hb1 := hb0.below f1.2 hb0.lt
  clear f1
  go_wp2_with fail
  refine hQ1 _ _ hb1 (Effects.cons_ fun _ hQ2 => ?_)
  clear hQ1 hb0 g0
  go_wp2_with fail
  refine (numInt_any _ _).mono ?_
  rintro e w2 ⟨v2, rfl, f2⟩
  have g2 := g1.step f2
  have hb2 := hb1.below f2.2 hb1.lt
  clear f2
  go_wp2_with fail
  refine hQ2 _ _ hb2 (Effects.cons_ fun _ hQ3 => ?_)
  clear hQ2 hb1 g1
  go_wp2_with fail
  refine (numInt64_any _ _).mono ?_
  rintro e w3 ⟨v3, rfl, f3⟩
  have g3 := g2.step f3
  have hb3 := hb2.below f3.2 hb2.lt
  clear f3
  go_wp2_with fail
  refine hQ3 _ _ hb3 (Effects.cons_ fun _ hQ4 => ?_)
  clear hQ3 hb2 g2
  go_wp2_with fail
  refine (qc_any _ (Sh.rep_below R3.out g3.1) (by have h1 := HLL.out; rw [joinB_length] at h1; have h2 := joinP_mem (l := [numB x0, numB x1, numB x2, tQC.enc x3, numB x4, tSig.enc x5]) (x := tQC.enc x3) (by simp); omega)).mono ?_
  rintro e w4 ⟨v4, rfl, f4⟩
  have g4 := g3.step f4
  have hb4 := hb3.below f4.2 hb3.lt
  clear f4
  go_wp2_with fail
  refine hQ4 _ _ hb4 (Effects.cons_ fun _ hQ5 => ?_)
  clear hQ4 hb3 g3
  go_wp2_with fail
  refine (numInt_any _ _).mono ?_
  rintro e w5 ⟨v5, rfl, f5⟩
  have g5 := g4.step f5
  have hb5 := hb4.below f5.2 hb4.lt
  clear f5
  go_wp2_with fail
  refine hQ5 _ _ hb5 (Effects.cons_ fun _ hQ6 => ?_)
  clear hQ5 hb4 g4
  go_wp2_with fail
  refine (sig_any _ (Sh.rep_below R5.out g5.1) (by have h1 := HLL.out; rw [joinB_length] at h1; have h2 := joinP_mem (l := [numB x0, numB x1, numB x2, tQC.enc x3, numB x4, tSig.enc x5]) (x := tSig.enc x5) (by simp); omega)).mono ?_
  rintro e w6 ⟨v6, rfl, f6⟩
  have g6 := g5.step f6
  have hb6 := hb5.below f6.2 hb5.lt
  clear f6
  go_wp2_with fail
  refine hQ6 _ _ hb6 (Effects.nil_ fun _ hQ7 => ?_)
  clear hQ6 hb5 g5
  have hcs : ∀ v ∈ [v1, v2, v3, v4, v5, v6], v.cells = #[v] := fun v hv => by
    obtain ⟨i, hi, rfl⟩ := List.getElem_of_mem hv
    obtain ⟨y, _, hr⟩ := g6.2.get i hi
    obtain ⟨A, c, e⟩ := hr.form
    have e' : [v1, v2, v3, v4, v5, v6][i] = .slice A y.length c := e
    rw [e']; rfl
  refine wpList_rows rfl 6 _ rfl [v1, v2, v3, v4, v5, v6] rfl (by decide) (by decide) hcs (by simp [Act.eval]) ?_
  have hr : Bsr (w6.alloc (.cells [v1, v2, v3, v4, v5, v6].toArray 50)) (fun b => b < w6.heap.size + 1) (.slice (some ⟨w6.heap.size, 0, none⟩) 6 6) [numB x0, numB x1, numB x2, tQC.enc x3, numB x4, tSig.enc x5] := g6.row (by simp [maxLen]) 50
  have hj := join_any _ hr (by have := HLL.out; omega) (fun b hb => by simpa using hb)
  have hbb : Below w.heap.size w (w6.alloc (.cells [v1, v2, v3, v4, v5, v6].toArray 50)) := g6.1.alloc g6.1.size _
  have HJ := Lib.hid hj
  have HBB := Lib.hid hbb
  clear hj hbb hr g6 hcs
  go_wp2_with fail
  refine HJ.out.mono ?_
  rintro e w7 ⟨v7, rfl, f7⟩
  go_wp2_with fail
  go_ret
  exact ⟨v7, rfl, f7.1.sub fun b hb _ => ⟨Nat.le_trans HBB.out.size hb.1, hb.2⟩, HBB.out.trans (f7.2.mono HBB.out.size)⟩

end Go.Proofs.YtjjgmkfkmckkoabGreatDoor

/- Codec: list[Timeout]. -/
namespace Go.Proofs.YtjjgmkfkmckkoabGreatDoor
open Go.RowKit Go.Maps
attribute [-simp] Tryz.isAgg24 Tryz.typeInfo24 Tryz.isAgg91 Tryz.typeInfo91

set_option maxHeartbeats 2000000 in
set_option maxRecDepth 100000 in
theorem listTimeout_any (w : World) {S : Nat → Prop} {v : Value} {l : List (tTimeout).El} (h : (Sh.list tTimeout).rep w S l [v]) (hl : ((Sh.list tTimeout).enc l).length ≤ 1099511627776) :
    Calls Tryz.prog 34 #[v, .func (Fn.func 35) #[] #[]] w fun e w' => ∃ v', e = .returned v' ∧ Fresh w w' v' ((Sh.list tTimeout).enc l) := by
  obtain ⟨A, cap, rfl, hlen, hat⟩ := list_at h
  have H := Lib.hid h; clear h
  have hl' : (joinB (l.map (tTimeout).enc)).length ≤ 1099511627776 := hl
  have hcnt := joinP_count (l.map (tTimeout).enc)
  rw [joinB_length] at hl'
  rw [List.length_map] at hcnt
  have HLL := Lib.hid hl
  clear hl hat
  go_enter Tryz.func34, Tryz.ntmps34
  go_wp2_with fail
  go_loopw [5, 10] (fun a i wr => ∃ k : Nat, k ≤ l.length ∧ i = .int .i64 k ∧ Bss wr (fun b => w.heap.size ≤ b) (fun b => w.heap.size ≤ b) a ((l.take k).map (tTimeout).enc) ∧ Below w.heap.size w wr) (fun _ i _ => l.length - (intOf i).toNat)
  case atStart => exact ⟨0, Nat.zero_le _, rfl, Bss.nil_ _ _ _, Below.refl _ _⟩
  case round =>
    obtain ⟨k, hk, rfl, hB, hbl⟩ := hrel
    by_cases hlt : k < l.length
    · obtain ⟨R, hR⟩ : ∃ R, R = (l.take k).map (tTimeout).enc := ⟨_, rfl⟩
      rw [← hR] at hB
      have hRl : R.length = k := by rw [hR, List.length_map, List.length_take]; omega
      have hnext : (l.take (k + 1)).map (tTimeout).enc = R ++ [(tTimeout).enc l[k]] := by rw [List.take_succ_eq_append_getElem hlt, List.map_append, ← hR]; rfl
      obtain ⟨Aa, ca, rfl⟩ := hB.form
      obtain ⟨_, _, e, _, hat⟩ := list_at (Sh.rep_below H.out hbl)
      injection e with e1 e2 e3
      subst e1 e3
      obtain ⟨b, off, c, rfl, hca, hr, hcl, _, _⟩ := hat k hlt
      obtain ⟨x, hx⟩ : ∃ x, x = l[k] := ⟨_, rfl⟩
      rw [← hx] at hr hnext
      have hsm2 : ((tTimeout).enc x).length ≤ 1099511627776 := by
        have h1 := joinP_mem (List.mem_map.2 ⟨l[k], List.getElem_mem hlt, rfl⟩ : (tTimeout).enc l[k] ∈ l.map (tTimeout).enc)
        rw [hx]; omega
      have hinfo : (Tryz.prog.info? 91).map (·.size) = some c.length := by rw [hcl]; kernel_rfl
      have HC1 := Lib.hid (Sh.rep_one _ _ _ hr)
      have HCA := Lib.hid (show wr.rangeAt b (off + k * 74) c from hca)
      have HI := Lib.hid hinfo
      have HCL := Lib.hid hcl
      have HREP := Lib.hid hr
      have HSM := Lib.hid hsm2
      clear hinfo hr hsm2
      have hown : ∀ k, (Value.slice Aa R.length ca).ownBlock = some k → k < wr.heap.size := fun k hk => by obtain ⟨vs, ho, _⟩ := hB; exact own_lt ho hk
      have HB := Lib.hid hB
      have HN := Lib.hid hnext
      have HRL := Lib.hid hRl
      have HOWN := Lib.hid hown
      clear hB hca hcl hat hx hR hnext hRl hown
      go_wp2_with (first | (refine wpList_load_mid rfl 91 _ rfl b (off + k * 74) rfl c _ HCA.out Tryz.underlying91 rfl HI.out ?_) | (refine wpList_store_blk (cs0 := [.int .i64 0, .int .i64 0, .int .i64 0] ++ ([.int .i64 0, .int .i64 0, .int .i64 0] ++ List.replicate 32 (.int .u8 0) ++ [.slice none 0 0, .slice none 0 0]) ++ [.int .i64 0] ++ ([.int .i64 0] ++ List.replicate 32 (.int .u8 0))) (cs := c) rfl 91 _ _ rfl (Blk.new wr _ _) rfl rfl (by rw [HCL.out]; rfl) HI.out HC1.out ?_; intro w4 hb4 hc4; have HB4 := Lib.hid hb4; have HC4 := Lib.hid hc4; clear hb4 hc4) | (refine wpList_load_blk' rfl 91 _ rfl HB4.out rfl Tryz.underlying91 rfl HI.out ?_))
      have hbw4 : Below wr.heap.size wr w4 := ((Below.refl _ wr).alloc (Nat.le_refl _) _).trans (HC4.out.below (by simp) fun b hb => Nat.le_of_eq hb.symm)
      have hr := Sh.rep_below HREP.out hbw4
      refine (timeout_any _ hr HSM.out).mono ?_
      rintro e w1 ⟨v1, rfl, f4⟩
      have f1 : Fresh wr w1 v1 _ := ⟨f4.1.sub fun b hb _ => ⟨Nat.le_trans hbw4.size hb.1, hb.2⟩, hbw4.trans (f4.2.mono hbw4.size)⟩
      clear f4 hr
      have hb1 := hbl.trans (f1.2.mono hbl.size)
      obtain ⟨y, hy⟩ : ∃ y, y = (tTimeout).enc x := ⟨_, rfl⟩
      have f1 : Fresh wr w1 v1 y := hy ▸ f1
      rw [← hy] at HN
      obtain ⟨A1, c1, rfl⟩ := f1.1.form
      obtain ⟨vs, ho, hS, hr⟩ := HB.out.below f1.2
      have hsz1 := f1.2.size
      have hal : Below w1.heap.size w1 (w1.alloc (.cells #[.slice A1 y.length c1] 50)) := (Below.refl _ w1).alloc (Nat.le_refl _) _
      have HAL := Lib.hid hal
      have HO := Lib.hid (show Own (w1.alloc (.cells #[.slice A1 y.length c1] 50)) _ _ _ _ _ from own_keep ho fun k hk => hal.block k (own_lt ho hk))
      have HS := Lib.hid hS
      have HR := Lib.hid (fun i x u h1 h2 => (hr i x u h1 h2).below hal)
      have HU := Lib.hid ((f1.1.1.below hal).sub (T := fun b => w.heap.size ≤ b ∧ (Value.slice Aa R.length ca).ownBlock ≠ some b) fun b hb _ => ⟨Nat.le_trans hbl.size hb.1, fun e => by have := HOWN.out b e; omega⟩)
      have HS2 := Lib.hid (Cs.of_new w1 50 (size := 1) 1 (cs := [.slice A1 y.length c1]) rfl (by simp only [maxLen]; decide))
      have H63 := Lib.hid (show R.length + 1 ≤ maxLen ∧ (R.length + 1) * 24 ≤ 140737488355328 from by have := HRL.out; refine ⟨by simp only [maxLen]; omega, by omega⟩)
      clear ho hS hr hal f1 hy
      go_wp2_with (at_builtin; refine wpList_app _ rfl _ _ _ rfl Tryz.underlying103 info_row rfl (by decide) HO.out rfl HS2.out rfl (by simp [Value.oneCell']) H63.out.1 H63.out.2 ?_; intro v3 w3 ho3 hg3 hnil3 hat3; clear hnil3; have HO3 := Lib.hid ho3; clear ho3; have HG3 := Lib.hid hg3; clear hg3; have HAT3 := Lib.hid hat3; clear hat3)
      have hpush := Bss.push HO.out HS.out HR.out HU.out HO3.out HG3.out HAT3.out (by have := hb1.size; have := HAL.out.size; omega)
      rw [← HN.out] at hpush
      refine ⟨⟨k + 1, by omega, by push_cast; rfl, hpush, (hb1.trans (HAL.out.mono hb1.size)).trans (HG3.out.below (Nat.le_trans hb1.size HAL.out.size) fun b h => HS.out b h)⟩, ?_⟩
      simp only [intOf]
      omega
    · have hk' : k = l.length := by omega
      rw [hk', List.take_length] at hB
      have hsm : ∀ x ∈ l.map (tTimeout).enc, x.length ≤ 140737488355328 := fun x hx => by have := joinP_mem hx; omega
      have hj := join_any _ ((hB.read hsm).lt_ (T := fun b => w.heap.size ≤ b) fun b h => h.elim id id) (by rw [joinB_length]; omega) fun b h => h.2
      have HJ := Lib.hid hj
      obtain ⟨R, hR⟩ : ∃ R, R = l.map (tTimeout).enc := ⟨_, rfl⟩
      have HR := Lib.hid hR
      rw [← hR] at hB HJ
      obtain ⟨Aa, ca, rfl⟩ := hB.form
      clear hj hB hR hsm
      go_wp2_with fail
      refine HJ.out.mono ?_
      rintro e w1 ⟨v1, rfl, f1⟩
      go_wp2_with fail
      go_ret
      refine ⟨v1, rfl, ?_, hbl.trans (f1.2.mono hbl.size)⟩
      have := f1.1.sub (T := fun b => w.heap.size ≤ b ∧ Th w1 b) fun b hb _ => ⟨Nat.le_trans hbl.size hb.1, hb.2⟩
      rw [HR.out] at this
      exact this

end Go.Proofs.YtjjgmkfkmckkoabGreatDoor

/- Codec: a message. -/
namespace Go.Proofs.YtjjgmkfkmckkoabGreatDoor
open Go.RowKit Go.Maps
attribute [-simp] Tryz.isAgg24 Tryz.typeInfo24

set_option maxHeartbeats 4000000 in
set_option maxRecDepth 100000 in
theorem message_any (w : World) {S : Nat → Prop} {x : tMessage.El} {cs : List Value} (h : tMessage.rep w S x cs) (hl : (tMessage.enc x).length ≤ 1099511627776) :
    Calls Tryz.prog 12 #[.agg cs.toArray] w fun e w' => ∃ v', e = .returned v' ∧ Fresh w w' v' (tMessage.enc x) := by
  obtain ⟨x0, x1, x2, x3, x4, x5, x6, x7, x8, _⟩ := x
  obtain ⟨c0, _, rfl, ⟨rfl, _⟩, c1, _, rfl, ⟨rfl, _⟩, c2, _, rfl, ⟨rfl, _⟩, c3, _, rfl, ⟨rfl, l3⟩, c4, _, rfl, r4, c5, _, rfl, r5, c6, _, rfl, r6, c7, _, rfl, r7, c8, _, rfl, r8, rfl⟩ := h
  obtain ⟨y4, rfl⟩ : ∃ y, c4 = [y] := by obtain ⟨v, _, e, _⟩ := r4; exact ⟨v, e⟩
  obtain ⟨y5, rfl⟩ : ∃ y, c5 = [y] := by obtain ⟨v, _, e, _⟩ := r5; exact ⟨v, e⟩
  obtain ⟨y6, rfl⟩ : ∃ y, c6 = [y] := by obtain ⟨v, _, e, _⟩ := r6; exact ⟨v, e⟩
  obtain ⟨y7, rfl⟩ : ∃ y, c7 = [y] := by obtain ⟨v, _, e, _⟩ := r7; exact ⟨v, e⟩
  obtain ⟨y8, rfl⟩ : ∃ y, c8 = [y] := by obtain ⟨v, _, e, _⟩ := r8; exact ⟨v, e⟩
  have R4 := Lib.hid r4; clear r4
  have R5 := Lib.hid r5; clear r5
  have R6 := Lib.hid r6; clear r6
  have R7 := Lib.hid r7; clear r7
  have R8 := Lib.hid r8; clear r8
  simp only [nk_t]
  obtain ⟨C, hC⟩ : ∃ C, C = [Value.int .i64 x0] ++ ([Value.int .i64 x1] ++ ([Value.int .i64 x2] ++ (u8s x3 ++ ([y4] ++ ([y5] ++ ([y6] ++ ([y7] ++ ([y8] ++ ([]))))))))) := ⟨_, rfl⟩
  rw [← hC]
  have hf : ∀ w', Blk w' w.heap.size 48 C.toArray → w'.cell? ⟨w.heap.size, 0, none⟩ = some (.int .i64 x0) ∧ w'.cell? ⟨w.heap.size, 1, none⟩ = some (.int .i64 x1) ∧ w'.cell? ⟨w.heap.size, 2, none⟩ = some (.int .i64 x2) ∧ w'.rangeAt w.heap.size 3 (u8s x3) ∧ w'.cell? ⟨w.heap.size, 35, none⟩ = some y4 ∧ w'.cell? ⟨w.heap.size, 36, none⟩ = some y5 ∧ w'.cell? ⟨w.heap.size, 37, none⟩ = some y6 ∧ w'.cell? ⟨w.heap.size, 38, none⟩ = some y7 ∧ w'.cell? ⟨w.heap.size, 39, none⟩ = some y8 := fun w' hb => by
    have := hb.lies [[Value.int .i64 x0], [Value.int .i64 x1], [Value.int .i64 x2], u8s x3, [y4], [y5], [y6], [y7], [y8]] [] (by rw [hC]; simp)
    simp only [Lies, u8s_length, l3, List.length_cons, List.length_nil] at this
    obtain ⟨s0, s1, s2, s3, s4, s5, s6, s7, s8, _⟩ := this
    exact ⟨Lies.one s0, Lies.one s1, Lies.one s2, s3, Lies.one s4, Lies.one s5, Lies.one s6, Lies.one s7, Lies.one s8⟩
  have HF := Lib.hid hf
  clear hf hC
  have hrows : tMessage.enc (x0, x1, x2, x3, x4, x5, x6, x7, x8, ()) = joinB [numB x0, numB x1, numB x2, x3, (Sh.list tBlock).enc x4, (Sh.list tVote).enc x5, (Sh.list tTimeout).enc x6, (Sh.list tCommit).enc x7, (Sh.list tTx).enc x8] := rfl
  have hl' : (joinB [numB x0, numB x1, numB x2, x3, (Sh.list tBlock).enc x4, (Sh.list tVote).enc x5, (Sh.list tTimeout).enc x6, (Sh.list tCommit).enc x7, (Sh.list tTx).enc x8]).length ≤ 1099511627776 := hl
  have HLL := Lib.hid hl'
  clear hl hl'
  go_enter Tryz.func12, Tryz.ntmps12
  go_wp2_with fail
  have hsz : w.heap.size < w.heap.size + 1 := by omega
  refine wp_region_hoist [0, 1, 3, 4, 6, 7, 9, 10, 12, 13, 15, 16, 18, 19, 21, 22, 24, 25] [2, 5, 8, 11, 14, 17, 20, 23, 26] [27, 28, 29] (fun w' => Blk w' w.heap.size 48 C.toArray)
    (by kernel_rfl) (by kernel_rfl) (by kernel_rfl) (by kernel_rfl) (by kernel_rfl) (by kernel_rfl) (Blk.new w _ _).drew ?_
  (refine HoistK.yes (by rfl) (by kernel_rfl) ⟨?_, fun w' hSw => ?_, ?_⟩; rotate_left; (· go_simp; try with_reducible rfl); simp only [Act.put, List.setIfInBounds_toArray, List.getElem_toArray, List.getElem_cons_zero, List.set_cons_succ, List.set_cons_zero])
  (refine HoistK.yes (by rfl) (by kernel_rfl) ⟨?_, fun w' hSw => ?_, ?_⟩; rotate_left; (· obtain ⟨s0, s1, s2, s3, s4, s5, s6, s7, s8⟩ := HF.out _ hSw; go_simp; try with_reducible rfl); simp only [Act.put, List.setIfInBounds_toArray, List.getElem_toArray, List.getElem_cons_succ, List.getElem_cons_zero, List.set_cons_succ, List.set_cons_zero])
  (refine HoistK.yes (by rfl) (by kernel_rfl) ⟨?_, fun w' hSw => ?_, ?_⟩; rotate_left; (· go_simp; try with_reducible rfl); simp only [Act.put, List.setIfInBounds_toArray, List.getElem_toArray, List.getElem_cons_succ, List.getElem_cons_zero, List.set_cons_succ, List.set_cons_zero])
  (refine HoistK.yes (by rfl) (by kernel_rfl) ⟨?_, fun w' hSw => ?_, ?_⟩; rotate_left; (· obtain ⟨s0, s1, s2, s3, s4, s5, s6, s7, s8⟩ := HF.out _ hSw; go_simp; try with_reducible rfl); simp only [Act.put, List.setIfInBounds_toArray, List.getElem_toArray, List.getElem_cons_succ, List.getElem_cons_zero, List.set_cons_succ, List.set_cons_zero])
  (refine HoistK.yes (by rfl) (by kernel_rfl) ⟨?_, fun w' hSw => ?_, ?_⟩; rotate_left; (· go_simp; try with_reducible rfl); simp only [Act.put, List.setIfInBounds_toArray, List.getElem_toArray, List.getElem_cons_succ, List.getElem_cons_zero, List.set_cons_succ, List.set_cons_zero])
  (refine HoistK.yes (by rfl) (by kernel_rfl) ⟨?_, fun w' hSw => ?_, ?_⟩; rotate_left; (· obtain ⟨s0, s1, s2, s3, s4, s5, s6, s7, s8⟩ := HF.out _ hSw; go_simp; try with_reducible rfl); simp only [Act.put, List.setIfInBounds_toArray, List.getElem_toArray, List.getElem_cons_succ, List.getElem_cons_zero, List.set_cons_succ, List.set_cons_zero])
  (refine HoistK.yes (by rfl) (by kernel_rfl) ⟨?_, fun w' hSw => ?_, ?_⟩; rotate_left; (· go_simp; try with_reducible rfl); simp only [Act.put, List.setIfInBounds_toArray, List.getElem_toArray, List.getElem_cons_succ, List.getElem_cons_zero, List.set_cons_succ, List.set_cons_zero])
  (refine HoistK.load (by rfl) (by kernel_rfl) 24 _ rfl w.heap.size 3 rfl (u8s x3) _ (fun w' hw => (HF.out w' hw).2.2.2.1) Tryz.underlying24 rfl (by rw [u8s_length, l3]; kernel_rfl) ?_; simp only [Act.put, List.setIfInBounds_toArray, List.getElem_toArray, List.getElem_cons_succ, List.getElem_cons_zero, List.set_cons_succ, List.set_cons_zero])
  (refine HoistK.yes (by rfl) (by kernel_rfl) ⟨?_, fun w' hSw => ?_, ?_⟩; rotate_left; (· go_simp; try with_reducible rfl); simp only [Act.put, List.setIfInBounds_toArray, List.getElem_toArray, List.getElem_cons_succ, List.getElem_cons_zero, List.set_cons_succ, List.set_cons_zero])
  (refine HoistK.yes (by rfl) (by kernel_rfl) ⟨?_, fun w' hSw => ?_, ?_⟩; rotate_left; (· obtain ⟨s0, s1, s2, s3, s4, s5, s6, s7, s8⟩ := HF.out _ hSw; go_simp; try with_reducible rfl); simp only [Act.put, List.setIfInBounds_toArray, List.getElem_toArray, List.getElem_cons_succ, List.getElem_cons_zero, List.set_cons_succ, List.set_cons_zero])
  (refine HoistK.yes (by rfl) (by kernel_rfl) ⟨?_, fun w' hSw => ?_, ?_⟩; rotate_left; (· go_simp; try with_reducible rfl); simp only [Act.put, List.setIfInBounds_toArray, List.getElem_toArray, List.getElem_cons_succ, List.getElem_cons_zero, List.set_cons_succ, List.set_cons_zero])
  (refine HoistK.yes (by rfl) (by kernel_rfl) ⟨?_, fun w' hSw => ?_, ?_⟩; rotate_left; (· obtain ⟨s0, s1, s2, s3, s4, s5, s6, s7, s8⟩ := HF.out _ hSw; go_simp; try with_reducible rfl); simp only [Act.put, List.setIfInBounds_toArray, List.getElem_toArray, List.getElem_cons_succ, List.getElem_cons_zero, List.set_cons_succ, List.set_cons_zero])
  (refine HoistK.yes (by rfl) (by kernel_rfl) ⟨?_, fun w' hSw => ?_, ?_⟩; rotate_left; (· go_simp; try with_reducible rfl); simp only [Act.put, List.setIfInBounds_toArray, List.getElem_toArray, List.getElem_cons_succ, List.getElem_cons_zero, List.set_cons_succ, List.set_cons_zero])
  (refine HoistK.yes (by rfl) (by kernel_rfl) ⟨?_, fun w' hSw => ?_, ?_⟩; rotate_left; (· obtain ⟨s0, s1, s2, s3, s4, s5, s6, s7, s8⟩ := HF.out _ hSw; go_simp; try with_reducible rfl); simp only [Act.put, List.setIfInBounds_toArray, List.getElem_toArray, List.getElem_cons_succ, List.getElem_cons_zero, List.set_cons_succ, List.set_cons_zero])
  (refine HoistK.yes (by rfl) (by kernel_rfl) ⟨?_, fun w' hSw => ?_, ?_⟩; rotate_left; (· go_simp; try with_reducible rfl); simp only [Act.put, List.setIfInBounds_toArray, List.getElem_toArray, List.getElem_cons_succ, List.getElem_cons_zero, List.set_cons_succ, List.set_cons_zero])
  (refine HoistK.yes (by rfl) (by kernel_rfl) ⟨?_, fun w' hSw => ?_, ?_⟩; rotate_left; (· obtain ⟨s0, s1, s2, s3, s4, s5, s6, s7, s8⟩ := HF.out _ hSw; go_simp; try with_reducible rfl); simp only [Act.put, List.setIfInBounds_toArray, List.getElem_toArray, List.getElem_cons_succ, List.getElem_cons_zero, List.set_cons_succ, List.set_cons_zero])
  (refine HoistK.yes (by rfl) (by kernel_rfl) ⟨?_, fun w' hSw => ?_, ?_⟩; rotate_left; (· go_simp; try with_reducible rfl); simp only [Act.put, List.setIfInBounds_toArray, List.getElem_toArray, List.getElem_cons_succ, List.getElem_cons_zero, List.set_cons_succ, List.set_cons_zero])
  (refine HoistK.yes (by rfl) (by kernel_rfl) ⟨?_, fun w' hSw => ?_, ?_⟩; rotate_left; (· obtain ⟨s0, s1, s2, s3, s4, s5, s6, s7, s8⟩ := HF.out _ hSw; go_simp; try with_reducible rfl); simp only [Act.put, List.setIfInBounds_toArray, List.getElem_toArray, List.getElem_cons_succ, List.getElem_cons_zero, List.set_cons_succ, List.set_cons_zero])
  refine HoistK.nil_ ?_
  simp only [opsAt, List.filterMap_cons, List.filterMap_nil, List.getElem?_toArray, List.getElem?_cons_succ, List.getElem?_cons_zero]
  have hb0 : Blk (w.alloc (.cells C.toArray 48)).drew w.heap.size 48 C.toArray := (Blk.new w _ _).drew
  have g0 : Got w (w.alloc (.cells C.toArray 48)).drew [] [] := Got.start ((Below.refl _ w).alloc (Nat.le_refl _) _).drew
  refine Effects.cons_ fun _ hQ1 => ?_
  go_wp2_with fail
  refine (numInt_any _ _).mono ?_
  rintro e w1 ⟨v1, rfl, f1⟩
  have g1 := g0.step f1
  have hb1 := hb0.below f1.2 hb0.lt
  clear f1
  go_wp2_with fail
  refine hQ1 _ _ hb1 (Effects.cons_ fun _ hQ2 => ?_)
  clear hQ1 hb0 g0
  go_wp2_with fail
  refine (numInt_any _ _).mono ?_
  rintro e w2 ⟨v2, rfl, f2⟩
  have g2 := g1.step f2
  have hb2 := hb1.below f2.2 hb1.lt
  clear f2
  go_wp2_with fail
  refine hQ2 _ _ hb2 (Effects.cons_ fun _ hQ3 => ?_)
  clear hQ2 hb1 g1
  go_wp2_with fail
  refine (numInt64_any _ _).mono ?_
  rintro e w3 ⟨v3, rfl, f3⟩
  have g3 := g2.step f3
  have hb3 := hb2.below f3.2 hb2.lt
  clear f3
  go_wp2_with fail
  refine hQ3 _ _ hb3 (Effects.cons_ fun _ hQ4 => ?_)
  clear hQ3 hb2 g2
  go_wp2_with fail
  refine (digest_any _ _ l3).mono ?_
  rintro e w4 ⟨v4, rfl, f4⟩
  have g4 := g3.step f4
  have hb4 := hb3.below f4.2 hb3.lt
  clear f4
  go_wp2_with fail
  refine hQ4 _ _ hb4 (Effects.cons_ fun _ hQ5 => ?_)
  clear hQ4 hb3 g3
  go_wp2_with fail
  refine (listBlock_any _ (Sh.rep_below R4.out g4.1) (by have h1 := HLL.out; rw [joinB_length] at h1; have h2 := joinP_mem (l := [numB x0, numB x1, numB x2, x3, (Sh.list tBlock).enc x4, (Sh.list tVote).enc x5, (Sh.list tTimeout).enc x6, (Sh.list tCommit).enc x7, (Sh.list tTx).enc x8]) (x := (Sh.list tBlock).enc x4) (by simp); omega)).mono ?_
  rintro e w5 ⟨v5, rfl, f5⟩
  have g5 := g4.step f5
  have hb5 := hb4.below f5.2 hb4.lt
  clear f5
  go_wp2_with fail
  refine hQ5 _ _ hb5 (Effects.cons_ fun _ hQ6 => ?_)
  clear hQ5 hb4 g4
  go_wp2_with fail
  refine (listVote_any _ (Sh.rep_below R5.out g5.1) (by have h1 := HLL.out; rw [joinB_length] at h1; have h2 := joinP_mem (l := [numB x0, numB x1, numB x2, x3, (Sh.list tBlock).enc x4, (Sh.list tVote).enc x5, (Sh.list tTimeout).enc x6, (Sh.list tCommit).enc x7, (Sh.list tTx).enc x8]) (x := (Sh.list tVote).enc x5) (by simp); omega)).mono ?_
  rintro e w6 ⟨v6, rfl, f6⟩
  have g6 := g5.step f6
  have hb6 := hb5.below f6.2 hb5.lt
  clear f6
  go_wp2_with fail
  refine hQ6 _ _ hb6 (Effects.cons_ fun _ hQ7 => ?_)
  clear hQ6 hb5 g5
  go_wp2_with fail
  refine (listTimeout_any _ (Sh.rep_below R6.out g6.1) (by have h1 := HLL.out; rw [joinB_length] at h1; have h2 := joinP_mem (l := [numB x0, numB x1, numB x2, x3, (Sh.list tBlock).enc x4, (Sh.list tVote).enc x5, (Sh.list tTimeout).enc x6, (Sh.list tCommit).enc x7, (Sh.list tTx).enc x8]) (x := (Sh.list tTimeout).enc x6) (by simp); omega)).mono ?_
  rintro e w7 ⟨v7, rfl, f7⟩
  have g7 := g6.step f7
  have hb7 := hb6.below f7.2 hb6.lt
  clear f7
  go_wp2_with fail
  refine hQ7 _ _ hb7 (Effects.cons_ fun _ hQ8 => ?_)
  clear hQ7 hb6 g6
  go_wp2_with fail
  refine (listCommit_any _ (Sh.rep_below R7.out g7.1) (by have h1 := HLL.out; rw [joinB_length] at h1; have h2 := joinP_mem (l := [numB x0, numB x1, numB x2, x3, (Sh.list tBlock).enc x4, (Sh.list tVote).enc x5, (Sh.list tTimeout).enc x6, (Sh.list tCommit).enc x7, (Sh.list tTx).enc x8]) (x := (Sh.list tCommit).enc x7) (by simp); omega)).mono ?_
  rintro e w8 ⟨v8, rfl, f8⟩
  have g8 := g7.step f8
  have hb8 := hb7.below f8.2 hb7.lt
  clear f8
  go_wp2_with fail
  refine hQ8 _ _ hb8 (Effects.cons_ fun _ hQ9 => ?_)
  clear hQ8 hb7 g7
  go_wp2_with fail
  refine (listTx_any _ (Sh.rep_below R8.out g8.1) (by have h1 := HLL.out; rw [joinB_length] at h1; have h2 := joinP_mem (l := [numB x0, numB x1, numB x2, x3, (Sh.list tBlock).enc x4, (Sh.list tVote).enc x5, (Sh.list tTimeout).enc x6, (Sh.list tCommit).enc x7, (Sh.list tTx).enc x8]) (x := (Sh.list tTx).enc x8) (by simp); omega)).mono ?_
  rintro e w9 ⟨v9, rfl, f9⟩
  have g9 := g8.step f9
  have hb9 := hb8.below f9.2 hb8.lt
  clear f9
  go_wp2_with fail
  refine hQ9 _ _ hb9 (Effects.nil_ fun _ hQ10 => ?_)
  clear hQ9 hb8 g8
  have hcs : ∀ v ∈ [v1, v2, v3, v4, v5, v6, v7, v8, v9], v.cells = #[v] := fun v hv => by
    obtain ⟨i, hi, rfl⟩ := List.getElem_of_mem hv
    obtain ⟨y, _, hr⟩ := g9.2.get i hi
    obtain ⟨A, c, e⟩ := hr.form
    have e' : [v1, v2, v3, v4, v5, v6, v7, v8, v9][i] = .slice A y.length c := e
    rw [e']; rfl
  refine wpList_rows rfl 9 _ rfl [v1, v2, v3, v4, v5, v6, v7, v8, v9] rfl (by decide) (by decide) hcs (by simp [Act.eval]) ?_
  have hr : Bsr (w9.alloc (.cells [v1, v2, v3, v4, v5, v6, v7, v8, v9].toArray 50)) (fun b => b < w9.heap.size + 1) (.slice (some ⟨w9.heap.size, 0, none⟩) 9 9) [numB x0, numB x1, numB x2, x3, (Sh.list tBlock).enc x4, (Sh.list tVote).enc x5, (Sh.list tTimeout).enc x6, (Sh.list tCommit).enc x7, (Sh.list tTx).enc x8] := g9.row (by simp [maxLen]) 50
  have hj := join_any _ hr (by have := HLL.out; omega) (fun b hb => by simpa using hb)
  have hbb : Below w.heap.size w (w9.alloc (.cells [v1, v2, v3, v4, v5, v6, v7, v8, v9].toArray 50)) := g9.1.alloc g9.1.size _
  have HJ := Lib.hid hj
  have HBB := Lib.hid hbb
  clear hj hbb hr g9 hcs
  go_wp2_with fail
  refine HJ.out.mono ?_
  rintro e w10 ⟨v10, rfl, f10⟩
  go_wp2_with fail
  go_ret
  exact ⟨v10, rfl, f10.1.sub fun b hb _ => ⟨Nat.le_trans HBB.out.size hb.1, hb.2⟩, HBB.out.trans (f10.2.mono HBB.out.size)⟩

end Go.Proofs.YtjjgmkfkmckkoabGreatDoor

/- Codec: all[Block]. -/
namespace Go.Proofs.YtjjgmkfkmckkoabGreatDoor
open Go.RowKit Go.Maps
attribute [-simp] Tryz.isAgg24 Tryz.typeInfo24 Tryz.isAgg39 Tryz.typeInfo39

theorem size_allBlock_any : (Tryz.prog.info? 39).map (·.size) = some 173 := by kernel_rfl
theorem sizes_allBlock_any : (Tryz.prog.info? 39).map (fun i => (i.zero.map (fun z => z.cells.size), i.size)) = some (some 173, 173) := by kernel_rfl
theorem info_allBlock_any : (Tryz.prog.info? 39).map (fun i => (i.zero, i.size, i.bytes)) = some (some (.agg ((([.int .i64 0, .int .i64 0, .int .i64 0, .int .i64 0] ++ List.replicate 96 (.int .u8 0) ++ [.int .i64 0]) ++ ([.int .i64 0, .int .i64 0, .int .i64 0] ++ List.replicate 32 (.int .u8 0) ++ [.slice none 0 0, .slice none 0 0]) ++ [.slice none 0 0, .slice none 0 0] ++ ([.int .i64 0] ++ List.replicate 32 (.int .u8 0)) : List Value)).toArray), 173, 328) := by kernel_rfl
set_option maxHeartbeats 8000000 in
set_option maxRecDepth 100000 in
theorem allBlock_any (w : World) {X : Nat → Prop} {E g : Nat} {sent : Value} {x : List UInt8} {rows : List (List UInt8)} {bad : Bool} (h : Pt w X E g sent (x :: rows) bad) (hxl : x.length ≤ 262144) :
    Calls Tryz.prog 67 #[.pointer (some ⟨g, 0, none⟩), .func (Fn.func 59) #[] #[]] w (Took (.list tBlock) w X E g sent x rows bad) := by
  have hgx := h.2.2.1
  have hgw := h.lt
  have hEw := h.2.2.2.2.1
  have HGX := Lib.hid hgx
  have HX1 := Lib.hid (show ∀ b, X b → b < w.heap.size from h.2.2.2.1)
  have H := Lib.hid (next_any _ h)
  clear h hgx
  go_enter Tryz.func67, Tryz.ntmps67
  go_wp2_with fail
  refine H.out.mono ?_
  rintro e w1 ⟨v1, rfl, hb1, hc1, hp1⟩
  have HSP := Lib.hid (split_any w1 hb1 (by omega))
  have hz1 := hc1.size
  have HP1 := Lib.hid hp1
  have HC1 := Lib.hid hc1
  obtain ⟨A1, c1, rfl⟩ := hb1.form
  clear hb1 hp1 hc1 H
  go_wp2_with fail
  refine HSP.out.mono ?_
  rintro e w2 ⟨hb2, ⟨hno, rfl⟩ | ⟨v2, l, hsp, rfl, hbss⟩⟩
  · have HNO := Lib.hid hno; clear hno
    have hp2 := HP1.out.below hb2
    obtain ⟨⟨sa, rfl⟩, hgl⟩ := hp2.1
    have hgl : w2.cell? ⟨gF, 0, none⟩ = some _ := hgl
    unfold gF at hgl
    have hlx := hp2.2.2.2.1
    have hE2 := hp2.2.2.2.2.1
    have hal := (Below.refl w2.heap.size w2).alloc (Nat.le_refl _) (.cells #[.string ⟨#[97, 32, 108, 105, 115, 116]⟩, .iface 205 (.pointer (some sa))] 117)
    have HBAD := Lib.hid (bad_any _ (hp2.below hal) (Chain.fresh _ ⟨fun h => absurd (hlx _ h) (Nat.lt_irrefl _), hE2⟩))
    have HC2 := Lib.hid (HC1.out.trans (Chg.of_below hb2 fun k => k = g) fun b h => .inl h)
    clear hp2 hlx hal hE2 hb2 HP1 HC1 HSP
    go_wp2_with fail
    refine HBAD.out.mono ?_
    rintro e w3 ⟨rfl, hc3, hp3⟩
    have HP3 := Lib.hid hp3
    have HC3 := Lib.hid hc3
    clear hp3 hc3 HBAD
    go_wp2_with fail
    refine wp_loop_rounds 1 ?_
    rw [rounds_succ]
    go_wp2
    go_ret
    exact ⟨[.slice none 0 0], true, rfl, (HC2.out.alloc _).trans HC3.out fun b h => .inl h, HP3.out, SOut.noList HNO.out rfl⟩
  · have hrl : ∀ y ∈ l, y.length ≤ 262144 := fun y hy => Nat.le_trans (joinP_mem_le hsp y hy) hxl
    have hll : l.length ≤ 32768 := by
      have h1 := splitB_back hsp
      have h2 := joinP_count l
      rw [← h1, joinB_length] at hxl
      omega
    obtain ⟨A2, c2, rfl⟩ := hbss.form
    have HROWS := Lib.hid (((hbss.read fun y hy => by have := hrl y hy; omega).lt_ (T := fun b => w1.heap.size ≤ b) fun b h => h.elim id id).subs (T := fun b => b ≠ g) fun b hb _ => by have := hb.1; omega)
    have HP2 := Lib.hid (HP1.out.below hb2)
    have HC2 := Lib.hid (HC1.out.trans (Chg.of_below hb2 fun k => k = g) fun b h => .inl h)
    have HSPL := Lib.hid hsp
    have HRL := Lib.hid hrl
    have hwS : w.heap.size ≤ w2.heap.size := Nat.le_trans hz1 hb2.size
    clear hbss hsp hrl hb2 HP1 HC1 HSP hxl
    go_wp2_with fail
    go_loopw [7, 28] (fun o i wr => ∃ k : Nat, k ≤ l.length ∧ i = .int .i64 k ∧ AllI 39 173 tBlock w w2 X E g sent rows bad l o k wr) (fun _ i _ => l.length - (intOf i).toNat)
    case atStart => exact ⟨0, Nat.zero_le _, rfl, AllI.start HP2.out⟩
    case round =>
      obtain ⟨k, hk, rfl, hI⟩ := hrel
      by_cases hlt : k < l.length
      · obtain ⟨css, bk, hown, hob, hlo, hpt, hch⟩ := hI
        obtain ⟨ba, oa, ua, rfl, hca, hua, _, hSb⟩ := (HROWS.out.chg hch (fun b hb h => hb h)).at_ hlt
        have htk : l.take (k + 1) = l.take k ++ [l[k]] := List.take_succ_eq_append_getElem hlt
        have hyl := HRL.out l[k] (List.getElem_mem hlt)
        obtain ⟨y, hy⟩ : ∃ y, y = l[k] := ⟨_, rfl⟩
        rw [← hy] at hua htk hyl
        have HR := Lib.hid (readBlock_any wr hua hyl hpt.1)
        obtain ⟨Ay, cy, rfl⟩ := hua.form
        obtain ⟨Ao, co, rfl⟩ := hown.form
        have HOWN := Lib.hid hown
        have HOB := Lib.hid hob
        have HLO := Lib.hid hlo
        have HPT := Lib.hid hpt
        have HCH := Lib.hid hch
        have HTK := Lib.hid htk
        have H63 := Lib.hid (show k + 1 ≤ maxLen ∧ (k + 1) * 328 ≤ 140737488355328 from ⟨by simp only [maxLen]; omega, by omega⟩)
        have hzr := hch.size
        clear hown hob hlo hpt hch htk hy hua hyl
        go_wp2_with fail
        refine HR.out.mono ?_
        rintro e w3 hro
        obtain ⟨C, err, bd, rfl, h1, hl, hb3, he, ho⟩ := hro.agg (fun _ => rfl)
        have hl : C.length = 173 := hl
        have HL := Lib.hid hl
        have HI := Lib.hid (show (Tryz.prog.info? 39).map (·.size) = some C.length from by rw [hl]; exact size_allBlock_any)
        have HI2 := Lib.hid (show (Tryz.prog.info? 39).map (fun i => (i.zero.map (fun z => z.cells.size), i.size)) = some (some C.length, C.length) from by rw [hl]; exact sizes_allBlock_any)
        have H1 := Lib.hid h1
        clear h1 hl
        have HB3 := Lib.hid hb3
        have HP3 := Lib.hid (HPT.out.below hb3)
        have HO := Lib.hid (ho.or_ bk)
        clear hro hb3 ho HR
        rcases he with ⟨rfl, rfl⟩ | ⟨rfl, hcn⟩
        · skip
          go_wp2_with (first
            | (refine wpList_store_blk (cs0 := (([.int .i64 0, .int .i64 0, .int .i64 0, .int .i64 0] ++ List.replicate 96 (.int .u8 0) ++ [.int .i64 0]) ++ ([.int .i64 0, .int .i64 0, .int .i64 0] ++ List.replicate 32 (.int .u8 0) ++ [.slice none 0 0, .slice none 0 0]) ++ [.slice none 0 0, .slice none 0 0] ++ ([.int .i64 0] ++ List.replicate 32 (.int .u8 0)) : List Value)) (cs := C) rfl 39 _ _ rfl (Blk.new w3 _ _) rfl rfl (by rw [HL.out]; rfl) HI.out H1.out ?_; intro w4 hb4 hc4; have HB4 := Lib.hid hb4; have HC4 := Lib.hid (show Chg (fun _ => False) w3 w4 from ((Chg.refl _ w3).alloc _).trans hc4 fun b h => .inr (Nat.le_of_eq h.symm)); clear hb4 hc4; have HO2 := Lib.hid (show ∀ ob, Own (w4.alloc ob) 39 173 (.slice Ao k co) k css.flatten from fun ob => own_keep HOWN.out fun b hb => (by have h1 := own_lt HOWN.out hb; have h2 := HOB.out b hb; have h3 := HB3.out.size; exact (Below.heap_alloc w4 ob b (Nat.lt_of_lt_of_le (Nat.lt_of_lt_of_le h1 h3) HC4.out.size)).trans ((HC4.out.block b (Nat.lt_of_lt_of_le h1 h3) id).trans (HB3.out.block b h1)))); have HS2 := Lib.hid (Cs.of_new w4 39 (size := 173) 1 (cs := C) (by rw [HL.out]) (by simp only [maxLen]; decide)))
            | (refine wpList_load_blk' rfl 39 _ rfl HB4.out rfl Tryz.underlying39 rfl HI.out ?_)
            | (refine wpList_row1 rfl 44 39 _ rfl Tryz.underlying44 (.agg C.toArray) rfl C rfl HI2.out (by rw [HL.out]; decide) (by rw [HL.out]; decide) ?_)
            | (at_builtin; refine wpList_app _ rfl _ _ _ rfl Tryz.underlying44 info_allBlock_any rfl (by decide) (HO2.out _) rfl HS2.out rfl H1.out H63.out.1 H63.out.2 ?_; intro v6 w6 ho6 hc6 hnil6 hat6; clear hnil6; have HO6 := Lib.hid ho6; clear ho6; have HC6 := Lib.hid hc6; clear hc6; have HAT6 := Lib.hid hat6; clear hat6))
          refine ⟨⟨k + 1, by omega, by push_cast; rfl, AllI.step hgw hwS HOWN.out HOB.out HLO.out HCH.out HB3.out (by have := HO.out; rw [Bool.or_false] at this; exact this) (HC4.out.mono (M' := fun b => b = g) fun _ h => h.elim) (HP3.out.chg HC4.out fun b h => h.elim) HTK.out HO6.out HC6.out HAT6.out⟩, ?_⟩
          simp only [intOf]; omega
        · skip
          obtain ⟨gw, rfl⟩ := hcn.form
          have HCN := Lib.hid hcn; clear hcn
          go_wp2_with (refine wpList_store_blk (cs0 := (([.int .i64 0, .int .i64 0, .int .i64 0, .int .i64 0] ++ List.replicate 96 (.int .u8 0) ++ [.int .i64 0]) ++ ([.int .i64 0, .int .i64 0, .int .i64 0] ++ List.replicate 32 (.int .u8 0) ++ [.slice none 0 0, .slice none 0 0]) ++ [.slice none 0 0, .slice none 0 0] ++ ([.int .i64 0] ++ List.replicate 32 (.int .u8 0)) : List Value)) (cs := C) rfl 39 _ _ rfl (Blk.new w3 _ _) rfl rfl (by rw [HL.out]; rfl) HI.out H1.out ?_; intro w4 hb4 hc4; have HB4 := Lib.hid hb4; have HC4 := Lib.hid (show Chg (fun _ => False) w3 w4 from ((Chg.refl _ w3).alloc _).trans hc4 fun b h => .inr (Nat.le_of_eq h.symm)); clear hb4 hc4)
          have hp4 := (HP3.out.chg HC4.out fun b h => h.elim)
          have hlx := hp4.2.2.2.1
          have hE4 := hp4.2.2.2.2.1
          have hz4 := HC4.out.size
          have hz3 := HB3.out.size
          have hal := (Below.refl w4.heap.size w4).alloc (Nat.le_refl _) (.cells #[.string ⟨#[105, 110, 32, 97, 32, 108, 105, 115, 116]⟩, .iface 113 (.pointer (some ⟨gw, 0, none⟩))] 117)
          have hcn4 := (HCN.out.to (w' := w4) (S' := fun b => ¬ (X b ∨ (Value.slice Ao k co).ownBlock = some b) ∧ E ≤ b) (fun b hb hlt => ⟨Nat.lt_of_lt_of_le hlt HC4.out.size, HC4.out.block b hlt id⟩) fun b hb hlt => ⟨fun h => h.elim (fun h => by have := HX1.out b h; omega) fun h => by have := own_lt HOWN.out h; omega, by omega⟩)
          have HBAD := Lib.hid (bad_any _ (hp4.below hal) (hcn4.freshMore _ ⟨fun h => absurd (hlx _ h) (Nat.lt_irrefl _), hE4⟩))
          clear hp4 hlx hal hcn4 hE4
          refine HBAD.out.mono ?_
          rintro e w5 ⟨rfl, hc5, hp5⟩
          have HP5 := Lib.hid hp5
          have HC35 := Lib.hid (show Chg (fun b => b = g) w3 w5 from ((HC4.out.mono (M' := fun b => b = g) fun _ h => h.elim).alloc _).trans hc5 fun b h => .inl h)
          have HB5 := Lib.hid ((HB4.out.alloc _).chg hc5 (fun h => by omega))
          clear hc5 hp5 HBAD
          have HO2 := Lib.hid (show ∀ ob, Own (w5.alloc ob) 39 173 (.slice Ao k co) k css.flatten from fun ob => own_keep HOWN.out fun b hb => (by have h1 := own_lt HOWN.out hb; have h2 := HOB.out b hb; have h3 := HB3.out.size; exact (Below.heap_alloc w5 ob b (Nat.lt_of_lt_of_le (Nat.lt_of_lt_of_le h1 h3) HC35.out.size)).trans ((HC35.out.block b (Nat.lt_of_lt_of_le h1 h3) (fun e => by omega)).trans (HB3.out.block b h1))))
          have HS2 := Lib.hid (Cs.of_new w5 39 (size := 173) 1 (cs := C) (by rw [HL.out]) (by simp only [maxLen]; decide))
          go_wp2_with (first
            | (refine wpList_load_blk' rfl 39 _ rfl HB5.out rfl Tryz.underlying39 rfl HI.out ?_)
            | (refine wpList_row1 rfl 44 39 _ rfl Tryz.underlying44 (.agg C.toArray) rfl C rfl HI2.out (by rw [HL.out]; decide) (by rw [HL.out]; decide) ?_)
            | (at_builtin; refine wpList_app _ rfl _ _ _ rfl Tryz.underlying44 info_allBlock_any rfl (by decide) (HO2.out _) rfl HS2.out rfl H1.out H63.out.1 H63.out.2 ?_; intro v6 w6 ho6 hc6 hnil6 hat6; clear hnil6; have HO6 := Lib.hid ho6; clear ho6; have HC6 := Lib.hid hc6; clear hc6; have HAT6 := Lib.hid hat6; clear hat6))
          refine ⟨⟨k + 1, by omega, by push_cast; rfl, AllI.step hgw hwS HOWN.out HOB.out HLO.out HCH.out HB3.out (by have := HO.out; rw [Bool.or_true] at this; exact this) HC35.out HP5.out HTK.out HO6.out HC6.out HAT6.out⟩, ?_⟩
          simp only [intOf]; omega
      · have hk' : k = l.length := by omega
        subst hk'
        have HI := Lib.hid hI
        clear hI
        go_wp2_with fail
        go_ret
        exact HI.out.out rfl HSPL.out (fun _ => rfl) HGX.out HC2.out

end Go.Proofs.YtjjgmkfkmckkoabGreatDoor

/- Codec: a vote read. -/
namespace Go.Proofs.YtjjgmkfkmckkoabGreatDoor
open Go.RowKit Go.Maps
attribute [-simp] Tryz.isAgg24 Tryz.typeInfo24 Tryz.isAgg87 Tryz.typeInfo87

theorem info_readVote : (Tryz.prog.info? 87).map (fun i => (i.zero.map (fun z => z.cells.size))) = some (some 69) := by kernel_rfl
theorem size_readVote : (Tryz.prog.info? 87).map (·.size) = some 69 := by kernel_rfl
theorem places_readVote : ((match Tryz.prog.underlying 87 with | some (.struct fields) => fields.toList.mapM (fun f => (Tryz.prog.info? f.type).map fun i => (f.offset, i.size)) | _ => none)) = some [(0, 1), (1, 1), (2, 1), (3, 32), (35, 1), (36, 33)] := by kernel_rfl
set_option maxHeartbeats 4000000 in
set_option maxRecDepth 100000 in
theorem readVote_any (w : World) {S : Nat → Prop} {v sent : Value} {bs : List UInt8} (h : Bs w S v bs) (hlen : bs.length ≤ 262144) (hg : Gl w sent) :
    Calls Tryz.prog 69 #[v] w (ReadOut (.tup (.cons i64 (.cons i64 (.cons i64 (.cons .dig (.cons i64 (.cons tSig .nil))))))) w sent bs) := by
  have hal := (Below.refl w.heap.size w).alloc (Nat.le_refl _) (.cells (([.int .i64 0, .int .i64 0, .int .i64 0] ++ List.replicate 32 (.int .u8 0) ++ [.int .i64 0] ++ ([.int .i64 0] ++ List.replicate 32 (.int .u8 0)) : List Value)).toArray 87)
  have HS := Lib.hid (psplit_any _ (h.below hal) (by omega) (hg.below hal) 6 (by omega) ⟨#[97, 32, 118, 111, 116, 101]⟩)
  have HN := Lib.hid (Blk.new w 87 (([.int .i64 0, .int .i64 0, .int .i64 0] ++ List.replicate 32 (.int .u8 0) ++ [.int .i64 0] ++ ([.int .i64 0] ++ List.replicate 32 (.int .u8 0)) : List Value)).toArray)
  have HAL := Lib.hid hal
  obtain ⟨A, cap, rfl⟩ := h.form
  clear h hg hal
  go_enter Tryz.func69, Tryz.ntmps69
  go_wp2_with fail
  refine HS.out.mono ?_
  rintro e w1 ⟨g, rows, bad, rfl, hgw, hb1, hp, hn, hrl, hs⟩
  obtain ⟨r0, r1, r2, r3, r4, r5, rfl⟩ : ∃ r0 r1 r2 r3 r4 r5, rows = [r0, r1, r2, r3, r4, r5] := by
    match rows, hn with
    | [r0, r1, r2, r3, r4, r5], _ => exact ⟨r0, r1, r2, r3, r4, r5, rfl⟩
  have HK := Lib.hid (HN.out.below hb1 (by simp))
  have hgw' : w.heap.size + 1 ≤ g := by simpa using hgw
  have hz1 : w.heap.size + 1 ≤ w1.heap.size := by simpa using hb1.size
  have HB1 := Lib.hid (HAL.out.trans (hb1.mono (by simp)))
  have HSS := Lib.hid hs
  have HRL := Lib.hid (show ∀ x ∈ [r0, r1, r2, r3, r4, r5], x.length ≤ 262144 from fun x hx => Nat.le_trans (hrl x hx) hlen)
  have hE : Pt w1 (fun b => b = g) (w.heap.size + 1) g sent [r0, r1, r2, r3, r4, r5] bad := by simpa using hp
  clear HS HN HAL hgw hb1 hs hn hp hrl hlen
  have hp0 := hE
  clear hE
  go_wp2_with fail
  refine (int_any _ hp0).mono ?_
  rintro e w2 ht
  obtain ⟨y0, b0, rfl, h10, hc0, hp1, ho0⟩ := ht.one (fun _ => rfl) rfl
  have hgl0 := hp0.lt
  have hz2 := Nat.le_trans hz1 hc0.size
  have HO0 := Lib.hid ho0
  have HC0 := Lib.hid hc0
  have H10 := Lib.hid h10
  clear ht ho0 hc0 h10 hp0
  go_wp2_with fail
  refine (int_any _ hp1).mono ?_
  rintro e w3 ht
  obtain ⟨y1, b1, rfl, h11, hc1, hp2, ho1⟩ := ht.one (fun _ => rfl) rfl
  have hgl1 := hp1.lt
  have hz3 := Nat.le_trans hz2 hc1.size
  have HO1 := Lib.hid ho1
  have HC1 := Lib.hid hc1
  have H11 := Lib.hid h11
  clear ht ho1 hc1 h11 hp1
  go_wp2_with fail
  refine (n_any _ hp2).mono ?_
  rintro e w4 ht
  obtain ⟨y2, b2, rfl, h12, hc2, hp3, ho2⟩ := ht.one (fun _ => rfl) rfl
  have hgl2 := hp2.lt
  have hz4 := Nat.le_trans hz3 hc2.size
  have HO2 := Lib.hid ho2
  have HC2 := Lib.hid hc2
  have H12 := Lib.hid h12
  clear ht ho2 hc2 h12 hp2
  go_wp2_with fail
  refine (pdigest_any _ hp3).mono ?_
  rintro e w5 ht
  obtain ⟨c3, b3, rfl, h13, hl3, hc3, hp4, ho3⟩ := ht.agg (fun _ => rfl)
  have hl3 : c3.length = 32 := hl3
  have hgl3 := hp3.lt
  have hz5 := Nat.le_trans hz4 hc3.size
  have HO3 := Lib.hid ho3
  have HC3 := Lib.hid hc3
  have H13 := Lib.hid h13
  have HL3 := Lib.hid hl3
  clear hl3
  clear ht ho3 hc3 h13 hp3
  go_wp2_with fail
  refine (int_any _ hp4).mono ?_
  rintro e w6 ht
  obtain ⟨y4, b4, rfl, h14, hc4, hp5, ho4⟩ := ht.one (fun _ => rfl) rfl
  have hgl4 := hp4.lt
  have hz6 := Nat.le_trans hz5 hc4.size
  have HO4 := Lib.hid ho4
  have HC4 := Lib.hid hc4
  have H14 := Lib.hid h14
  clear ht ho4 hc4 h14 hp4
  go_wp2_with fail
  refine (oneSig_any _ hp5 (HRL.out _ (by simp))).mono ?_
  rintro e w7 ht
  obtain ⟨c5, b5, rfl, h15, hl5, hc5, hp6, ho5⟩ := ht.agg (fun _ => rfl)
  have hl5 : c5.length = 33 := hl5
  have hgl5 := hp5.lt
  have hz7 := Nat.le_trans hz6 hc5.size
  have HO5 := Lib.hid ho5
  have HC5 := Lib.hid hc5
  have H15 := Lib.hid h15
  have HL5 := Lib.hid hl5
  clear hl5
  clear ht ho5 hc5 h15 hp5
  have hbu := run_struct (P := Tryz.prog) (vs := [y0, y1, y2, .agg c3.toArray, y4, .agg c5.toArray]) (cs := [[y0], [y1], [y2], c3, [y4], c5]) info_readVote places_readVote ⟨cells_one H10.out, cells_one H11.out, cells_one H12.out, rfl, cells_one H14.out, rfl, trivial⟩ (by simp [PlaceOk, HL3.out, HL5.out]) (by simp [HL3.out, HL5.out]) #[(0, y0), (1, y1), (2, y2), (3, .agg c3.toArray), (4, y4), (5, .agg c5.toArray)] rfl
  have hone : ∀ v ∈ [[y0], [y1], [y2], c3, [y4], c5].flatten, v.oneCell' = true := by
    intro v hv
    simp only [List.flatten_cons, List.flatten_nil, List.mem_append, List.mem_singleton, List.not_mem_nil, or_false] at hv
    rcases hv with rfl | rfl | rfl | hv | rfl | hv
    · exact H10.out
    · exact H11.out
    · exact H12.out
    · exact H13.out v hv
    · exact H14.out
    · exact H15.out v hv
  have HOUT := Lib.hid (show Fs.Out (.cons i64 (.cons i64 (.cons i64 (.cons .dig (.cons i64 (.cons tSig .nil)))))) w7 (fun b => w.heap.size + 1 ≤ b) [r0, r1, r2, r3, r4, r5] [[y0], [y1], [y2], c3, [y4], c5].flatten bad b5 from by
    have := Fs.Out.step HO0.out (Fs.Out.step HO1.out (Fs.Out.step HO2.out (Fs.Out.step HO3.out (Fs.Out.step HO4.out (Fs.Out.step HO5.out (Fs.Out.nil_ w7 _ _) (Chg.refl _ _) hgl5 hz6) HC5.out hgl4 hz5) (HC4.out.trans HC5.out fun b h => .inl h) hgl3 hz4) ((HC3.out.trans HC4.out fun b h => .inl h).trans HC5.out fun b h => .inl h) hgl2 hz3) (((HC2.out.trans HC3.out fun b h => .inl h).trans HC4.out fun b h => .inl h).trans HC5.out fun b h => .inl h) hgl1 hz2) ((((HC1.out.trans HC2.out fun b h => .inl h).trans HC3.out fun b h => .inl h).trans HC4.out fun b h => .inl h).trans HC5.out fun b h => .inl h) hgl0 hz1
    simpa using this)
  have HCA := Lib.hid (show Chg (fun k => k = g) w1 w7 from (((((HC0.out.trans HC1.out fun b h => .inl h).trans HC2.out fun b h => .inl h).trans HC3.out fun b h => .inl h).trans HC4.out fun b h => .inl h).trans HC5.out fun b h => .inl h))
  have hcl : [[y0], [y1], [y2], c3, [y4], c5].flatten.length = 69 := by simp [HL3.out, HL5.out]
  obtain ⟨C, hC⟩ : ∃ C, C = [[y0], [y1], [y2], c3, [y4], c5].flatten := ⟨_, rfl⟩
  rw [← hC] at hbu hone hcl HOUT
  have HBU := Lib.hid hbu
  have HONE := Lib.hid hone
  have HCL := Lib.hid hcl
  have HI := Lib.hid (show (Tryz.prog.info? 87).map (·.size) = some C.length from by rw [hcl]; exact size_readVote)
  have HK2 := Lib.hid (HK.out.chg HCA.out (show ¬ w.heap.size = g from by omega))
  clear hbu hone hcl hC HK HO0 HC0 H10 HO1 HC1 H11 HO2 HC2 H12 HO3 HC3 H13 HO4 HC4 H14 HO5 HC5 H15 HL3 HL5
  have HP := Lib.hid hp6
  have hgX := hp6.lt
  clear hp6
  have hbu := HBU.out w7
  have HX := Lib.hid (HP.out.parts)
  go_wp2_with (first | (refine wpList_build_ rfl 87 _ rfl #[(0, y0), (1, y1), (2, y2), (3, .agg c3.toArray), (4, y4), (5, .agg c5.toArray)] (by simp [Act.eval]) _ hbu ?_) | (refine wpList_store_blk (cs0 := ([.int .i64 0, .int .i64 0, .int .i64 0] ++ List.replicate 32 (.int .u8 0) ++ [.int .i64 0] ++ ([.int .i64 0] ++ List.replicate 32 (.int .u8 0)) : List Value)) (cs := C) rfl 87 _ _ rfl (Blk.new w7 _ _) rfl rfl (by rw [HCL.out]; rfl) HI.out HONE.out ?_; intro wx hbx hcx; have HBX := Lib.hid hbx; have HCX := Lib.hid hcx; clear hbx hcx))
  obtain ⟨vy, ey, hblk, herr⟩ := HX.out
  have HCX' := Lib.hid (show Chg (fun _ => False) w7 wx from ((Chg.refl _ w7).alloc _).trans HCX.out fun b h => .inr (Nat.le_of_eq h.symm))
  have HGX := Lib.hid (hblk.chg HCX'.out id)
  have HKX := Lib.hid (HK2.out.chg HCX'.out id)
  have HE := Lib.hid herr
  clear hbu hblk herr HX HBU
  refine wp_region_hoist [0, 1, 2, 3, 4] [5] [6] (fun w' => Blk w' w7.heap.size 87 C.toArray ∧ Blk w' g 133 #[vy, ey])
    (by kernel_rfl) (by kernel_rfl) (by kernel_rfl) (by kernel_rfl) (by kernel_rfl) (by kernel_rfl) ⟨HBX.out.drew, HGX.out.drew⟩ ?_
  (refine HoistK.load (by rfl) (by kernel_rfl) 87 _ rfl w7.heap.size 0 rfl C _ (fun w' hw => hw.1.range) Tryz.underlying87 rfl HI.out ?_; simp only [Act.put, List.setIfInBounds_toArray, List.getElem_toArray, List.getElem_cons_zero, List.set_cons_succ, List.set_cons_zero])
  (refine HoistK.yes (by rfl) (by kernel_rfl) ⟨?_, fun w' hSw => ?_, ?_⟩; rotate_left; (· go_simp; try with_reducible rfl); simp only [Act.put, List.setIfInBounds_toArray, List.getElem_toArray, List.getElem_cons_succ, List.getElem_cons_zero, List.set_cons_succ, List.set_cons_zero])
  (refine HoistK.yes (by rfl) (by kernel_rfl) ⟨?_, fun w' hSw => ?_, ?_⟩; rotate_left; (· go_simp; try with_reducible rfl); simp only [Act.put, List.setIfInBounds_toArray, List.getElem_toArray, List.getElem_cons_succ, List.getElem_cons_zero, List.set_cons_succ, List.set_cons_zero])
  (refine HoistK.yes (by rfl) (by kernel_rfl) ⟨?_, fun w' hSw => ?_, ?_⟩; rotate_left; (· go_simp; try with_reducible rfl); simp only [Act.put, List.setIfInBounds_toArray, List.getElem_toArray, List.getElem_cons_succ, List.getElem_cons_zero, List.set_cons_succ, List.set_cons_zero])
  (refine HoistK.yes (by rfl) (by kernel_rfl) ⟨?_, fun w' hSw => ?_, ?_⟩; rotate_left; (· have hcc := hSw.2.cell; go_simp; try with_reducible rfl); simp only [Act.put, List.setIfInBounds_toArray, List.getElem_toArray, List.getElem_cons_succ, List.getElem_cons_zero, List.set_cons_succ, List.set_cons_zero])
  refine HoistK.nil_ ?_
  simp only [opsAt, List.filterMap_cons, List.filterMap_nil, List.getElem?_toArray, List.getElem?_cons_succ, List.getElem?_cons_zero]
  refine Effects.cons_ fun _ hQ1 => ?_
  go_wp2_with (refine wpList_store_blk (cs0 := ([.int .i64 0, .int .i64 0, .int .i64 0] ++ List.replicate 32 (.int .u8 0) ++ [.int .i64 0] ++ ([.int .i64 0] ++ List.replicate 32 (.int .u8 0)) : List Value)) (cs := C) rfl 87 _ _ rfl HKX.out.drew rfl rfl (by rw [HCL.out]; rfl) HI.out HONE.out ?_; intro wy hby hcy; have HBY := Lib.hid hby; have HCY := Lib.hid hcy; clear hby hcy)
  refine hQ1 _ _ ⟨HBX.out.drew.chg HCY.out (fun h => by omega), HGX.out.drew.chg HCY.out (fun h => by omega)⟩ (Effects.nil_ fun _ hQ2 => ?_)
  go_wp2
  have hld := run_loadVar_mid (P := Tryz.prog) wy w.heap.size 0 87 C _ HBY.out.range Tryz.underlying87 rfl HI.out
  refine bodyPost_ret (v := .tuple #[.agg C.toArray, ey]) (by simp [results, Tryz.results69, asAddr, hld]) rfl ?_
  have hcf : Chg (fun b => b = w.heap.size) w7 wy := ((HCX'.out.mono fun _ h => h.elim).drew).trans HCY.out fun b h => .inl h
  exact ReadOut.mk (n := 6) HOUT.out HSS.out rfl HE.out (HB1.out.trans (HCA.out.below HB1.out.size fun b h => by omega)) hcf

end Go.Proofs.YtjjgmkfkmckkoabGreatDoor

/- Codec: all[Vote]. -/
namespace Go.Proofs.YtjjgmkfkmckkoabGreatDoor
open Go.RowKit Go.Maps
attribute [-simp] Tryz.isAgg24 Tryz.typeInfo24 Tryz.isAgg87 Tryz.typeInfo87

theorem size_allVote_any : (Tryz.prog.info? 87).map (·.size) = some 69 := by kernel_rfl
theorem sizes_allVote_any : (Tryz.prog.info? 87).map (fun i => (i.zero.map (fun z => z.cells.size), i.size)) = some (some 69, 69) := by kernel_rfl
theorem info_allVote_any : (Tryz.prog.info? 87).map (fun i => (i.zero, i.size, i.bytes)) = some (some (.agg (([.int .i64 0, .int .i64 0, .int .i64 0] ++ List.replicate 32 (.int .u8 0) ++ [.int .i64 0] ++ ([.int .i64 0] ++ List.replicate 32 (.int .u8 0)) : List Value)).toArray), 69, 104) := by kernel_rfl
set_option maxHeartbeats 8000000 in
set_option maxRecDepth 100000 in
theorem allVote_any (w : World) {X : Nat → Prop} {E g : Nat} {sent : Value} {x : List UInt8} {rows : List (List UInt8)} {bad : Bool} (h : Pt w X E g sent (x :: rows) bad) (hxl : x.length ≤ 262144) :
    Calls Tryz.prog 68 #[.pointer (some ⟨g, 0, none⟩), .func (Fn.func 69) #[] #[]] w (Took (.list tVote) w X E g sent x rows bad) := by
  have hgx := h.2.2.1
  have hgw := h.lt
  have hEw := h.2.2.2.2.1
  have HGX := Lib.hid hgx
  have HX1 := Lib.hid (show ∀ b, X b → b < w.heap.size from h.2.2.2.1)
  have H := Lib.hid (next_any _ h)
  clear h hgx
  go_enter Tryz.func68, Tryz.ntmps68
  go_wp2_with fail
  refine H.out.mono ?_
  rintro e w1 ⟨v1, rfl, hb1, hc1, hp1⟩
  have HSP := Lib.hid (split_any w1 hb1 (by omega))
  have hz1 := hc1.size
  have HP1 := Lib.hid hp1
  have HC1 := Lib.hid hc1
  obtain ⟨A1, c1, rfl⟩ := hb1.form
  clear hb1 hp1 hc1 H
  go_wp2_with fail
  refine HSP.out.mono ?_
  rintro e w2 ⟨hb2, ⟨hno, rfl⟩ | ⟨v2, l, hsp, rfl, hbss⟩⟩
  · have HNO := Lib.hid hno; clear hno
    have hp2 := HP1.out.below hb2
    obtain ⟨⟨sa, rfl⟩, hgl⟩ := hp2.1
    have hgl : w2.cell? ⟨gF, 0, none⟩ = some _ := hgl
    unfold gF at hgl
    have hlx := hp2.2.2.2.1
    have hE2 := hp2.2.2.2.2.1
    have hal := (Below.refl w2.heap.size w2).alloc (Nat.le_refl _) (.cells #[.string ⟨#[97, 32, 108, 105, 115, 116]⟩, .iface 205 (.pointer (some sa))] 117)
    have HBAD := Lib.hid (bad_any _ (hp2.below hal) (Chain.fresh _ ⟨fun h => absurd (hlx _ h) (Nat.lt_irrefl _), hE2⟩))
    have HC2 := Lib.hid (HC1.out.trans (Chg.of_below hb2 fun k => k = g) fun b h => .inl h)
    clear hp2 hlx hal hE2 hb2 HP1 HC1 HSP
    go_wp2_with fail
    refine HBAD.out.mono ?_
    rintro e w3 ⟨rfl, hc3, hp3⟩
    have HP3 := Lib.hid hp3
    have HC3 := Lib.hid hc3
    clear hp3 hc3 HBAD
    go_wp2_with fail
    refine wp_loop_rounds 1 ?_
    rw [rounds_succ]
    go_wp2
    go_ret
    exact ⟨[.slice none 0 0], true, rfl, (HC2.out.alloc _).trans HC3.out fun b h => .inl h, HP3.out, SOut.noList HNO.out rfl⟩
  · have hrl : ∀ y ∈ l, y.length ≤ 262144 := fun y hy => Nat.le_trans (joinP_mem_le hsp y hy) hxl
    have hll : l.length ≤ 32768 := by
      have h1 := splitB_back hsp
      have h2 := joinP_count l
      rw [← h1, joinB_length] at hxl
      omega
    obtain ⟨A2, c2, rfl⟩ := hbss.form
    have HROWS := Lib.hid (((hbss.read fun y hy => by have := hrl y hy; omega).lt_ (T := fun b => w1.heap.size ≤ b) fun b h => h.elim id id).subs (T := fun b => b ≠ g) fun b hb _ => by have := hb.1; omega)
    have HP2 := Lib.hid (HP1.out.below hb2)
    have HC2 := Lib.hid (HC1.out.trans (Chg.of_below hb2 fun k => k = g) fun b h => .inl h)
    have HSPL := Lib.hid hsp
    have HRL := Lib.hid hrl
    have hwS : w.heap.size ≤ w2.heap.size := Nat.le_trans hz1 hb2.size
    clear hbss hsp hrl hb2 HP1 HC1 HSP hxl
    go_wp2_with fail
    go_loopw [7, 28] (fun o i wr => ∃ k : Nat, k ≤ l.length ∧ i = .int .i64 k ∧ AllI 87 69 tVote w w2 X E g sent rows bad l o k wr) (fun _ i _ => l.length - (intOf i).toNat)
    case atStart => exact ⟨0, Nat.zero_le _, rfl, AllI.start HP2.out⟩
    case round =>
      obtain ⟨k, hk, rfl, hI⟩ := hrel
      by_cases hlt : k < l.length
      · obtain ⟨css, bk, hown, hob, hlo, hpt, hch⟩ := hI
        obtain ⟨ba, oa, ua, rfl, hca, hua, _, hSb⟩ := (HROWS.out.chg hch (fun b hb h => hb h)).at_ hlt
        have htk : l.take (k + 1) = l.take k ++ [l[k]] := List.take_succ_eq_append_getElem hlt
        have hyl := HRL.out l[k] (List.getElem_mem hlt)
        obtain ⟨y, hy⟩ : ∃ y, y = l[k] := ⟨_, rfl⟩
        rw [← hy] at hua htk hyl
        have HR := Lib.hid (readVote_any wr hua hyl hpt.1)
        obtain ⟨Ay, cy, rfl⟩ := hua.form
        obtain ⟨Ao, co, rfl⟩ := hown.form
        have HOWN := Lib.hid hown
        have HOB := Lib.hid hob
        have HLO := Lib.hid hlo
        have HPT := Lib.hid hpt
        have HCH := Lib.hid hch
        have HTK := Lib.hid htk
        have H63 := Lib.hid (show k + 1 ≤ maxLen ∧ (k + 1) * 104 ≤ 140737488355328 from ⟨by simp only [maxLen]; omega, by omega⟩)
        have hzr := hch.size
        clear hown hob hlo hpt hch htk hy hua hyl
        go_wp2_with fail
        refine HR.out.mono ?_
        rintro e w3 hro
        obtain ⟨C, err, bd, rfl, h1, hl, hb3, he, ho⟩ := hro.agg (fun _ => rfl)
        have hl : C.length = 69 := hl
        have HL := Lib.hid hl
        have HI := Lib.hid (show (Tryz.prog.info? 87).map (·.size) = some C.length from by rw [hl]; exact size_allVote_any)
        have HI2 := Lib.hid (show (Tryz.prog.info? 87).map (fun i => (i.zero.map (fun z => z.cells.size), i.size)) = some (some C.length, C.length) from by rw [hl]; exact sizes_allVote_any)
        have H1 := Lib.hid h1
        clear h1 hl
        have HB3 := Lib.hid hb3
        have HP3 := Lib.hid (HPT.out.below hb3)
        have HO := Lib.hid (ho.or_ bk)
        clear hro hb3 ho HR
        rcases he with ⟨rfl, rfl⟩ | ⟨rfl, hcn⟩
        · skip
          go_wp2_with (first
            | (refine wpList_store_blk (cs0 := ([.int .i64 0, .int .i64 0, .int .i64 0] ++ List.replicate 32 (.int .u8 0) ++ [.int .i64 0] ++ ([.int .i64 0] ++ List.replicate 32 (.int .u8 0)) : List Value)) (cs := C) rfl 87 _ _ rfl (Blk.new w3 _ _) rfl rfl (by rw [HL.out]; rfl) HI.out H1.out ?_; intro w4 hb4 hc4; have HB4 := Lib.hid hb4; have HC4 := Lib.hid (show Chg (fun _ => False) w3 w4 from ((Chg.refl _ w3).alloc _).trans hc4 fun b h => .inr (Nat.le_of_eq h.symm)); clear hb4 hc4; have HO2 := Lib.hid (show ∀ ob, Own (w4.alloc ob) 87 69 (.slice Ao k co) k css.flatten from fun ob => own_keep HOWN.out fun b hb => (by have h1 := own_lt HOWN.out hb; have h2 := HOB.out b hb; have h3 := HB3.out.size; exact (Below.heap_alloc w4 ob b (Nat.lt_of_lt_of_le (Nat.lt_of_lt_of_le h1 h3) HC4.out.size)).trans ((HC4.out.block b (Nat.lt_of_lt_of_le h1 h3) id).trans (HB3.out.block b h1)))); have HS2 := Lib.hid (Cs.of_new w4 87 (size := 69) 1 (cs := C) (by rw [HL.out]) (by simp only [maxLen]; decide)))
            | (refine wpList_load_blk' rfl 87 _ rfl HB4.out rfl Tryz.underlying87 rfl HI.out ?_)
            | (refine wpList_row1 rfl 45 87 _ rfl Tryz.underlying45 (.agg C.toArray) rfl C rfl HI2.out (by rw [HL.out]; decide) (by rw [HL.out]; decide) ?_)
            | (at_builtin; refine wpList_app _ rfl _ _ _ rfl Tryz.underlying45 info_allVote_any rfl (by decide) (HO2.out _) rfl HS2.out rfl H1.out H63.out.1 H63.out.2 ?_; intro v6 w6 ho6 hc6 hnil6 hat6; clear hnil6; have HO6 := Lib.hid ho6; clear ho6; have HC6 := Lib.hid hc6; clear hc6; have HAT6 := Lib.hid hat6; clear hat6))
          refine ⟨⟨k + 1, by omega, by push_cast; rfl, AllI.step hgw hwS HOWN.out HOB.out HLO.out HCH.out HB3.out (by have := HO.out; rw [Bool.or_false] at this; exact this) (HC4.out.mono (M' := fun b => b = g) fun _ h => h.elim) (HP3.out.chg HC4.out fun b h => h.elim) HTK.out HO6.out HC6.out HAT6.out⟩, ?_⟩
          simp only [intOf]; omega
        · skip
          obtain ⟨gw, rfl⟩ := hcn.form
          have HCN := Lib.hid hcn; clear hcn
          go_wp2_with (refine wpList_store_blk (cs0 := ([.int .i64 0, .int .i64 0, .int .i64 0] ++ List.replicate 32 (.int .u8 0) ++ [.int .i64 0] ++ ([.int .i64 0] ++ List.replicate 32 (.int .u8 0)) : List Value)) (cs := C) rfl 87 _ _ rfl (Blk.new w3 _ _) rfl rfl (by rw [HL.out]; rfl) HI.out H1.out ?_; intro w4 hb4 hc4; have HB4 := Lib.hid hb4; have HC4 := Lib.hid (show Chg (fun _ => False) w3 w4 from ((Chg.refl _ w3).alloc _).trans hc4 fun b h => .inr (Nat.le_of_eq h.symm)); clear hb4 hc4)
          have hp4 := (HP3.out.chg HC4.out fun b h => h.elim)
          have hlx := hp4.2.2.2.1
          have hE4 := hp4.2.2.2.2.1
          have hz4 := HC4.out.size
          have hz3 := HB3.out.size
          have hal := (Below.refl w4.heap.size w4).alloc (Nat.le_refl _) (.cells #[.string ⟨#[105, 110, 32, 97, 32, 108, 105, 115, 116]⟩, .iface 113 (.pointer (some ⟨gw, 0, none⟩))] 117)
          have hcn4 := (HCN.out.to (w' := w4) (S' := fun b => ¬ (X b ∨ (Value.slice Ao k co).ownBlock = some b) ∧ E ≤ b) (fun b hb hlt => ⟨Nat.lt_of_lt_of_le hlt HC4.out.size, HC4.out.block b hlt id⟩) fun b hb hlt => ⟨fun h => h.elim (fun h => by have := HX1.out b h; omega) fun h => by have := own_lt HOWN.out h; omega, by omega⟩)
          have HBAD := Lib.hid (bad_any _ (hp4.below hal) (hcn4.freshMore _ ⟨fun h => absurd (hlx _ h) (Nat.lt_irrefl _), hE4⟩))
          clear hp4 hlx hal hcn4 hE4
          refine HBAD.out.mono ?_
          rintro e w5 ⟨rfl, hc5, hp5⟩
          have HP5 := Lib.hid hp5
          have HC35 := Lib.hid (show Chg (fun b => b = g) w3 w5 from ((HC4.out.mono (M' := fun b => b = g) fun _ h => h.elim).alloc _).trans hc5 fun b h => .inl h)
          have HB5 := Lib.hid ((HB4.out.alloc _).chg hc5 (fun h => by omega))
          clear hc5 hp5 HBAD
          have HO2 := Lib.hid (show ∀ ob, Own (w5.alloc ob) 87 69 (.slice Ao k co) k css.flatten from fun ob => own_keep HOWN.out fun b hb => (by have h1 := own_lt HOWN.out hb; have h2 := HOB.out b hb; have h3 := HB3.out.size; exact (Below.heap_alloc w5 ob b (Nat.lt_of_lt_of_le (Nat.lt_of_lt_of_le h1 h3) HC35.out.size)).trans ((HC35.out.block b (Nat.lt_of_lt_of_le h1 h3) (fun e => by omega)).trans (HB3.out.block b h1))))
          have HS2 := Lib.hid (Cs.of_new w5 87 (size := 69) 1 (cs := C) (by rw [HL.out]) (by simp only [maxLen]; decide))
          go_wp2_with (first
            | (refine wpList_load_blk' rfl 87 _ rfl HB5.out rfl Tryz.underlying87 rfl HI.out ?_)
            | (refine wpList_row1 rfl 45 87 _ rfl Tryz.underlying45 (.agg C.toArray) rfl C rfl HI2.out (by rw [HL.out]; decide) (by rw [HL.out]; decide) ?_)
            | (at_builtin; refine wpList_app _ rfl _ _ _ rfl Tryz.underlying45 info_allVote_any rfl (by decide) (HO2.out _) rfl HS2.out rfl H1.out H63.out.1 H63.out.2 ?_; intro v6 w6 ho6 hc6 hnil6 hat6; clear hnil6; have HO6 := Lib.hid ho6; clear ho6; have HC6 := Lib.hid hc6; clear hc6; have HAT6 := Lib.hid hat6; clear hat6))
          refine ⟨⟨k + 1, by omega, by push_cast; rfl, AllI.step hgw hwS HOWN.out HOB.out HLO.out HCH.out HB3.out (by have := HO.out; rw [Bool.or_true] at this; exact this) HC35.out HP5.out HTK.out HO6.out HC6.out HAT6.out⟩, ?_⟩
          simp only [intOf]; omega
      · have hk' : k = l.length := by omega
        subst hk'
        have HI := Lib.hid hI
        clear hI
        go_wp2_with fail
        go_ret
        exact HI.out.out rfl HSPL.out (fun _ => rfl) HGX.out HC2.out

end Go.Proofs.YtjjgmkfkmckkoabGreatDoor

/- Codec: a timeout read. -/
namespace Go.Proofs.YtjjgmkfkmckkoabGreatDoor
open Go.RowKit Go.Maps
attribute [-simp] Tryz.isAgg24 Tryz.typeInfo24 Tryz.isAgg91 Tryz.typeInfo91

theorem info_readTimeout : (Tryz.prog.info? 91).map (fun i => (i.zero.map (fun z => z.cells.size))) = some (some 74) := by kernel_rfl
theorem size_readTimeout : (Tryz.prog.info? 91).map (·.size) = some 74 := by kernel_rfl
theorem places_readTimeout : ((match Tryz.prog.underlying 91 with | some (.struct fields) => fields.toList.mapM (fun f => (Tryz.prog.info? f.type).map fun i => (f.offset, i.size)) | _ => none)) = some [(0, 1), (1, 1), (2, 1), (3, 37), (40, 1), (41, 33)] := by kernel_rfl
set_option maxHeartbeats 4000000 in
set_option maxRecDepth 100000 in
theorem readTimeout_any (w : World) {S : Nat → Prop} {v sent : Value} {bs : List UInt8} (h : Bs w S v bs) (hlen : bs.length ≤ 262144) (hg : Gl w sent) :
    Calls Tryz.prog 71 #[v] w (ReadOut (.tup (.cons i64 (.cons i64 (.cons i64 (.cons tQC (.cons i64 (.cons tSig .nil))))))) w sent bs) := by
  have hal := (Below.refl w.heap.size w).alloc (Nat.le_refl _) (.cells (([.int .i64 0, .int .i64 0, .int .i64 0] ++ ([.int .i64 0, .int .i64 0, .int .i64 0] ++ List.replicate 32 (.int .u8 0) ++ [.slice none 0 0, .slice none 0 0]) ++ [.int .i64 0] ++ ([.int .i64 0] ++ List.replicate 32 (.int .u8 0)) : List Value)).toArray 91)
  have HS := Lib.hid (psplit_any _ (h.below hal) (by omega) (hg.below hal) 6 (by omega) ⟨#[97, 32, 116, 105, 109, 101, 111, 117, 116]⟩)
  have HN := Lib.hid (Blk.new w 91 (([.int .i64 0, .int .i64 0, .int .i64 0] ++ ([.int .i64 0, .int .i64 0, .int .i64 0] ++ List.replicate 32 (.int .u8 0) ++ [.slice none 0 0, .slice none 0 0]) ++ [.int .i64 0] ++ ([.int .i64 0] ++ List.replicate 32 (.int .u8 0)) : List Value)).toArray)
  have HAL := Lib.hid hal
  obtain ⟨A, cap, rfl⟩ := h.form
  clear h hg hal
  go_enter Tryz.func71, Tryz.ntmps71
  go_wp2_with fail
  refine HS.out.mono ?_
  rintro e w1 ⟨g, rows, bad, rfl, hgw, hb1, hp, hn, hrl, hs⟩
  obtain ⟨r0, r1, r2, r3, r4, r5, rfl⟩ : ∃ r0 r1 r2 r3 r4 r5, rows = [r0, r1, r2, r3, r4, r5] := by
    match rows, hn with
    | [r0, r1, r2, r3, r4, r5], _ => exact ⟨r0, r1, r2, r3, r4, r5, rfl⟩
  have HK := Lib.hid (HN.out.below hb1 (by simp))
  have hgw' : w.heap.size + 1 ≤ g := by simpa using hgw
  have hz1 : w.heap.size + 1 ≤ w1.heap.size := by simpa using hb1.size
  have HB1 := Lib.hid (HAL.out.trans (hb1.mono (by simp)))
  have HSS := Lib.hid hs
  have HRL := Lib.hid (show ∀ x ∈ [r0, r1, r2, r3, r4, r5], x.length ≤ 262144 from fun x hx => Nat.le_trans (hrl x hx) hlen)
  have hE : Pt w1 (fun b => b = g) (w.heap.size + 1) g sent [r0, r1, r2, r3, r4, r5] bad := by simpa using hp
  clear HS HN HAL hgw hb1 hs hn hp hrl hlen
  have hp0 := hE
  clear hE
  go_wp2_with fail
  refine (int_any _ hp0).mono ?_
  rintro e w2 ht
  obtain ⟨y0, b0, rfl, h10, hc0, hp1, ho0⟩ := ht.one (fun _ => rfl) rfl
  have hgl0 := hp0.lt
  have hz2 := Nat.le_trans hz1 hc0.size
  have HO0 := Lib.hid ho0
  have HC0 := Lib.hid hc0
  have H10 := Lib.hid h10
  clear ht ho0 hc0 h10 hp0
  go_wp2_with fail
  refine (int_any _ hp1).mono ?_
  rintro e w3 ht
  obtain ⟨y1, b1, rfl, h11, hc1, hp2, ho1⟩ := ht.one (fun _ => rfl) rfl
  have hgl1 := hp1.lt
  have hz3 := Nat.le_trans hz2 hc1.size
  have HO1 := Lib.hid ho1
  have HC1 := Lib.hid hc1
  have H11 := Lib.hid h11
  clear ht ho1 hc1 h11 hp1
  go_wp2_with fail
  refine (n_any _ hp2).mono ?_
  rintro e w4 ht
  obtain ⟨y2, b2, rfl, h12, hc2, hp3, ho2⟩ := ht.one (fun _ => rfl) rfl
  have hgl2 := hp2.lt
  have hz4 := Nat.le_trans hz3 hc2.size
  have HO2 := Lib.hid ho2
  have HC2 := Lib.hid hc2
  have H12 := Lib.hid h12
  clear ht ho2 hc2 h12 hp2
  go_wp2_with fail
  refine (oneQC_any _ hp3 (HRL.out _ (by simp))).mono ?_
  rintro e w5 ht
  obtain ⟨c3, b3, rfl, h13, hl3, hc3, hp4, ho3⟩ := ht.agg (fun _ => rfl)
  have hl3 : c3.length = 37 := hl3
  have hgl3 := hp3.lt
  have hz5 := Nat.le_trans hz4 hc3.size
  have HO3 := Lib.hid ho3
  have HC3 := Lib.hid hc3
  have H13 := Lib.hid h13
  have HL3 := Lib.hid hl3
  clear hl3
  clear ht ho3 hc3 h13 hp3
  go_wp2_with fail
  refine (int_any _ hp4).mono ?_
  rintro e w6 ht
  obtain ⟨y4, b4, rfl, h14, hc4, hp5, ho4⟩ := ht.one (fun _ => rfl) rfl
  have hgl4 := hp4.lt
  have hz6 := Nat.le_trans hz5 hc4.size
  have HO4 := Lib.hid ho4
  have HC4 := Lib.hid hc4
  have H14 := Lib.hid h14
  clear ht ho4 hc4 h14 hp4
  go_wp2_with fail
  refine (oneSig_any _ hp5 (HRL.out _ (by simp))).mono ?_
  rintro e w7 ht
  obtain ⟨c5, b5, rfl, h15, hl5, hc5, hp6, ho5⟩ := ht.agg (fun _ => rfl)
  have hl5 : c5.length = 33 := hl5
  have hgl5 := hp5.lt
  have hz7 := Nat.le_trans hz6 hc5.size
  have HO5 := Lib.hid ho5
  have HC5 := Lib.hid hc5
  have H15 := Lib.hid h15
  have HL5 := Lib.hid hl5
  clear hl5
  clear ht ho5 hc5 h15 hp5
  have hbu := run_struct (P := Tryz.prog) (vs := [y0, y1, y2, .agg c3.toArray, y4, .agg c5.toArray]) (cs := [[y0], [y1], [y2], c3, [y4], c5]) info_readTimeout places_readTimeout ⟨cells_one H10.out, cells_one H11.out, cells_one H12.out, rfl, cells_one H14.out, rfl, trivial⟩ (by simp [PlaceOk, HL3.out, HL5.out]) (by simp [HL3.out, HL5.out]) #[(0, y0), (1, y1), (2, y2), (3, .agg c3.toArray), (4, y4), (5, .agg c5.toArray)] rfl
  have hone : ∀ v ∈ [[y0], [y1], [y2], c3, [y4], c5].flatten, v.oneCell' = true := by
    intro v hv
    simp only [List.flatten_cons, List.flatten_nil, List.mem_append, List.mem_singleton, List.not_mem_nil, or_false] at hv
    rcases hv with rfl | rfl | rfl | hv | rfl | hv
    · exact H10.out
    · exact H11.out
    · exact H12.out
    · exact H13.out v hv
    · exact H14.out
    · exact H15.out v hv
  have HOUT := Lib.hid (show Fs.Out (.cons i64 (.cons i64 (.cons i64 (.cons tQC (.cons i64 (.cons tSig .nil)))))) w7 (fun b => w.heap.size + 1 ≤ b) [r0, r1, r2, r3, r4, r5] [[y0], [y1], [y2], c3, [y4], c5].flatten bad b5 from by
    have := Fs.Out.step HO0.out (Fs.Out.step HO1.out (Fs.Out.step HO2.out (Fs.Out.step HO3.out (Fs.Out.step HO4.out (Fs.Out.step HO5.out (Fs.Out.nil_ w7 _ _) (Chg.refl _ _) hgl5 hz6) HC5.out hgl4 hz5) (HC4.out.trans HC5.out fun b h => .inl h) hgl3 hz4) ((HC3.out.trans HC4.out fun b h => .inl h).trans HC5.out fun b h => .inl h) hgl2 hz3) (((HC2.out.trans HC3.out fun b h => .inl h).trans HC4.out fun b h => .inl h).trans HC5.out fun b h => .inl h) hgl1 hz2) ((((HC1.out.trans HC2.out fun b h => .inl h).trans HC3.out fun b h => .inl h).trans HC4.out fun b h => .inl h).trans HC5.out fun b h => .inl h) hgl0 hz1
    simpa using this)
  have HCA := Lib.hid (show Chg (fun k => k = g) w1 w7 from (((((HC0.out.trans HC1.out fun b h => .inl h).trans HC2.out fun b h => .inl h).trans HC3.out fun b h => .inl h).trans HC4.out fun b h => .inl h).trans HC5.out fun b h => .inl h))
  have hcl : [[y0], [y1], [y2], c3, [y4], c5].flatten.length = 74 := by simp [HL3.out, HL5.out]
  obtain ⟨C, hC⟩ : ∃ C, C = [[y0], [y1], [y2], c3, [y4], c5].flatten := ⟨_, rfl⟩
  rw [← hC] at hbu hone hcl HOUT
  have HBU := Lib.hid hbu
  have HONE := Lib.hid hone
  have HCL := Lib.hid hcl
  have HI := Lib.hid (show (Tryz.prog.info? 91).map (·.size) = some C.length from by rw [hcl]; exact size_readTimeout)
  have HK2 := Lib.hid (HK.out.chg HCA.out (show ¬ w.heap.size = g from by omega))
  clear hbu hone hcl hC HK HO0 HC0 H10 HO1 HC1 H11 HO2 HC2 H12 HO3 HC3 H13 HO4 HC4 H14 HO5 HC5 H15 HL3 HL5
  have HP := Lib.hid hp6
  have hgX := hp6.lt
  clear hp6
  have hbu := HBU.out w7
  have HX := Lib.hid (HP.out.parts)
  go_wp2_with (first | (refine wpList_build_ rfl 91 _ rfl #[(0, y0), (1, y1), (2, y2), (3, .agg c3.toArray), (4, y4), (5, .agg c5.toArray)] (by simp [Act.eval]) _ hbu ?_) | (refine wpList_store_blk (cs0 := ([.int .i64 0, .int .i64 0, .int .i64 0] ++ ([.int .i64 0, .int .i64 0, .int .i64 0] ++ List.replicate 32 (.int .u8 0) ++ [.slice none 0 0, .slice none 0 0]) ++ [.int .i64 0] ++ ([.int .i64 0] ++ List.replicate 32 (.int .u8 0)) : List Value)) (cs := C) rfl 91 _ _ rfl (Blk.new w7 _ _) rfl rfl (by rw [HCL.out]; rfl) HI.out HONE.out ?_; intro wx hbx hcx; have HBX := Lib.hid hbx; have HCX := Lib.hid hcx; clear hbx hcx))
  obtain ⟨vy, ey, hblk, herr⟩ := HX.out
  have HCX' := Lib.hid (show Chg (fun _ => False) w7 wx from ((Chg.refl _ w7).alloc _).trans HCX.out fun b h => .inr (Nat.le_of_eq h.symm))
  have HGX := Lib.hid (hblk.chg HCX'.out id)
  have HKX := Lib.hid (HK2.out.chg HCX'.out id)
  have HE := Lib.hid herr
  clear hbu hblk herr HX HBU
  refine wp_region_hoist [0, 1, 2, 3, 4] [5] [6] (fun w' => Blk w' w7.heap.size 91 C.toArray ∧ Blk w' g 133 #[vy, ey])
    (by kernel_rfl) (by kernel_rfl) (by kernel_rfl) (by kernel_rfl) (by kernel_rfl) (by kernel_rfl) ⟨HBX.out.drew, HGX.out.drew⟩ ?_
  (refine HoistK.load (by rfl) (by kernel_rfl) 91 _ rfl w7.heap.size 0 rfl C _ (fun w' hw => hw.1.range) Tryz.underlying91 rfl HI.out ?_; simp only [Act.put, List.setIfInBounds_toArray, List.getElem_toArray, List.getElem_cons_zero, List.set_cons_succ, List.set_cons_zero])
  (refine HoistK.yes (by rfl) (by kernel_rfl) ⟨?_, fun w' hSw => ?_, ?_⟩; rotate_left; (· go_simp; try with_reducible rfl); simp only [Act.put, List.setIfInBounds_toArray, List.getElem_toArray, List.getElem_cons_succ, List.getElem_cons_zero, List.set_cons_succ, List.set_cons_zero])
  (refine HoistK.yes (by rfl) (by kernel_rfl) ⟨?_, fun w' hSw => ?_, ?_⟩; rotate_left; (· go_simp; try with_reducible rfl); simp only [Act.put, List.setIfInBounds_toArray, List.getElem_toArray, List.getElem_cons_succ, List.getElem_cons_zero, List.set_cons_succ, List.set_cons_zero])
  (refine HoistK.yes (by rfl) (by kernel_rfl) ⟨?_, fun w' hSw => ?_, ?_⟩; rotate_left; (· go_simp; try with_reducible rfl); simp only [Act.put, List.setIfInBounds_toArray, List.getElem_toArray, List.getElem_cons_succ, List.getElem_cons_zero, List.set_cons_succ, List.set_cons_zero])
  (refine HoistK.yes (by rfl) (by kernel_rfl) ⟨?_, fun w' hSw => ?_, ?_⟩; rotate_left; (· have hcc := hSw.2.cell; go_simp; try with_reducible rfl); simp only [Act.put, List.setIfInBounds_toArray, List.getElem_toArray, List.getElem_cons_succ, List.getElem_cons_zero, List.set_cons_succ, List.set_cons_zero])
  refine HoistK.nil_ ?_
  simp only [opsAt, List.filterMap_cons, List.filterMap_nil, List.getElem?_toArray, List.getElem?_cons_succ, List.getElem?_cons_zero]
  refine Effects.cons_ fun _ hQ1 => ?_
  go_wp2_with (refine wpList_store_blk (cs0 := ([.int .i64 0, .int .i64 0, .int .i64 0] ++ ([.int .i64 0, .int .i64 0, .int .i64 0] ++ List.replicate 32 (.int .u8 0) ++ [.slice none 0 0, .slice none 0 0]) ++ [.int .i64 0] ++ ([.int .i64 0] ++ List.replicate 32 (.int .u8 0)) : List Value)) (cs := C) rfl 91 _ _ rfl HKX.out.drew rfl rfl (by rw [HCL.out]; rfl) HI.out HONE.out ?_; intro wy hby hcy; have HBY := Lib.hid hby; have HCY := Lib.hid hcy; clear hby hcy)
  refine hQ1 _ _ ⟨HBX.out.drew.chg HCY.out (fun h => by omega), HGX.out.drew.chg HCY.out (fun h => by omega)⟩ (Effects.nil_ fun _ hQ2 => ?_)
  go_wp2
  have hld := run_loadVar_mid (P := Tryz.prog) wy w.heap.size 0 91 C _ HBY.out.range Tryz.underlying91 rfl HI.out
  refine bodyPost_ret (v := .tuple #[.agg C.toArray, ey]) (by simp [results, Tryz.results71, asAddr, hld]) rfl ?_
  have hcf : Chg (fun b => b = w.heap.size) w7 wy := ((HCX'.out.mono fun _ h => h.elim).drew).trans HCY.out fun b h => .inl h
  exact ReadOut.mk (n := 6) HOUT.out HSS.out rfl HE.out (HB1.out.trans (HCA.out.below HB1.out.size fun b h => by omega)) hcf

end Go.Proofs.YtjjgmkfkmckkoabGreatDoor

/- Codec: all[Timeout]. -/
namespace Go.Proofs.YtjjgmkfkmckkoabGreatDoor
open Go.RowKit Go.Maps
attribute [-simp] Tryz.isAgg24 Tryz.typeInfo24 Tryz.isAgg91 Tryz.typeInfo91

theorem size_allTimeout_any : (Tryz.prog.info? 91).map (·.size) = some 74 := by kernel_rfl
theorem sizes_allTimeout_any : (Tryz.prog.info? 91).map (fun i => (i.zero.map (fun z => z.cells.size), i.size)) = some (some 74, 74) := by kernel_rfl
theorem info_allTimeout_any : (Tryz.prog.info? 91).map (fun i => (i.zero, i.size, i.bytes)) = some (some (.agg (([.int .i64 0, .int .i64 0, .int .i64 0] ++ ([.int .i64 0, .int .i64 0, .int .i64 0] ++ List.replicate 32 (.int .u8 0) ++ [.slice none 0 0, .slice none 0 0]) ++ [.int .i64 0] ++ ([.int .i64 0] ++ List.replicate 32 (.int .u8 0)) : List Value)).toArray), 74, 176) := by kernel_rfl
set_option maxHeartbeats 8000000 in
set_option maxRecDepth 100000 in
theorem allTimeout_any (w : World) {X : Nat → Prop} {E g : Nat} {sent : Value} {x : List UInt8} {rows : List (List UInt8)} {bad : Bool} (h : Pt w X E g sent (x :: rows) bad) (hxl : x.length ≤ 262144) :
    Calls Tryz.prog 70 #[.pointer (some ⟨g, 0, none⟩), .func (Fn.func 71) #[] #[]] w (Took (.list tTimeout) w X E g sent x rows bad) := by
  have hgx := h.2.2.1
  have hgw := h.lt
  have hEw := h.2.2.2.2.1
  have HGX := Lib.hid hgx
  have HX1 := Lib.hid (show ∀ b, X b → b < w.heap.size from h.2.2.2.1)
  have H := Lib.hid (next_any _ h)
  clear h hgx
  go_enter Tryz.func70, Tryz.ntmps70
  go_wp2_with fail
  refine H.out.mono ?_
  rintro e w1 ⟨v1, rfl, hb1, hc1, hp1⟩
  have HSP := Lib.hid (split_any w1 hb1 (by omega))
  have hz1 := hc1.size
  have HP1 := Lib.hid hp1
  have HC1 := Lib.hid hc1
  obtain ⟨A1, c1, rfl⟩ := hb1.form
  clear hb1 hp1 hc1 H
  go_wp2_with fail
  refine HSP.out.mono ?_
  rintro e w2 ⟨hb2, ⟨hno, rfl⟩ | ⟨v2, l, hsp, rfl, hbss⟩⟩
  · have HNO := Lib.hid hno; clear hno
    have hp2 := HP1.out.below hb2
    obtain ⟨⟨sa, rfl⟩, hgl⟩ := hp2.1
    have hgl : w2.cell? ⟨gF, 0, none⟩ = some _ := hgl
    unfold gF at hgl
    have hlx := hp2.2.2.2.1
    have hE2 := hp2.2.2.2.2.1
    have hal := (Below.refl w2.heap.size w2).alloc (Nat.le_refl _) (.cells #[.string ⟨#[97, 32, 108, 105, 115, 116]⟩, .iface 205 (.pointer (some sa))] 117)
    have HBAD := Lib.hid (bad_any _ (hp2.below hal) (Chain.fresh _ ⟨fun h => absurd (hlx _ h) (Nat.lt_irrefl _), hE2⟩))
    have HC2 := Lib.hid (HC1.out.trans (Chg.of_below hb2 fun k => k = g) fun b h => .inl h)
    clear hp2 hlx hal hE2 hb2 HP1 HC1 HSP
    go_wp2_with fail
    refine HBAD.out.mono ?_
    rintro e w3 ⟨rfl, hc3, hp3⟩
    have HP3 := Lib.hid hp3
    have HC3 := Lib.hid hc3
    clear hp3 hc3 HBAD
    go_wp2_with fail
    refine wp_loop_rounds 1 ?_
    rw [rounds_succ]
    go_wp2
    go_ret
    exact ⟨[.slice none 0 0], true, rfl, (HC2.out.alloc _).trans HC3.out fun b h => .inl h, HP3.out, SOut.noList HNO.out rfl⟩
  · have hrl : ∀ y ∈ l, y.length ≤ 262144 := fun y hy => Nat.le_trans (joinP_mem_le hsp y hy) hxl
    have hll : l.length ≤ 32768 := by
      have h1 := splitB_back hsp
      have h2 := joinP_count l
      rw [← h1, joinB_length] at hxl
      omega
    obtain ⟨A2, c2, rfl⟩ := hbss.form
    have HROWS := Lib.hid (((hbss.read fun y hy => by have := hrl y hy; omega).lt_ (T := fun b => w1.heap.size ≤ b) fun b h => h.elim id id).subs (T := fun b => b ≠ g) fun b hb _ => by have := hb.1; omega)
    have HP2 := Lib.hid (HP1.out.below hb2)
    have HC2 := Lib.hid (HC1.out.trans (Chg.of_below hb2 fun k => k = g) fun b h => .inl h)
    have HSPL := Lib.hid hsp
    have HRL := Lib.hid hrl
    have hwS : w.heap.size ≤ w2.heap.size := Nat.le_trans hz1 hb2.size
    clear hbss hsp hrl hb2 HP1 HC1 HSP hxl
    go_wp2_with fail
    go_loopw [7, 28] (fun o i wr => ∃ k : Nat, k ≤ l.length ∧ i = .int .i64 k ∧ AllI 91 74 tTimeout w w2 X E g sent rows bad l o k wr) (fun _ i _ => l.length - (intOf i).toNat)
    case atStart => exact ⟨0, Nat.zero_le _, rfl, AllI.start HP2.out⟩
    case round =>
      obtain ⟨k, hk, rfl, hI⟩ := hrel
      by_cases hlt : k < l.length
      · obtain ⟨css, bk, hown, hob, hlo, hpt, hch⟩ := hI
        obtain ⟨ba, oa, ua, rfl, hca, hua, _, hSb⟩ := (HROWS.out.chg hch (fun b hb h => hb h)).at_ hlt
        have htk : l.take (k + 1) = l.take k ++ [l[k]] := List.take_succ_eq_append_getElem hlt
        have hyl := HRL.out l[k] (List.getElem_mem hlt)
        obtain ⟨y, hy⟩ : ∃ y, y = l[k] := ⟨_, rfl⟩
        rw [← hy] at hua htk hyl
        have HR := Lib.hid (readTimeout_any wr hua hyl hpt.1)
        obtain ⟨Ay, cy, rfl⟩ := hua.form
        obtain ⟨Ao, co, rfl⟩ := hown.form
        have HOWN := Lib.hid hown
        have HOB := Lib.hid hob
        have HLO := Lib.hid hlo
        have HPT := Lib.hid hpt
        have HCH := Lib.hid hch
        have HTK := Lib.hid htk
        have H63 := Lib.hid (show k + 1 ≤ maxLen ∧ (k + 1) * 176 ≤ 140737488355328 from ⟨by simp only [maxLen]; omega, by omega⟩)
        have hzr := hch.size
        clear hown hob hlo hpt hch htk hy hua hyl
        go_wp2_with fail
        refine HR.out.mono ?_
        rintro e w3 hro
        obtain ⟨C, err, bd, rfl, h1, hl, hb3, he, ho⟩ := hro.agg (fun _ => rfl)
        have hl : C.length = 74 := hl
        have HL := Lib.hid hl
        have HI := Lib.hid (show (Tryz.prog.info? 91).map (·.size) = some C.length from by rw [hl]; exact size_allTimeout_any)
        have HI2 := Lib.hid (show (Tryz.prog.info? 91).map (fun i => (i.zero.map (fun z => z.cells.size), i.size)) = some (some C.length, C.length) from by rw [hl]; exact sizes_allTimeout_any)
        have H1 := Lib.hid h1
        clear h1 hl
        have HB3 := Lib.hid hb3
        have HP3 := Lib.hid (HPT.out.below hb3)
        have HO := Lib.hid (ho.or_ bk)
        clear hro hb3 ho HR
        rcases he with ⟨rfl, rfl⟩ | ⟨rfl, hcn⟩
        · skip
          go_wp2_with (first
            | (refine wpList_store_blk (cs0 := ([.int .i64 0, .int .i64 0, .int .i64 0] ++ ([.int .i64 0, .int .i64 0, .int .i64 0] ++ List.replicate 32 (.int .u8 0) ++ [.slice none 0 0, .slice none 0 0]) ++ [.int .i64 0] ++ ([.int .i64 0] ++ List.replicate 32 (.int .u8 0)) : List Value)) (cs := C) rfl 91 _ _ rfl (Blk.new w3 _ _) rfl rfl (by rw [HL.out]; rfl) HI.out H1.out ?_; intro w4 hb4 hc4; have HB4 := Lib.hid hb4; have HC4 := Lib.hid (show Chg (fun _ => False) w3 w4 from ((Chg.refl _ w3).alloc _).trans hc4 fun b h => .inr (Nat.le_of_eq h.symm)); clear hb4 hc4; have HO2 := Lib.hid (show ∀ ob, Own (w4.alloc ob) 91 74 (.slice Ao k co) k css.flatten from fun ob => own_keep HOWN.out fun b hb => (by have h1 := own_lt HOWN.out hb; have h2 := HOB.out b hb; have h3 := HB3.out.size; exact (Below.heap_alloc w4 ob b (Nat.lt_of_lt_of_le (Nat.lt_of_lt_of_le h1 h3) HC4.out.size)).trans ((HC4.out.block b (Nat.lt_of_lt_of_le h1 h3) id).trans (HB3.out.block b h1)))); have HS2 := Lib.hid (Cs.of_new w4 91 (size := 74) 1 (cs := C) (by rw [HL.out]) (by simp only [maxLen]; decide)))
            | (refine wpList_load_blk' rfl 91 _ rfl HB4.out rfl Tryz.underlying91 rfl HI.out ?_)
            | (refine wpList_row1 rfl 46 91 _ rfl Tryz.underlying46 (.agg C.toArray) rfl C rfl HI2.out (by rw [HL.out]; decide) (by rw [HL.out]; decide) ?_)
            | (at_builtin; refine wpList_app _ rfl _ _ _ rfl Tryz.underlying46 info_allTimeout_any rfl (by decide) (HO2.out _) rfl HS2.out rfl H1.out H63.out.1 H63.out.2 ?_; intro v6 w6 ho6 hc6 hnil6 hat6; clear hnil6; have HO6 := Lib.hid ho6; clear ho6; have HC6 := Lib.hid hc6; clear hc6; have HAT6 := Lib.hid hat6; clear hat6))
          refine ⟨⟨k + 1, by omega, by push_cast; rfl, AllI.step hgw hwS HOWN.out HOB.out HLO.out HCH.out HB3.out (by have := HO.out; rw [Bool.or_false] at this; exact this) (HC4.out.mono (M' := fun b => b = g) fun _ h => h.elim) (HP3.out.chg HC4.out fun b h => h.elim) HTK.out HO6.out HC6.out HAT6.out⟩, ?_⟩
          simp only [intOf]; omega
        · skip
          obtain ⟨gw, rfl⟩ := hcn.form
          have HCN := Lib.hid hcn; clear hcn
          go_wp2_with (refine wpList_store_blk (cs0 := ([.int .i64 0, .int .i64 0, .int .i64 0] ++ ([.int .i64 0, .int .i64 0, .int .i64 0] ++ List.replicate 32 (.int .u8 0) ++ [.slice none 0 0, .slice none 0 0]) ++ [.int .i64 0] ++ ([.int .i64 0] ++ List.replicate 32 (.int .u8 0)) : List Value)) (cs := C) rfl 91 _ _ rfl (Blk.new w3 _ _) rfl rfl (by rw [HL.out]; rfl) HI.out H1.out ?_; intro w4 hb4 hc4; have HB4 := Lib.hid hb4; have HC4 := Lib.hid (show Chg (fun _ => False) w3 w4 from ((Chg.refl _ w3).alloc _).trans hc4 fun b h => .inr (Nat.le_of_eq h.symm)); clear hb4 hc4)
          have hp4 := (HP3.out.chg HC4.out fun b h => h.elim)
          have hlx := hp4.2.2.2.1
          have hE4 := hp4.2.2.2.2.1
          have hz4 := HC4.out.size
          have hz3 := HB3.out.size
          have hal := (Below.refl w4.heap.size w4).alloc (Nat.le_refl _) (.cells #[.string ⟨#[105, 110, 32, 97, 32, 108, 105, 115, 116]⟩, .iface 113 (.pointer (some ⟨gw, 0, none⟩))] 117)
          have hcn4 := (HCN.out.to (w' := w4) (S' := fun b => ¬ (X b ∨ (Value.slice Ao k co).ownBlock = some b) ∧ E ≤ b) (fun b hb hlt => ⟨Nat.lt_of_lt_of_le hlt HC4.out.size, HC4.out.block b hlt id⟩) fun b hb hlt => ⟨fun h => h.elim (fun h => by have := HX1.out b h; omega) fun h => by have := own_lt HOWN.out h; omega, by omega⟩)
          have HBAD := Lib.hid (bad_any _ (hp4.below hal) (hcn4.freshMore _ ⟨fun h => absurd (hlx _ h) (Nat.lt_irrefl _), hE4⟩))
          clear hp4 hlx hal hcn4 hE4
          refine HBAD.out.mono ?_
          rintro e w5 ⟨rfl, hc5, hp5⟩
          have HP5 := Lib.hid hp5
          have HC35 := Lib.hid (show Chg (fun b => b = g) w3 w5 from ((HC4.out.mono (M' := fun b => b = g) fun _ h => h.elim).alloc _).trans hc5 fun b h => .inl h)
          have HB5 := Lib.hid ((HB4.out.alloc _).chg hc5 (fun h => by omega))
          clear hc5 hp5 HBAD
          have HO2 := Lib.hid (show ∀ ob, Own (w5.alloc ob) 91 74 (.slice Ao k co) k css.flatten from fun ob => own_keep HOWN.out fun b hb => (by have h1 := own_lt HOWN.out hb; have h2 := HOB.out b hb; have h3 := HB3.out.size; exact (Below.heap_alloc w5 ob b (Nat.lt_of_lt_of_le (Nat.lt_of_lt_of_le h1 h3) HC35.out.size)).trans ((HC35.out.block b (Nat.lt_of_lt_of_le h1 h3) (fun e => by omega)).trans (HB3.out.block b h1))))
          have HS2 := Lib.hid (Cs.of_new w5 91 (size := 74) 1 (cs := C) (by rw [HL.out]) (by simp only [maxLen]; decide))
          go_wp2_with (first
            | (refine wpList_load_blk' rfl 91 _ rfl HB5.out rfl Tryz.underlying91 rfl HI.out ?_)
            | (refine wpList_row1 rfl 46 91 _ rfl Tryz.underlying46 (.agg C.toArray) rfl C rfl HI2.out (by rw [HL.out]; decide) (by rw [HL.out]; decide) ?_)
            | (at_builtin; refine wpList_app _ rfl _ _ _ rfl Tryz.underlying46 info_allTimeout_any rfl (by decide) (HO2.out _) rfl HS2.out rfl H1.out H63.out.1 H63.out.2 ?_; intro v6 w6 ho6 hc6 hnil6 hat6; clear hnil6; have HO6 := Lib.hid ho6; clear ho6; have HC6 := Lib.hid hc6; clear hc6; have HAT6 := Lib.hid hat6; clear hat6))
          refine ⟨⟨k + 1, by omega, by push_cast; rfl, AllI.step hgw hwS HOWN.out HOB.out HLO.out HCH.out HB3.out (by have := HO.out; rw [Bool.or_true] at this; exact this) HC35.out HP5.out HTK.out HO6.out HC6.out HAT6.out⟩, ?_⟩
          simp only [intOf]; omega
      · have hk' : k = l.length := by omega
        subst hk'
        have HI := Lib.hid hI
        clear hI
        go_wp2_with fail
        go_ret
        exact HI.out.out rfl HSPL.out (fun _ => rfl) HGX.out HC2.out

end Go.Proofs.YtjjgmkfkmckkoabGreatDoor
