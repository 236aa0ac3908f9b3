/- Texts joined: CdK CdM CrI. -/
import Derived.Test.YtjjgmkfkmckkoaaDoorMa
import Derived.Test.YtjjgmkfkmckkoaaDoorMd
/- Codec: a truth value's byte. -/
namespace Go.Proofs.YtjjgmkfkmckkoaaDoor
open Go.RowKit Go.Maps

theorem truth_any (w : World) (b : Bool) : Calls Tryd.prog 77 #[.bool b] w fun e w' => ∃ v', e = .returned v' ∧ Fresh w w' v' (truthB b) := by
  have hn : ∀ x : UInt8, Bs (w.alloc (.cells #[.int .u8 x.toNat] 5)) (fun b => b = w.heap.size) (.slice (some ⟨w.heap.size, 0, none⟩) 1 1) [x] := fun x => Bs.of_new w 5 [x] (by simp) (0, 0)
  have HN := Lib.hid hn; clear hn
  have hbl : ∀ o : Obj, Below w.heap.size w (w.alloc o) := fun o => (Below.refl _ w).alloc (Nat.le_refl _) o
  cases b
  · go_enter Tryd.func77, Tryd.ntmps77
    go_wp2
    go_ret
    exact ⟨_, rfl, (HN.out 0).sub (fun b hb _ => ⟨Nat.le_of_eq hb.symm, by subst hb; exact ⟨_, _, Blk.new w _ _⟩⟩), hbl _⟩
  · go_enter Tryd.func77, Tryd.ntmps77
    go_wp2
    go_ret
    exact ⟨_, rfl, (HN.out 1).sub (fun b hb _ => ⟨Nat.le_of_eq hb.symm, by subst hb; exact ⟨_, _, Blk.new w _ _⟩⟩), hbl _⟩

end Go.Proofs.YtjjgmkfkmckkoaaDoor

/- Codec: a fact. -/
namespace Go.Proofs.YtjjgmkfkmckkoaaDoor
open Go.RowKit Go.Maps
attribute [-simp] Tryd.isAgg23 Tryd.typeInfo23 Tryd.isAgg46 Tryd.typeInfo46

set_option maxHeartbeats 4000000 in
set_option maxRecDepth 100000 in
theorem fact_any (w : World) {S : Nat → Prop} {x : tFact.El} {cs : List Value} (h : tFact.rep w S x cs) (hl : (tFact.enc x).length ≤ 1099511627776) :
    Calls Tryd.prog 50 #[.agg cs.toArray] w fun e w' => ∃ v', e = .returned v' ∧ Fresh w w' v' (tFact.enc x) := by
  obtain ⟨x0, x1, x2, x3, x4, _⟩ := x
  obtain ⟨c0, _, rfl, r0, c1, _, rfl, ⟨rfl, l1⟩, c2, _, rfl, ⟨y2, rfl, r2⟩, c3, _, rfl, rfl, c4, _, rfl, ⟨y4, rfl, r4⟩, rfl⟩ := h
  have l0 : c0.length = 38 := Sh.rep_size _ _ _ r0
  obtain ⟨y0, hy0⟩ : ∃ y, y = c0 := ⟨_, rfl⟩
  subst hy0
  have R0 := Lib.hid r0; clear r0
  have R2 := Lib.hid r2; clear r2
  have R4 := Lib.hid r4; clear r4
  obtain ⟨C, hC⟩ : ∃ C, C = y0 ++ (u8s x1 ++ ([y2] ++ ([Value.bool x3] ++ ([y4] ++ ([]))))) := ⟨_, rfl⟩
  rw [← hC]
  have hf : ∀ w', Blk w' w.heap.size 60 C.toArray → w'.rangeAt w.heap.size 0 y0 ∧ w'.rangeAt w.heap.size 38 (u8s x1) ∧ w'.cell? ⟨w.heap.size, 70, none⟩ = some y2 ∧ w'.cell? ⟨w.heap.size, 71, none⟩ = some (.bool x3) ∧ w'.cell? ⟨w.heap.size, 72, none⟩ = some y4 := fun w' hb => by
    have := hb.lies [y0, u8s x1, [y2], [Value.bool x3], [y4]] [] (by rw [hC]; simp)
    simp only [Lies, u8s_length, l0, l1, List.length_cons, List.length_nil] at this
    obtain ⟨s0, s1, s2, s3, s4, _⟩ := this
    exact ⟨s0, s1, Lies.one s2, Lies.one s3, Lies.one s4⟩
  have HF := Lib.hid hf
  clear hf hC
  have hrows : tFact.enc (x0, x1, x2, x3, x4, ()) = joinB [tCommit.enc x0, x1, x2, truthB x3, x4] := rfl
  have hl' : (joinB [tCommit.enc x0, x1, x2, truthB x3, x4]).length ≤ 1099511627776 := hl
  have HLL := Lib.hid hl'
  clear hl hl'
  go_enter Tryd.func50, Tryd.ntmps50
  go_wp2_with fail
  have hsz : w.heap.size < w.heap.size + 1 := by omega
  refine wp_region_hoist [0, 1, 3, 4, 6, 7, 8, 9, 11, 12] [2, 5, 10] [13, 14, 15] (fun w' => Blk w' w.heap.size 60 C.toArray)
    (by kernel_rfl) (by kernel_rfl) (by kernel_rfl) (by kernel_rfl) (by kernel_rfl) (by kernel_rfl) (Blk.new w _ _).drew ?_
  (refine HoistK.yes (by rfl) (by kernel_rfl) ⟨?_, fun w' hSw => ?_, ?_⟩; rotate_left; (· go_simp; try with_reducible rfl); simp only [Act.put, List.setIfInBounds_toArray, List.getElem_toArray, List.getElem_cons_zero, List.set_cons_succ, List.set_cons_zero])
  (refine HoistK.load (by rfl) (by kernel_rfl) 46 _ rfl w.heap.size 0 rfl (y0) _ (fun w' hw => (HF.out w' hw).1) Tryd.underlying46 rfl (by rw [l0]; kernel_rfl) ?_; simp only [Act.put, List.setIfInBounds_toArray, List.getElem_toArray, List.getElem_cons_succ, List.getElem_cons_zero, List.set_cons_succ, List.set_cons_zero])
  (refine HoistK.yes (by rfl) (by kernel_rfl) ⟨?_, fun w' hSw => ?_, ?_⟩; rotate_left; (· go_simp; try with_reducible rfl); simp only [Act.put, List.setIfInBounds_toArray, List.getElem_toArray, List.getElem_cons_succ, List.getElem_cons_zero, List.set_cons_succ, List.set_cons_zero])
  (refine HoistK.load (by rfl) (by kernel_rfl) 23 _ rfl w.heap.size 38 rfl (u8s x1) _ (fun w' hw => (HF.out w' hw).2.1) Tryd.underlying23 rfl (by rw [u8s_length, l1]; kernel_rfl) ?_; simp only [Act.put, List.setIfInBounds_toArray, List.getElem_toArray, List.getElem_cons_succ, List.getElem_cons_zero, List.set_cons_succ, List.set_cons_zero])
  (refine HoistK.yes (by rfl) (by kernel_rfl) ⟨?_, fun w' hSw => ?_, ?_⟩; rotate_left; (· go_simp; try with_reducible rfl); simp only [Act.put, List.setIfInBounds_toArray, List.getElem_toArray, List.getElem_cons_succ, List.getElem_cons_zero, List.set_cons_succ, List.set_cons_zero])
  (refine HoistK.yes (by rfl) (by kernel_rfl) ⟨?_, fun w' hSw => ?_, ?_⟩; rotate_left; (· obtain ⟨s0, s1, s2, s3, s4⟩ := HF.out _ hSw; go_simp; try with_reducible rfl); simp only [Act.put, List.setIfInBounds_toArray, List.getElem_toArray, List.getElem_cons_succ, List.getElem_cons_zero, List.set_cons_succ, List.set_cons_zero])
  (refine HoistK.yes (by rfl) (by kernel_rfl) ⟨?_, fun w' hSw => ?_, ?_⟩; rotate_left; (· go_simp; try with_reducible rfl); simp only [Act.put, List.setIfInBounds_toArray, List.getElem_toArray, List.getElem_cons_succ, List.getElem_cons_zero, List.set_cons_succ, List.set_cons_zero])
  (refine HoistK.yes (by rfl) (by kernel_rfl) ⟨?_, fun w' hSw => ?_, ?_⟩; rotate_left; (· obtain ⟨s0, s1, s2, s3, s4⟩ := HF.out _ hSw; go_simp; try with_reducible rfl); simp only [Act.put, List.setIfInBounds_toArray, List.getElem_toArray, List.getElem_cons_succ, List.getElem_cons_zero, List.set_cons_succ, List.set_cons_zero])
  (refine HoistK.yes (by rfl) (by kernel_rfl) ⟨?_, fun w' hSw => ?_, ?_⟩; rotate_left; (· go_simp; try with_reducible rfl); simp only [Act.put, List.setIfInBounds_toArray, List.getElem_toArray, List.getElem_cons_succ, List.getElem_cons_zero, List.set_cons_succ, List.set_cons_zero])
  (refine HoistK.yes (by rfl) (by kernel_rfl) ⟨?_, fun w' hSw => ?_, ?_⟩; rotate_left; (· obtain ⟨s0, s1, s2, s3, s4⟩ := HF.out _ hSw; go_simp; try with_reducible rfl); simp only [Act.put, List.setIfInBounds_toArray, List.getElem_toArray, List.getElem_cons_succ, List.getElem_cons_zero, List.set_cons_succ, List.set_cons_zero])
  refine HoistK.nil_ ?_
  simp only [opsAt, List.filterMap_cons, List.filterMap_nil, List.getElem?_toArray, List.getElem?_cons_succ, List.getElem?_cons_zero]
  have hb0 : Blk (w.alloc (.cells C.toArray 60)).drew w.heap.size 60 C.toArray := (Blk.new w _ _).drew
  have g0 : Got w (w.alloc (.cells C.toArray 60)).drew [] [] := Got.start ((Below.refl _ w).alloc (Nat.le_refl _) _).drew
  refine Effects.cons_ fun _ hQ1 => ?_
  go_wp2_with fail
  refine (commit_any _ (Sh.rep_below R0.out g0.1) (by have h1 := HLL.out; rw [joinB_length] at h1; have h2 := joinP_mem (l := [tCommit.enc x0, x1, x2, truthB x3, x4]) (x := tCommit.enc x0) (by simp); omega)).mono ?_
  rintro e w1 ⟨v1, rfl, f1⟩
  have g1 := g0.step f1
  have hb1 := hb0.below f1.2 hb0.lt
  clear f1
  go_wp2_with fail
  refine hQ1 _ _ hb1 (Effects.cons_ fun _ hQ2 => ?_)
  clear hQ1 hb0 g0
  go_wp2_with fail
  refine (digest_any _ _ l1).mono ?_
  rintro e w2 ⟨v2, rfl, f2⟩
  have g2 := g1.step f2
  have hb2 := hb1.below f2.2 hb1.lt
  clear f2
  go_wp2_with fail
  refine hQ2 _ _ hb2 (Effects.cons_ fun _ hQ3 => ?_)
  clear hQ2 hb1 g1
  have g3 := g2.old R2.out
  clear g2
  go_wp2_with fail
  refine (truth_any _ _).mono ?_
  rintro e w3 ⟨v4, rfl, f3⟩
  have g4 := g3.step f3
  have hb3 := hb2.below f3.2 hb2.lt
  clear f3
  go_wp2_with fail
  refine hQ3 _ _ hb3 (Effects.nil_ fun _ hQ4 => ?_)
  clear hQ3 hb2 g3
  have g5 := g4.old R4.out
  clear g4
  have hcs : ∀ v ∈ [v1, v2, y2, v4, y4], v.cells = #[v] := fun v hv => by
    obtain ⟨i, hi, rfl⟩ := List.getElem_of_mem hv
    obtain ⟨y, _, hr⟩ := g5.2.get i hi
    obtain ⟨A, c, e⟩ := hr.form
    have e' : [v1, v2, y2, v4, y4][i] = .slice A y.length c := e
    rw [e']; rfl
  refine wpList_rows rfl 5 _ rfl [v1, v2, y2, v4, y4] rfl (by decide) (by decide) hcs (by simp [Act.eval]) ?_
  have hr : Bsr (w3.alloc (.cells [v1, v2, y2, v4, y4].toArray 28)) (fun b => b < w3.heap.size + 1) (.slice (some ⟨w3.heap.size, 0, none⟩) 5 5) [tCommit.enc x0, x1, x2, truthB x3, x4] := g5.row (by simp [maxLen]) 28
  have hj := join_any _ hr (by have := HLL.out; omega) (fun b hb => by simpa using hb)
  have hbb : Below w.heap.size w (w3.alloc (.cells [v1, v2, y2, v4, y4].toArray 28)) := g5.1.alloc g5.1.size _
  have HJ := Lib.hid hj
  have HBB := Lib.hid hbb
  clear hj hbb hr g5 hcs
  go_wp2_with fail
  refine HJ.out.mono ?_
  rintro e w4 ⟨v6, rfl, f4⟩
  go_wp2_with fail
  go_ret
  exact ⟨v6, rfl, f4.1.sub fun b hb _ => ⟨Nat.le_trans HBB.out.size hb.1, hb.2⟩, HBB.out.trans (f4.2.mono HBB.out.size)⟩

end Go.Proofs.YtjjgmkfkmckkoaaDoor

/- Codec: reference: a fact. -/
namespace Go.Proofs.YtjjgmkfkmckkoaaDoor
open Go.RowKit Go.Maps
attribute [-simp] Tryd.isAgg23 Tryd.typeInfo23 Tryd.isAgg46 Tryd.typeInfo46

set_option maxHeartbeats 8000000 in
set_option maxRecDepth 100000 in
theorem rFact_any (w : World) {S : Nat → Prop} {x : tFact.El} {cs : List Value} (h : tFact.rep w S x cs) (hl : (tFact.enc x).length ≤ 1099511627776) :
    Calls Tryd.prog 51 #[.agg cs.toArray] w fun e w' => ∃ v', e = .returned v' ∧ Fresh w w' v' (tFact.enc x) := by
  obtain ⟨x0, x1, x2, x3, x4, _⟩ := x
  obtain ⟨c0, _, rfl, r0, c1, _, rfl, ⟨rfl, l1⟩, c2, _, rfl, ⟨y2, rfl, r2⟩, c3, _, rfl, rfl, c4, _, rfl, ⟨y4, rfl, r4⟩, rfl⟩ := h
  have l0 : c0.length = 38 := Sh.rep_size _ _ _ r0
  obtain ⟨y0, hy0⟩ : ∃ y, y = c0 := ⟨_, rfl⟩
  subst hy0
  have R0 := Lib.hid r0; clear r0
  have R2 := Lib.hid r2; clear r2
  have R4 := Lib.hid r4; clear r4
  obtain ⟨C, hC⟩ : ∃ C, C = y0 ++ (u8s x1 ++ ([y2] ++ ([Value.bool x3] ++ ([y4] ++ ([]))))) := ⟨_, rfl⟩
  rw [← hC]
  have hf : ∀ w', Blk w' w.heap.size 60 C.toArray → w'.rangeAt w.heap.size 0 y0 ∧ w'.rangeAt w.heap.size 38 (u8s x1) ∧ w'.cell? ⟨w.heap.size, 70, none⟩ = some y2 ∧ w'.cell? ⟨w.heap.size, 71, none⟩ = some (.bool x3) ∧ w'.cell? ⟨w.heap.size, 72, none⟩ = some y4 := fun w' hb => by
    have := hb.lies [y0, u8s x1, [y2], [Value.bool x3], [y4]] [] (by rw [hC]; simp)
    simp only [Lies, u8s_length, l0, l1, List.length_cons, List.length_nil] at this
    obtain ⟨s0, s1, s2, s3, s4, _⟩ := this
    exact ⟨s0, s1, Lies.one s2, Lies.one s3, Lies.one s4⟩
  have HF := Lib.hid hf
  clear hf hC
  have L0 := Lib.hid l0; clear l0
  have L1 := Lib.hid l1; clear l1
  have hl' : (joinB [tCommit.enc x0, x1, x2, truthB x3, x4]).length ≤ 1099511627776 := hl
  have HLL := Lib.hid hl'
  clear hl hl'
  go_enter Tryd.func51, Tryd.ntmps51
  have hbe := (Below.refl w.heap.size w).alloc (Nat.le_refl _) (.cells C.toArray 60)
  have hbx := Blk.new w 60 C.toArray
  have hbool := (HF.out _ hbx).2.2.2.1
  rw [hbx.cell] at hbool
  have hbool : C[71]? = some (.bool x3) := by simpa using hbool
  have HBE := Lib.hid hbe
  have HBX := Lib.hid hbx
  have hn2 : ∀ y : UInt8, Bs ((w.alloc (.cells C.toArray 60)).alloc (.cells #[.int .u8 y.toNat] 5)) (fun b => b = w.heap.size + 1) (.slice (some ⟨w.heap.size + 1, 0, none⟩) 1 1) [y] := fun y => by
    have := Bs.of_new (w.alloc (.cells C.toArray 60)) 5 [y] (by simp) (0, 0)
    rwa [show (w.alloc (.cells C.toArray 60)).heap.size = w.heap.size + 1 by simp] at this
  have HN2 := Lib.hid hn2
  clear hbe hbx hn2
  cases x3
  · go_wp2_with fail
    have hbw2 : Below w.heap.size w ((w.alloc (.cells C.toArray 60)).alloc (.cells #[.int .u8 0] 5)) := HBE.out.alloc (by simp) _
    have HB3 := Lib.hid (show Bs ((w.alloc (.cells C.toArray 60)).alloc (.cells #[.int .u8 0] 5)).drew (fun b => b = w.heap.size + 1) (.slice (some ⟨w.heap.size + 1, 0, none⟩) 1 1) (truthB false) from HN2.out 0)
    have hbox2 : Blk ((w.alloc (.cells C.toArray 60)).alloc (.cells #[.int .u8 0] 5)) w.heap.size 60 C.toArray := HBX.out.alloc _
    obtain ⟨wB, hwB⟩ : ∃ wB, wB = (w.alloc (.cells C.toArray 60)).alloc (.cells #[.int .u8 0] 5) := ⟨_, rfl⟩
    rw [← hwB] at hbw2 HB3 hbox2 ⊢
    have HWB := Lib.hid hwB; clear hwB
    have hsz := hbox2.lt
    have hb0 : Blk wB.drew w.heap.size 60 C.toArray := hbox2.drew
    have hbw : Below w.heap.size w wB.drew := (hbw2).drew
    have D1 := Lib.hid (Bs.of_range32 (S := fun b => b = w.heap.size) rfl hb0.lt ((HF.out _ hb0).2.1) L1.out)
    refine wp_region_hoist [0, 1, 3, 4, 5, 6, 7, 8, 9] [2] [10, 11, 12] (fun w' => Blk w' w.heap.size 60 C.toArray)
      (by kernel_rfl) (by kernel_rfl) (by kernel_rfl) (by kernel_rfl) (by kernel_rfl) (by kernel_rfl) hb0 ?_
    (refine HoistK.yes (by rfl) (by kernel_rfl) ⟨?_, fun w' hSw => ?_, ?_⟩; rotate_left; (· go_simp; try with_reducible rfl); simp only [Act.put, List.setIfInBounds_toArray, List.getElem_toArray, List.getElem_cons_zero, List.set_cons_succ, List.set_cons_zero])
    (refine HoistK.load (by rfl) (by kernel_rfl) 46 _ rfl w.heap.size 0 rfl (y0) _ (fun w' hw => (HF.out w' hw).1) Tryd.underlying46 rfl (by rw [L0.out]; kernel_rfl) ?_; simp only [Act.put, List.setIfInBounds_toArray, List.getElem_toArray, List.getElem_cons_succ, List.getElem_cons_zero, List.set_cons_succ, List.set_cons_zero])
    (refine HoistK.yes (by rfl) (by kernel_rfl) ⟨?_, fun w' hSw => ?_, ?_⟩; rotate_left; (· go_simp; try with_reducible rfl); simp only [Act.put, List.setIfInBounds_toArray, List.getElem_toArray, List.getElem_cons_succ, List.getElem_cons_zero, List.set_cons_succ, List.set_cons_zero])
    (refine HoistK.yes (by rfl) (by kernel_rfl) ⟨?_, fun w' hSw => ?_, ?_⟩; rotate_left; (· go_simp; try with_reducible rfl); simp only [Act.put, List.setIfInBounds_toArray, List.getElem_toArray, List.getElem_cons_succ, List.getElem_cons_zero, List.set_cons_succ, List.set_cons_zero])
    (refine HoistK.yes (by rfl) (by kernel_rfl) ⟨?_, fun w' hSw => ?_, ?_⟩; rotate_left; (· go_simp; try with_reducible rfl); simp only [Act.put, List.setIfInBounds_toArray, List.getElem_toArray, List.getElem_cons_succ, List.getElem_cons_zero, List.set_cons_succ, List.set_cons_zero])
    (refine HoistK.yes (by rfl) (by kernel_rfl) ⟨?_, fun w' hSw => ?_, ?_⟩; rotate_left; (· obtain ⟨s0, s1, s2, s3, s4⟩ := HF.out _ hSw; go_simp; try with_reducible rfl); simp only [Act.put, List.setIfInBounds_toArray, List.getElem_toArray, List.getElem_cons_succ, List.getElem_cons_zero, List.set_cons_succ, List.set_cons_zero])
    (refine HoistK.yes (by rfl) (by kernel_rfl) ⟨?_, fun w' hSw => ?_, ?_⟩; rotate_left; (· go_simp; try with_reducible rfl); simp only [Act.put, List.setIfInBounds_toArray, List.getElem_toArray, List.getElem_cons_succ, List.getElem_cons_zero, List.set_cons_succ, List.set_cons_zero])
    (refine HoistK.yes (by rfl) (by kernel_rfl) ⟨?_, fun w' hSw => ?_, ?_⟩; rotate_left; (· go_simp; try with_reducible rfl); simp only [Act.put, List.setIfInBounds_toArray, List.getElem_toArray, List.getElem_cons_succ, List.getElem_cons_zero, List.set_cons_succ, List.set_cons_zero])
    (refine HoistK.yes (by rfl) (by kernel_rfl) ⟨?_, fun w' hSw => ?_, ?_⟩; rotate_left; (· obtain ⟨s0, s1, s2, s3, s4⟩ := HF.out _ hSw; go_simp; try with_reducible rfl); simp only [Act.put, List.setIfInBounds_toArray, List.getElem_toArray, List.getElem_cons_succ, List.getElem_cons_zero, List.set_cons_succ, List.set_cons_zero])
    refine HoistK.nil_ ?_
    simp only [opsAt, List.filterMap_cons, List.filterMap_nil, List.getElem?_toArray, List.getElem?_cons_succ, List.getElem?_cons_zero]
    have g0 : Got wB.drew wB.drew [] [] := Got.start (Below.refl _ _)
    refine Effects.cons_ fun _ hQ1 => ?_
    go_wp2_with fail
    refine (rCommit_any _ (Sh.rep_below R0.out (hbw.trans (g0.1.mono hbw.size))) (by have h1 := HLL.out; rw [joinB_length] at h1; have h2 := joinP_mem (l := [tCommit.enc x0, x1, x2, truthB false, x4]) (x := tCommit.enc x0) (by simp); omega)).mono ?_
    rintro e u1 ⟨v1, rfl, f1⟩
    have g1 := g0.step f1
    have hb1 := hb0.below f1.2 hb0.lt
    clear f1
    go_wp2_with fail
    refine hQ1 _ _ hb1 (Effects.nil_ fun _ hQ2 => ?_)
    clear hQ1 hb0 g0
    have g2 := g1.old D1.out
    clear g1
    have g3 := g2.old (R2.out.below hbw)
    clear g2
    have g4 := g3.old HB3.out
    clear g3
    have g5 := g4.old (R4.out.below hbw)
    clear g4
    have hcs : ∀ v ∈ [v1, (.slice (some ⟨w.heap.size, 38, none⟩) 32 32), y2, (.slice (some ⟨w.heap.size + 1, 0, none⟩) 1 1), y4], v.cells = #[v] := fun v hv => by
      obtain ⟨i, hi, rfl⟩ := List.getElem_of_mem hv
      obtain ⟨y, _, hr⟩ := g5.2.get i hi
      obtain ⟨A, c, e⟩ := hr.form
      have e' : [v1, (.slice (some ⟨w.heap.size, 38, none⟩) 32 32), y2, (.slice (some ⟨w.heap.size + 1, 0, none⟩) 1 1), y4][i] = .slice A y.length c := e
      rw [e']; rfl
    refine wpList_rows rfl 5 _ rfl [v1, (.slice (some ⟨w.heap.size, 38, none⟩) 32 32), y2, (.slice (some ⟨w.heap.size + 1, 0, none⟩) 1 1), y4] rfl (by decide) (by decide) hcs (by simp [Act.eval]) ?_
    have hr : Bsr (u1.alloc (.cells [v1, (.slice (some ⟨w.heap.size, 38, none⟩) 32 32), y2, (.slice (some ⟨w.heap.size + 1, 0, none⟩) 1 1), y4].toArray 28)) (fun b => b < u1.heap.size + 1) (.slice (some ⟨u1.heap.size, 0, none⟩) 5 5) [tCommit.enc x0, x1, x2, truthB false, x4] := g5.row (by simp [maxLen]) 28
    have hj := rJoin_any _ hr (by have := HLL.out; omega) (fun b hb => by simpa using hb)
    have hbb : Below w.heap.size w (u1.alloc (.cells [v1, (.slice (some ⟨w.heap.size, 38, none⟩) 32 32), y2, (.slice (some ⟨w.heap.size + 1, 0, none⟩) 1 1), y4].toArray 28)) := (hbw.trans (g5.1.mono hbw.size)).alloc (hbw.trans (g5.1.mono hbw.size)).size _
    have HJ := Lib.hid hj
    have HBB := Lib.hid hbb
    clear hj hbb hr g5 hcs
    go_wp2_with fail
    refine HJ.out.mono ?_
    rintro e uz ⟨vz, rfl, fz⟩
    go_wp2_with fail
    go_ret
    exact ⟨vz, rfl, fz.1.sub fun b hb _ => ⟨Nat.le_trans HBB.out.size hb.1, hb.2⟩, HBB.out.trans (fz.2.mono HBB.out.size)⟩
  · go_wp2_with fail
    have hbw2 : Below w.heap.size w ((w.alloc (.cells C.toArray 60)).alloc (.cells #[.int .u8 1] 5)) := HBE.out.alloc (by simp) _
    have HB3 := Lib.hid (show Bs ((w.alloc (.cells C.toArray 60)).alloc (.cells #[.int .u8 1] 5)).drew (fun b => b = w.heap.size + 1) (.slice (some ⟨w.heap.size + 1, 0, none⟩) 1 1) (truthB true) from HN2.out 1)
    have hbox2 : Blk ((w.alloc (.cells C.toArray 60)).alloc (.cells #[.int .u8 1] 5)) w.heap.size 60 C.toArray := HBX.out.alloc _
    obtain ⟨wB, hwB⟩ : ∃ wB, wB = (w.alloc (.cells C.toArray 60)).alloc (.cells #[.int .u8 1] 5) := ⟨_, rfl⟩
    rw [← hwB] at hbw2 HB3 hbox2 ⊢
    have HWB := Lib.hid hwB; clear hwB
    have hsz := hbox2.lt
    have hb0 : Blk wB.drew w.heap.size 60 C.toArray := hbox2.drew
    have hbw : Below w.heap.size w wB.drew := (hbw2).drew
    have D1 := Lib.hid (Bs.of_range32 (S := fun b => b = w.heap.size) rfl hb0.lt ((HF.out _ hb0).2.1) L1.out)
    refine wp_region_hoist [0, 1, 3, 4, 5, 6, 7, 8, 9] [2] [10, 11, 12] (fun w' => Blk w' w.heap.size 60 C.toArray)
      (by kernel_rfl) (by kernel_rfl) (by kernel_rfl) (by kernel_rfl) (by kernel_rfl) (by kernel_rfl) hb0 ?_
    (refine HoistK.yes (by rfl) (by kernel_rfl) ⟨?_, fun w' hSw => ?_, ?_⟩; rotate_left; (· go_simp; try with_reducible rfl); simp only [Act.put, List.setIfInBounds_toArray, List.getElem_toArray, List.getElem_cons_zero, List.set_cons_succ, List.set_cons_zero])
    (refine HoistK.load (by rfl) (by kernel_rfl) 46 _ rfl w.heap.size 0 rfl (y0) _ (fun w' hw => (HF.out w' hw).1) Tryd.underlying46 rfl (by rw [L0.out]; kernel_rfl) ?_; simp only [Act.put, List.setIfInBounds_toArray, List.getElem_toArray, List.getElem_cons_succ, List.getElem_cons_zero, List.set_cons_succ, List.set_cons_zero])
    (refine HoistK.yes (by rfl) (by kernel_rfl) ⟨?_, fun w' hSw => ?_, ?_⟩; rotate_left; (· go_simp; try with_reducible rfl); simp only [Act.put, List.setIfInBounds_toArray, List.getElem_toArray, List.getElem_cons_succ, List.getElem_cons_zero, List.set_cons_succ, List.set_cons_zero])
    (refine HoistK.yes (by rfl) (by kernel_rfl) ⟨?_, fun w' hSw => ?_, ?_⟩; rotate_left; (· go_simp; try with_reducible rfl); simp only [Act.put, List.setIfInBounds_toArray, List.getElem_toArray, List.getElem_cons_succ, List.getElem_cons_zero, List.set_cons_succ, List.set_cons_zero])
    (refine HoistK.yes (by rfl) (by kernel_rfl) ⟨?_, fun w' hSw => ?_, ?_⟩; rotate_left; (· go_simp; try with_reducible rfl); simp only [Act.put, List.setIfInBounds_toArray, List.getElem_toArray, List.getElem_cons_succ, List.getElem_cons_zero, List.set_cons_succ, List.set_cons_zero])
    (refine HoistK.yes (by rfl) (by kernel_rfl) ⟨?_, fun w' hSw => ?_, ?_⟩; rotate_left; (· obtain ⟨s0, s1, s2, s3, s4⟩ := HF.out _ hSw; go_simp; try with_reducible rfl); simp only [Act.put, List.setIfInBounds_toArray, List.getElem_toArray, List.getElem_cons_succ, List.getElem_cons_zero, List.set_cons_succ, List.set_cons_zero])
    (refine HoistK.yes (by rfl) (by kernel_rfl) ⟨?_, fun w' hSw => ?_, ?_⟩; rotate_left; (· go_simp; try with_reducible rfl); simp only [Act.put, List.setIfInBounds_toArray, List.getElem_toArray, List.getElem_cons_succ, List.getElem_cons_zero, List.set_cons_succ, List.set_cons_zero])
    (refine HoistK.yes (by rfl) (by kernel_rfl) ⟨?_, fun w' hSw => ?_, ?_⟩; rotate_left; (· go_simp; try with_reducible rfl); simp only [Act.put, List.setIfInBounds_toArray, List.getElem_toArray, List.getElem_cons_succ, List.getElem_cons_zero, List.set_cons_succ, List.set_cons_zero])
    (refine HoistK.yes (by rfl) (by kernel_rfl) ⟨?_, fun w' hSw => ?_, ?_⟩; rotate_left; (· obtain ⟨s0, s1, s2, s3, s4⟩ := HF.out _ hSw; go_simp; try with_reducible rfl); simp only [Act.put, List.setIfInBounds_toArray, List.getElem_toArray, List.getElem_cons_succ, List.getElem_cons_zero, List.set_cons_succ, List.set_cons_zero])
    refine HoistK.nil_ ?_
    simp only [opsAt, List.filterMap_cons, List.filterMap_nil, List.getElem?_toArray, List.getElem?_cons_succ, List.getElem?_cons_zero]
    have g0 : Got wB.drew wB.drew [] [] := Got.start (Below.refl _ _)
    refine Effects.cons_ fun _ hQ1 => ?_
    go_wp2_with fail
    refine (rCommit_any _ (Sh.rep_below R0.out (hbw.trans (g0.1.mono hbw.size))) (by have h1 := HLL.out; rw [joinB_length] at h1; have h2 := joinP_mem (l := [tCommit.enc x0, x1, x2, truthB true, x4]) (x := tCommit.enc x0) (by simp); omega)).mono ?_
    rintro e u1 ⟨v1, rfl, f1⟩
    have g1 := g0.step f1
    have hb1 := hb0.below f1.2 hb0.lt
    clear f1
    go_wp2_with fail
    refine hQ1 _ _ hb1 (Effects.nil_ fun _ hQ2 => ?_)
    clear hQ1 hb0 g0
    have g2 := g1.old D1.out
    clear g1
    have g3 := g2.old (R2.out.below hbw)
    clear g2
    have g4 := g3.old HB3.out
    clear g3
    have g5 := g4.old (R4.out.below hbw)
    clear g4
    have hcs : ∀ v ∈ [v1, (.slice (some ⟨w.heap.size, 38, none⟩) 32 32), y2, (.slice (some ⟨w.heap.size + 1, 0, none⟩) 1 1), y4], v.cells = #[v] := fun v hv => by
      obtain ⟨i, hi, rfl⟩ := List.getElem_of_mem hv
      obtain ⟨y, _, hr⟩ := g5.2.get i hi
      obtain ⟨A, c, e⟩ := hr.form
      have e' : [v1, (.slice (some ⟨w.heap.size, 38, none⟩) 32 32), y2, (.slice (some ⟨w.heap.size + 1, 0, none⟩) 1 1), y4][i] = .slice A y.length c := e
      rw [e']; rfl
    refine wpList_rows rfl 5 _ rfl [v1, (.slice (some ⟨w.heap.size, 38, none⟩) 32 32), y2, (.slice (some ⟨w.heap.size + 1, 0, none⟩) 1 1), y4] rfl (by decide) (by decide) hcs (by simp [Act.eval]) ?_
    have hr : Bsr (u1.alloc (.cells [v1, (.slice (some ⟨w.heap.size, 38, none⟩) 32 32), y2, (.slice (some ⟨w.heap.size + 1, 0, none⟩) 1 1), y4].toArray 28)) (fun b => b < u1.heap.size + 1) (.slice (some ⟨u1.heap.size, 0, none⟩) 5 5) [tCommit.enc x0, x1, x2, truthB true, x4] := g5.row (by simp [maxLen]) 28
    have hj := rJoin_any _ hr (by have := HLL.out; omega) (fun b hb => by simpa using hb)
    have hbb : Below w.heap.size w (u1.alloc (.cells [v1, (.slice (some ⟨w.heap.size, 38, none⟩) 32 32), y2, (.slice (some ⟨w.heap.size + 1, 0, none⟩) 1 1), y4].toArray 28)) := (hbw.trans (g5.1.mono hbw.size)).alloc (hbw.trans (g5.1.mono hbw.size)).size _
    have HJ := Lib.hid hj
    have HBB := Lib.hid hbb
    clear hj hbb hr g5 hcs
    go_wp2_with fail
    refine HJ.out.mono ?_
    rintro e uz ⟨vz, rfl, fz⟩
    go_wp2_with fail
    go_ret
    exact ⟨vz, rfl, fz.1.sub fun b hb _ => ⟨Nat.le_trans HBB.out.size hb.1, hb.2⟩, HBB.out.trans (fz.2.mono HBB.out.size)⟩

end Go.Proofs.YtjjgmkfkmckkoaaDoor
