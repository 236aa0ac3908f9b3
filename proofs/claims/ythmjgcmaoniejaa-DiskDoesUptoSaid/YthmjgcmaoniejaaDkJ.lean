/- Disk: Copy. -/
import Derived.Test.YthmjgcmaoniejaaDkI
import Derived.Shelf.SlMaps.Clone
import Derived.Lib.SliceRun
namespace Go.Proofs.Ythmjgcmaoniejaa
open Go.RowKit Go.Maps

theorem mclone_any (m n : Nat) (f : Int → Option Value) (w : World) (h : MapI Try.prog 3 w m n f) :
    Calls Try.prog 25 #[.map (some m)] w fun e w' => e = .returned (.map (some w.heap.size)) ∧ MapI Try.prog 3 w' w.heap.size n f ∧ Below w.heap.size w w' := by
  obtain ⟨es, clock, hb, h2⟩ := h.clone
  have hq := fun w => run_eql_map_nil_sl (P := Try.prog) w 51 _ _ (some m) Try.underlying51
  go_enter Try.func25, Try.ntmps25
  go_wp2
  rw [run_callFunc_extern Try.func32 (by kernel_rfl) (by kernel_rfl) (by kernel_rfl) (e := Extern.MapsClone.clone) (by kernel_rfl), run_maps_clone_sl w 51 hb]
  simp only [Result.andThen]
  rw [Oper.upon_value]
  go_wp2
  rw [run_typeAssert_map_sl _ 51 20 _ _ _ Try.underlying51]
  simp only [Result.andThen]
  rw [Oper.upon_value]
  go_wp2
  go_ret
  exact ⟨rfl, h2, (Below.refl _ w).alloc (Nat.le_refl _) _⟩

theorem flatW_one {l : List (Int × List Int)} : ∀ u ∈ flatW l, u.oneCell' = true := by
  intro u hu
  obtain ⟨x, _, hx⟩ := List.mem_flatMap.1 hu
  exact wcells_one x u hx
set_option maxRecDepth 100000 in
theorem sclone_any (v : Value) (l : List (Int × List Int)) (w : World) (h : Own w 58 257 v l.length (flatW l)) (hsz : l.length * 264 ≤ 140737488355328) :
    Calls Try.prog 26 #[v] w fun e w' => ∃ v', e = .returned v' ∧ Own w' 58 257 v' l.length (flatW l) ∧ Below w.heap.size w w' ∧ ∀ k, v'.ownBlock = some k → w.heap.size ≤ k := by
  have hq := fun w a n c => Go.Lib.run_eql_slice_nil (P := Try.prog) w 52 _ a n c 0 0 Try.underlying52
  obtain ⟨A, cap, rfl⟩ := h.form
  cases A with
  | none =>
    rcases h.2 with ⟨e1, e2⟩ | ⟨_, _, _, e1, _⟩
    · injection e1 with _ e3 e4
      have hl0 : l = [] := List.eq_nil_of_length_eq_zero e3
      subst hl0
      subst e4
      go_enter Try.func26, Try.ntmps26
      go_wp2
      go_ret
      exact ⟨_, rfl, Own.nil_ _ _ _, Below.refl _ _, fun k hk => by simp [Value.ownBlock] at hk⟩
    · cases e1
  | some a =>
    go_enter Try.func26, Try.ntmps26
    have hown := Own.empty w 58 257
    have hnew : Cs (w.alloc (.cells #[] 58)) (fun _ => True) 257 _ l.length (flatW l) := Cs.of_own (h.alloc _) (fun _ _ => trivial)
    go_wp2_with (at_builtin; refine wpList_app _ rfl _ _ _ rfl Try.underlying52 info_write3 (wcells_size _ (by rw [noughts, List.length_replicate])) (by decide) hown rfl hnew rfl flatW_one (by simp only [maxLen]; omega) (by omega) ?_; intro v2 w2 ho3 hg3 hnil3 hat3)
    go_ret
    refine ⟨_, rfl, by simpa using ho3, ?_, ?_⟩
    · exact (((Chg.refl (fun b => w.heap.size ≤ b) w).alloc _).trans (hg3.mono (fun b hb => by simp [Value.ownBlock] at hb; omega)) (fun _ h => .inl h)).below (Nat.le_refl _) (fun _ h => h)
    · intro k hk
      replace hk : v2.ownBlock = some k := hk
      rcases hat3 with e | e <;> rw [e] at hk <;> simp [Value.ownBlock] at hk <;> omega

set_option maxHeartbeats 1000000 in
theorem dcopy_any (p : Nat) (S : Nat → Prop) (D : DS) (w : World) (h : DiskI w p S D) (hsz : D.loose.length * 264 ≤ 140737488355328) :
    Calls Try.prog 9 #[.pointer (some ⟨p, 0, none⟩)] w fun e w' => ∃ q S', e = .returned (.pointer (some ⟨q, 0, none⟩)) ∧ DiskI w' q S' D ∧ Below w.heap.size w w' ∧ ∀ b, S' b → w.heap.size ≤ b := by
  obtain ⟨hSp, hS, m, v, hSm, hb, ho, hv, hM⟩ := h
  have hc := hb.cell
  obtain ⟨A, cap, rfl⟩ := ho.form
  go_enter Try.func9, Try.ntmps9
  go_wp2
  refine at_world (fun W => Blk W p 54 #[.int .i64 D.blocks, .int .i64 D.room, .int .i64 D.fuse, .bool D.down, .map (some m), .slice A D.loose.length cap] ∧ Blk W w.heap.size 54 #[.int .i64 D.blocks, .int .i64 D.room, .int .i64 D.fuse, .bool D.down, .map (some m), .slice A D.loose.length cap] ∧
    Own W 58 257 (.slice A D.loose.length cap) D.loose.length (flatW D.loose) ∧ MapI Try.prog 3 W m D.entries (fun i => (D.firm i).map fun l => .agg (cu8 l).toArray) ∧ Below w.heap.size w W) ⟨hb.alloc _, Blk.new _ _ _, ho.alloc _, hM.alloc _, (Below.refl _ w).alloc (Nat.le_refl _) _⟩ ?_
  rintro W ⟨hb1, hn1, ho1, hM1, hB1⟩
  clear hc
  refine wp_region_hoist [0, 1, 2, 3, 5, 6, 7, 8] [4, 9] [10, 11, 12, 13] (fun w' => w'.cell? ⟨p, 4, none⟩ = some (.map (some m)) ∧ w'.cell? ⟨p, 5, none⟩ = some (.slice A D.loose.length cap))
    (by kernel_rfl) (by kernel_rfl) (by kernel_rfl) (by kernel_rfl) (by kernel_rfl) (by kernel_rfl) ⟨hb1.cell 4, hb1.cell 5⟩ ?_
  (iterate 8 (refine HoistK.yes (by rfl) (by rfl) ⟨?_, fun w hSw => ?_, ?_⟩; rotate_left; (· go_simp; try with_reducible rfl); simp only [Act.put, List.setIfInBounds_toArray, List.getElem_toArray, List.getElem_cons_succ, List.getElem_cons_zero]))
  refine HoistK.nil_ ?_
  simp only [opsAt, List.filterMap_cons, List.filterMap_nil, List.getElem?_toArray, List.getElem?_cons_succ, List.getElem?_cons_zero]
  refine Effects.cons_ fun _ hQ1 => ?_
  have hb1 := hb1.drew
  have hn1 := hn1.drew
  have ho1 := ho1.drew
  have hM1 := hM1.keep (w' := W.drew) rfl
  go_wp2_with (go_at_call 25; refine (mclone_any m D.entries _ _ hM1).mono ?_; rintro e w2 ⟨rfl, hM2, hB2⟩)
  have hb2 := hb1.below hB2 hb1.lt
  have hn2 := hn1.below hB2 hn1.lt
  have ho2 := own_keep ho1 (fun k hk => hB2.block k (own_lt ho1 hk))
  refine hQ1 _ _ ⟨hb2.cell 4, hb2.cell 5⟩ (Effects.cons_ fun _ hQ2 => ?_)
  clear hQ1
  go_wp2_with (go_at_call 26; refine (sclone_any _ D.loose _ ho2 hsz).mono ?_; rintro e w3 ⟨v3, rfl, ho3, hB3, hv3⟩)
  have hb3 := hb2.below hB3 hb2.lt
  have hn3 := hn2.below hB3 hn2.lt
  have hM3 := hM2.below hB3
  obtain ⟨A3, cap3, rfl⟩ := ho3.form
  refine hQ2 _ _ ⟨hb3.cell 4, hb3.cell 5⟩ (Effects.nil_ fun _ hQ3 => ?_)
  clear hQ2
  have hc3 := hn3.cell
  have hf3 := hn3.frozen
  go_wp2
  go_ret
  have hs1 := hB1.size
  have hs2 := hB2.size
  have hs3 := hB3.size
  have hlM := hM2.lt
  simp only [World.size_drew] at hs2
  have hlq := hn1.lt
  have hne : ∀ k, (Value.slice A3 D.loose.length cap3).ownBlock = some k → k ≠ w.heap.size := fun k hk e => by have := hv3 k hk; have := hn1.lt; simp only [World.size_drew] at this; omega
  refine ⟨w.heap.size, fun b => w.heap.size ≤ b ∧ b < w3.heap.size, rfl, ⟨⟨Nat.le_refl _, by simp only [World.size_drew] at hlq; omega⟩, fun b hb => by simpa using hb.2, W.heap.size, .slice A3 D.loose.length cap3, ⟨hs1, by simp only [World.size_drew] at hlM; omega⟩, (hn3.set_ 4 _).set_ 5 _, ?_, ?_, ?_⟩, ?_, fun b hb => hb.1⟩
  · exact own_keep ho3 (fun k hk => (Below.heap_setCell _ _ _ _ (hne k hk)).trans (Below.heap_setCell _ _ _ _ (hne k hk)))
  · intro k hk
    have := own_lt ho3 hk
    have := hv3 k hk
    exact ⟨by omega, by omega⟩
  · exact (hM3.keep (Below.heap_setCell _ _ _ _ (by simp only [World.size_drew] at hlq ⊢; omega))).keep (Below.heap_setCell _ _ _ _ (by simp only [World.size_drew] at hlq ⊢; omega))
  · exact ((((Chg.of_below hB1 (fun b => w.heap.size ≤ b)).drew.trans (Chg.of_below hB2 (fun _ => False)) (fun _ h => h.elim)).trans (Chg.of_below hB3 (fun _ => False)) (fun _ h => h.elim)).setOf (g := w.heap.size) (Nat.le_refl _) 4 _ |>.setOf (g := w.heap.size) (Nat.le_refl _) 5 _).below (Nat.le_refl _) (fun _ h => h)

end Go.Proofs.Ythmjgcmaoniejaa
