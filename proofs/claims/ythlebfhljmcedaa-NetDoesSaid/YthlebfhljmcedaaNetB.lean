/- Contracts of package net: Delete of one item. -/
import Derived.Test.YthlebfhljmcedaaNetA
import Derived.Test.YthlebfhljmcedaaHoist
namespace Go.Proofs.Ythlebfhljmcedaa
open Go.RowKit

theorem info_item : (Try.prog.info? 38).map (fun i => (i.zero, i.size, i.bytes)) = some (some (.agg #[.int .i64 0, .int .i64 0, .int .i64 0, .slice none 0 0]), 4, 48) := by kernel_rfl
theorem zero_item (w : World) : (zeroValue 38).run Try.prog w = .ok (.agg #[.int .i64 0, .int .i64 0, .int .i64 0, .slice none 0 0]) w := by kernel_rfl
theorem flat_one (gs : List GI) (h : ∀ g ∈ gs, g.bv.oneCell' = true) : ∀ u ∈ flat gs, u.oneCell' = true := by
  intro u hu
  simp only [flat, List.mem_flatMap, GI.cells, List.mem_cons, List.not_mem_nil, or_false] at hu
  obtain ⟨g, hg, rfl | rfl | rfl | rfl⟩ := hu
  · rfl
  · rfl
  · rfl
  · exact h g hg

set_option maxHeartbeats 400000 in
theorem del_any (v : Value) (gs : List GI) (i : Nat) (hi : i < gs.length) (h1 : ∀ g ∈ gs, g.bv.oneCell' = true) (w : World) (hown : Own w 38 4 v gs.length (flat gs)) (hbig : gs.length * 48 ≤ 140737488355328) :
    Calls Try.prog 24 #[v, .int .i64 i, .int .i64 (i + 1)] w fun e w' => ∃ v', e = .returned v' ∧ v'.ownBlock = v.ownBlock ∧
      Own w' 38 4 v' (gs.eraseIdx i).length (flat (gs.eraseIdx i)) ∧ Chg (fun b => v.ownBlock = some b) w w' := by
  obtain ⟨g, cap, rfl, _, hglt⟩ := World.ownsRow.form hown (by omega)
  obtain ⟨hnc, hcm⟩ := hown.cap_le
  unfold maxLen at hcm
  have hi0 : (0 : Int) ≤ (i : Int) := Int.natCast_nonneg _
  have hi1 : (i : Int) + 1 ≤ (gs.length : Int) := by omega
  have hi2 : (gs.length : Int) ≤ (cap : Int) := by omega
  have hne : ((i : Int) == (i : Int) + 1) = false := by simp; omega
  have hsrc : Cs w (fun b => b = g) 4 (.slice (some ⟨g, (i + 1) * 4, none⟩) (gs.length - (i + 1)) (cap - (i + 1))) (gs.length - (i + 1)) (flat (gs.drop (i + 1))) := by
    have hcs := Cs.of_own hown (S := fun b => b = g) (fun k hk => by simp [Value.ownBlock] at hk; exact hk.symm)
    obtain ⟨hl, A, cap', e, h2, h3, hp⟩ := hcs
    injection e with e1 e2 e3
    subst e1; subst e3
    refine ⟨by rw [flat_length, List.length_drop], some ⟨g, (i + 1) * 4, none⟩, cap - (i + 1), rfl, by omega, by omega, fun hpos => ⟨g, (i + 1) * 4, rfl, rfl, hglt, fun j u hu => ?_⟩⟩
    obtain ⟨b, off, e, _, _, hc⟩ := hp (by omega)
    simp only [Option.some.injEq, Addr.mk.injEq, and_true] at e
    obtain ⟨rfl, rfl⟩ := e
    have := hc ((i + 1) * 4 + j) u (by rw [← hu, ← flat_drop, List.getElem?_drop])
    simpa using this
  have hone := flat_one (gs.drop (i + 1)) (fun x hx => h1 x (List.mem_of_mem_drop hx))
  go_enter Try.func24, Try.ntmps24
  go_wp2
  have hic : i ≤ cap := by omega
  have hic1 : i + 1 ≤ gs.length := by omega
  have hi3 : (0 : Int) ≤ (i : Int) + 1 := by omega
  have fin : ∀ (n' : Nat) (w1 : World), n' = gs.length - 1 → Own w1 38 4 (.slice (some ⟨g, 0, none⟩) n' cap) n' (flat (gs.take i) ++ flat (gs.drop (i + 1))) → Chg (fun b => b = g) w w1 →
      ∃ w2, (∀ ty, (Builtin.clear_ #[51] ty #[.slice (some ⟨g, n' * 4, none⟩) (gs.length - n') (cap - n')]).run Try.prog w1 = .ok (.tuple #[]) w2) ∧
        Own w2 38 4 (.slice (some ⟨g, 0, none⟩) n' cap) (gs.eraseIdx i).length (flat (gs.eraseIdx i)) ∧ Chg (fun b => (Value.slice (some ⟨g, 0, none⟩) gs.length cap).ownBlock = some b) w w2 := by
    intro n' w1 hn' ho hc
    obtain ⟨w2, hr, ho2, hc2⟩ := run_clear_tail w1 (ty := 0) (size := 4) Try.underlying51 zero_item rfl rfl (by decide) ho (n' * 4) (gs.length - n') (cap - n') (by omega) (Nat.le_refl _) (by omega)
    refine ⟨w2, fun ty => hr, ?_, (hc.trans hc2 (fun b hb => Or.inl hb)).mono (fun b hb => by subst hb; rfl)⟩
    rw [← flat_append, ← List.eraseIdx_eq_take_drop_succ] at ho2
    have he : (gs.eraseIdx i).length = n' := by rw [List.length_eraseIdx, if_pos hi]; omega
    rw [he]; exact ho2
  have Hfin := Lib.hid fin; clear fin
  by_cases hcap : cap = i + 1
  · subst hcap
    have hsrc0 : Cs w (fun b => b = g) 4 (.slice (some ⟨g, 0, none⟩) 0 0) 0 [] := ⟨rfl, _, 0, rfl, by omega, by simp [maxLen], fun h => by omega⟩
    have hi9 : (i : Int) ≤ (i : Int) + 1 := by omega
    go_region_held3 (fun _ => True) (trivial) ((refine step_fits _ (by rfl) _ _ _ (by rfl) Try.underlying51 info_item (hown.drew.short (k := i) (by omega)) (by rfl) (hsrc0.drew) (by rfl) (by simp) (by omega) ?_; intro w1 hown1 hg1))
    rw [flat_take, List.append_nil] at hown1
    have hdrop : flat (gs.drop (i + 1)) = [] := by rw [List.drop_of_length_le (by omega)]; rfl
    rw [Nat.add_zero] at hown1
    obtain ⟨w2, hr2, ho2, hc2⟩ := Hfin.out i w1 (by omega) (by rw [hdrop, List.append_nil]; exact hown1) ⟨hg1.os, hg1.tape, hg1.output, hg1.size, hg1.block⟩
    rw [Nat.add_sub_cancel_left] at hr2
    have Hd := Lib.hid hdrop; clear hdrop
    go_wp2
    go_ret
    exact ⟨_, rfl, rfl, ho2, hc2⟩
  · have hcap' : ((cap : Int) == (i : Int) + 1) = false := by simp; omega
    go_region_held3 (fun _ => True) (trivial) ((refine step_fits _ (by rfl) _ _ _ (by rfl) Try.underlying51 info_item (hown.drew.short (k := i) (by omega)) (by rfl) (hsrc.drew) (by rfl) hone (by omega) ?_; intro w1 hown1 hg1))
    rw [flat_take] at hown1
    generalize hn' : i + (gs.length - (i + 1)) = n' at *
    obtain ⟨w2, hr2, ho2, hc2⟩ := Hfin.out n' w1 (by omega) hown1 ⟨hg1.os, hg1.tape, hg1.output, hg1.size, hg1.block⟩
    have hn1 : (n' : Int) ≤ (gs.length : Int) := by omega
    have hn2 : (n' : Int) < (cap : Int) := by omega
    have hn3 : ((cap : Int) == (n' : Int)) = false := by simp; omega
    have hn4 : ¬ cap = n' := by omega
    have hn5 : (0 : Int) ≤ (n' : Int) := by omega
    have Hn := Lib.hid hn'; clear hn'
    go_wp2
    go_ret
    exact ⟨_, rfl, rfl, ho2, hc2⟩

end Go.Proofs.Ythlebfhljmcedaa
