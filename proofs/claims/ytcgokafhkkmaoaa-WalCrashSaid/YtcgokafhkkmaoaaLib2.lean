/- More on rows of the call's own: append within the capacity, clear behind the end. They say nothing of the program. -/
import Derived.Test.YtcgokafhkkmaoaaLib
import Derived.Deep.RegionLaw
import Derived.Deep.RegionHeld3
namespace Go.Proofs.Ytcgokafhkkmaoaa
open Go.RowKit

section
variable {P : Program} (w : World)

/-- A row read short. -/
theorem Own.short {w : World} {e : TypeId} {size g n cap : Nat} {xs : List Value} (h : Own w e size (.slice (some ⟨g, 0, none⟩) n cap) n xs) {k : Nat} (hk : k ≤ n) :
    Own w e size (.slice (some ⟨g, 0, none⟩) k cap) k (xs.take (k * size)) := by
  obtain ⟨h1, h2⟩ := h
  have hle : k * size ≤ n * size := Nat.mul_le_mul_right _ hk
  refine ⟨by rw [List.length_take, h1]; omega, ?_⟩
  rcases h2 with ⟨h, _⟩ | ⟨g', cap', cur, h, hb, hh, hnc, hcm, hcs, htake⟩
  · cases h
  · simp only [Value.slice.injEq, Option.some.injEq, Addr.mk.injEq, and_true, true_and] at h
    obtain ⟨rfl, rfl⟩ := h
    refine Or.inr ⟨g, cap, cur, rfl, hb, hh, by omega, hcm, hcs, ?_⟩
    rw [← htake, List.take_take, Nat.min_eq_left hle]

theorem Own.cap_le {w : World} {e : TypeId} {size n : Nat} {A : Option Addr} {cap : Nat} {xs : List Value} (h : Own w e size (.slice A n cap) n xs) : n ≤ cap ∧ cap ≤ maxLen := by
  obtain ⟨_, h2⟩ := h
  rcases h2 with ⟨h, h0⟩ | ⟨g', cap', cur, h, hb, hh, hnc, hcm, hcs, htake⟩
  · simp only [Value.slice.injEq] at h; simp only [maxLen]; omega
  · simp only [Value.slice.injEq] at h; obtain ⟨_, _, rfl⟩ := h; exact ⟨hnc, hcm⟩

theorem run_fits {t ty e : TypeId} {z : Option Value} {size bytes : Nat} (ht : P.underlying t = some (.slice e)) (hinfo : (P.info? e).map (fun i => (i.zero, i.size, i.bytes)) = some (z, size, bytes))
    {g n cap : Nat} {xs : List Value} (hown : Own w e size (.slice (some ⟨g, 0, none⟩) n cap) n xs) {S : Nat → Prop} {src : Value} {m : Nat} {news : List Value} (hr : Cs w S size src m news) (h1 : ∀ u ∈ news, u.oneCell' = true)
    (hroom : n + m ≤ cap) :
    ∃ w', (Builtin.append_ #[t, t] ty #[.slice (some ⟨g, 0, none⟩) n cap, src]).run P w = .ok (.slice (some ⟨g, 0, none⟩) (n + m) cap) w' ∧
      Own w' e size (.slice (some ⟨g, 0, none⟩) (n + m) cap) (n + m) (xs ++ news) ∧ Chg (fun b => b = g) w w' := by
  obtain ⟨i0, hi, hz1⟩ : ∃ i0, P.info? e = some i0 ∧ i0.size = size := by
    cases h : P.info? e with
    | none => rw [h] at hinfo; cases hinfo
    | some i0 => rw [h] at hinfo; simp only [Option.map_some, Option.some.injEq, Prod.mk.injEq] at hinfo; exact ⟨i0, rfl, hinfo.2.1⟩
  obtain ⟨hl, A, c, rfl, hn, hc, hp⟩ := hr
  rcases A with _ | ad
  · have hm : m = 0 := by
      rcases Nat.eq_zero_or_pos m with h0 | h0
      · exact h0
      · obtain ⟨b, off, h, _⟩ := hp h0
        cases h
    subst hm
    obtain rfl : news = [] := List.eq_nil_of_length_eq_zero (by simpa using hl)
    exact ⟨w, run_append_of_nil w t ty e i0 size ht hi _ n xs hown c, by simpa using hown, Chg.refl _ w⟩
  · have hcells : ∀ j u, news[j]? = some u → w.cell? (ad.add j) = some u := by
      intro j u hu
      rcases Nat.eq_zero_or_pos m with h0 | h0
      · subst h0
        obtain rfl : news = [] := List.eq_nil_of_length_eq_zero (by simpa using hl)
        simp at hu
      · obtain ⟨b, off, h, _, _, hcell⟩ := hp h0
        obtain rfl : ad = ⟨b, off, none⟩ := by injection h
        rw [add_plain]
        exact hcell j u hu
    obtain ⟨w', hrun, h2, h3⟩ := run_append_fits (P := P) w 0 t ty e i0 size ht hi hz1 g n cap xs hown ad m c news hl hcells h1 hroom
    exact ⟨w', hrun, h2, ⟨h3.os, h3.tape, h3.output, h3.size, fun k hk hne => h3.block k hk (fun e => hne (by injection e))⟩⟩

theorem wp_fits {o : Oper} {a : Act} {K : Act → World → Prop} {Q : Exit → Act → World → Prop} (s x : Operand) (t : TypeId)
    (ho : o.op = .call { callee := .builtin .append, args := #[s, x], argTypes := #[t, t] }) {e : TypeId} {z : Option Value} {size bytes : Nat} (ht : P.underlying t = some (.slice e))
    (hinfo : (P.info? e).map (fun i => (i.zero, i.size, i.bytes)) = some (z, size, bytes))
    {g n cap : Nat} {xs : List Value} (hown : Own w e size (.slice (some ⟨g, 0, none⟩) n cap) n xs) (hs : a.eval s = .slice (some ⟨g, 0, none⟩) n cap) {S : Nat → Prop} {src : Value} {m : Nat} {news : List Value} (hr : Cs w S size src m news) (hx : a.eval x = src)
    (h1 : ∀ u ∈ news, u.oneCell' = true) (hroom : n + m ≤ cap)
    (h : ∀ w', Own w' e size (.slice (some ⟨g, 0, none⟩) (n + m) cap) (n + m) (xs ++ news) → Chg (fun b => b = g) w w' → K (a.put o.dst (.slice (some ⟨g, 0, none⟩) (n + m) cap)) w') : o.wp P a w K Q := by
  obtain ⟨w', hrun, h2, h3⟩ := run_fits (P := P) w (ty := o.type) ht hinfo hown hr h1 hroom
  unfold Oper.wp execOp
  simp only [ho, resolve, invoke, builtin, Sem.run_bind, Sem.run_pure, Result.andThen_ok, List.map_toArray, List.map_cons, List.map_nil, hs, hx, hrun]
  exact h w' h2 h3

theorem step_fits {ops : Array Oper} {o : Oper} {a : Act} {K : Act → World → Prop} {Q : Exit → Act → World → Prop} {E : Prop} (hgd : o.guard = none) (s x : Operand) (t : TypeId)
    (ho : o.op = .call { callee := .builtin .append, args := #[s, x], argTypes := #[t, t] }) {e : TypeId} {z : Option Value} {size bytes : Nat} (ht : P.underlying t = some (.slice e))
    (hinfo : (P.info? e).map (fun i => (i.zero, i.size, i.bytes)) = some (z, size, bytes))
    {g n cap : Nat} {xs : List Value} (hown : Own w e size (.slice (some ⟨g, 0, none⟩) n cap) n xs) (hs : a.eval s = .slice (some ⟨g, 0, none⟩) n cap) {S : Nat → Prop} {src : Value} {m : Nat} {news : List Value} (hr : Cs w S size src m news) (hx : a.eval x = src)
    (h1 : ∀ u ∈ news, u.oneCell' = true) (hroom : n + m ≤ cap)
    (h : ∀ w', Own w' e size (.slice (some ⟨g, 0, none⟩) (n + m) cap) (n + m) (xs ++ news) → Chg (fun b => b = g) w w' → K (a.put o.dst (.slice (some ⟨g, 0, none⟩) (n + m) cap)) w') :
    if Region.wanted o (yielded ops a.tmps) = true then Oper.wp P o a w K Q else E := by
  have hw : Region.wanted o (yielded ops a.tmps) = true := by simp [Region.wanted, hgd]
  rw [if_pos hw]
  exact wp_fits w s x t ho ht hinfo hown hs hr hx h1 hroom h

/-- clear of places behind the end of a row: the row reads as it did. -/
theorem run_clear_tail {t ty e : TypeId} {z : Value} {size : Nat} (ht : P.underlying t = some (.slice e)) (hv : ∀ w, (zeroValue e).run P w = .ok z w) (hzs : z.cells.size = size) (hz1 : z.cells.toList.all (·.oneCell') = true) (hs0 : 0 < size)
    {g n cap : Nat} {xs : List Value} (hown : Own w e size (.slice (some ⟨g, 0, none⟩) n cap) n xs) (o k c : Nat) (hk : 0 < k) (ho : n * size ≤ o) (hfit : o + k * size ≤ cap * size) :
    ∃ w', (Builtin.clear_ #[t] ty #[.slice (some ⟨g, o, none⟩) k c]).run P w = .ok (.tuple #[]) w' ∧ Own w' e size (.slice (some ⟨g, 0, none⟩) n cap) n xs ∧ Chg (fun b => b = g) w w' := by
  obtain ⟨hl, h2⟩ := hown
  rcases h2 with ⟨h, _⟩ | ⟨g', cap', cur, h, hb, hh, hnc, hcm, hcs, htake⟩
  · cases h
  simp only [Value.slice.injEq, Option.some.injEq, Addr.mk.injEq, and_true, true_and] at h
  obtain ⟨rfl, rfl⟩ := h
  have hzl : (Builtin.zeroCells z.cells k).toList.length = k * size := by rw [Array.length_toList, size_zeroCells, hzs]
  have hone : ∀ v ∈ (Builtin.zeroCells z.cells k).toList, v.oneCell' = true := by
    intro v hv'
    simp only [Builtin.zeroCells, Array.toList_map, List.mem_map] at hv'
    obtain ⟨i, _, rfl⟩ := hv'
    have hi : i % z.cells.size < z.cells.size := Nat.mod_lt _ (by omega)
    rw [getElem!_pos z.cells (i % z.cells.size) hi]
    exact List.all_eq_true.1 hz1 _ (by simp)
  have hst := run_storeCells_at P g o e (Builtin.zeroCells z.cells k).toList 0 cur w hh (by rw [hzl]; omega) hone
  obtain ⟨k', rfl⟩ : ∃ k', k = k' + 1 := ⟨k - 1, by omega⟩
  simp only [Nat.add_zero] at hst
  refine ⟨w.setRow g (cur.toList.take o ++ (Builtin.zeroCells z.cells (k' + 1)).toList ++ cur.toList.drop (o + (Builtin.zeroCells z.cells (k' + 1)).toList.length)).toArray,
    by simp [Builtin.clear_, run_underlying ht, hv, hst], ⟨hl, Or.inr ⟨g, cap, _, rfl, hb, setRow_heap w g cur _ e _ hh, hnc, hcm, ?_, ?_⟩⟩,
    ⟨rfl, rfl, rfl, by simp, fun i hi hne => setRow_other w g i _ hne⟩⟩
  · simp only [List.size_toArray, List.length_append, List.length_take, List.length_drop, Array.length_toList] at hzl ⊢
    rw [hzl]; omega
  · rw [← htake]
    simp only [List.append_assoc]
    rw [List.take_append_of_le_length (by rw [List.length_take, Array.length_toList]; omega), List.take_take, Nat.min_eq_left ho]
end

end Go.Proofs.Ytcgokafhkkmaoaa
