/- DiskFuse: the plain law, step for step. -/
import Derived.Test.YthmjgcmaoniejaaDkN
namespace Go.Proofs.Ythmjgcmaoniejaa
open Go.RowKit Go.Maps

/-- A step of DiskFuse's. -/
def DS.op (D : DS) (g : KSt) : DS × Int := if g.kind.tmod 2 = 0 then D.write g.n (blk g.b) else D.sync
/-- Alike but for the fuse. -/
structure DSame (D E : DS) : Prop where
  blocks : D.blocks = E.blocks
  room : D.room = E.room
  firm : D.firm = E.firm
  loose : D.loose = E.loose
/-- Nothing has brought it down, and nothing will. -/
structure DFree (E : DS) : Prop where
  down : E.down = false
  fuse : E.fuse = -1
theorem DFree.begins {E : DS} (h : DFree E) : E.begins = (E, true) := by
  unfold DS.begins
  rw [h.down, h.fuse]
  simp
theorem op_alive {D D1 E : DS} (hs : DSame D E) (hb : D.begins = (D1, true)) (hd : D1.down = false) (hE : DFree E) (g : KSt) : (D.op g).2 = (E.op g).2 ∧ DSame (D.op g).1 (E.op g).1 ∧ (D.op g).1.down = false ∧ (D.op g).1.fuse = D1.fuse ∧ DFree (E.op g).1 := by
  obtain ⟨e1, e2, e3, e4, _⟩ := D.begins_same
  rw [hb] at e1 e2 e3 e4
  simp only at e1 e2 e3 e4
  obtain ⟨s1, s2, s3, s4⟩ := hs
  rw [← e1] at s1
  rw [← e2] at s2
  rw [← e3] at s3
  rw [← e4] at s4
  have hEb := hE.begins
  unfold DS.op
  split
  · unfold DS.write
    rw [hb, hEb]
    simp only [Bool.true_eq_false, if_false, s1, s2]
    by_cases h1 : g.n < 0 ∨ E.blocks ≤ g.n
    · rw [if_pos h1, if_pos h1]
      exact ⟨rfl, ⟨s1, s2, s3, s4⟩, hd, rfl, hE⟩
    · rw [if_neg h1, if_neg h1]
      by_cases h2 : E.room ≤ g.n
      · rw [if_pos h2, if_pos h2]
        exact ⟨rfl, ⟨s1, s2, s3, s4⟩, hd, rfl, hE⟩
      · rw [if_neg h2, if_neg h2]
        exact ⟨rfl, ⟨rfl, rfl, s3, by simp only [s4]⟩, hd, rfl, ⟨hE.down, hE.fuse⟩⟩
  · unfold DS.sync
    rw [hb, hEb]
    exact ⟨rfl, ⟨s1, s2, by simp only [s3, s4]; rfl, rfl⟩, hd, rfl, ⟨hE.down, hE.fuse⟩⟩
theorem op_dead {D D1 E : DS} (hs : DSame D E) (hb : D.begins = (D1, false)) (g : KSt) : (D.op g).2 = 44 ∧ (D.op g).1 = D1 ∧ DSame D1 E := by
  obtain ⟨e1, e2, e3, e4, _⟩ := D.begins_same
  rw [hb] at e1 e2 e3 e4
  simp only at e1 e2 e3 e4
  obtain ⟨s1, s2, s3, s4⟩ := hs
  have h : DSame D1 E := ⟨e1.trans s1, e2.trans s2, e3.trans s3, e4.trans s4⟩
  unfold DS.op DS.write DS.sync
  rw [hb]
  split <;> exact ⟨rfl, rfl, h⟩

/-- What DiskFuse's loop keeps. -/
def FuzI (fuse left : Int) (D E : DS) : Prop := DSame D E ∧ DFree E ∧
  ((fuse < 0 ∧ D.fuse = -1 ∧ D.down = false) ∨ (0 ≤ fuse ∧ 0 < left ∧ D.fuse = left ∧ D.down = false) ∨ (0 ≤ fuse ∧ left ≤ 0 ∧ ((D.fuse = 0 ∧ D.down = false) ∨ D.down = true)))
theorem FuzI.dead {fuse left : Int} {D E : DS} (h : FuzI fuse left D E) (h1 : 0 ≤ fuse) (h2 : left ≤ 0) (g : KSt) : (D.op g).2 = 44 ∧ (D.op g).1.down = true ∧ FuzI fuse left (D.op g).1 E := by
  obtain ⟨hs, hE, hc⟩ := h
  obtain ⟨D1, hb, hd⟩ : ∃ D1, D.begins = (D1, false) ∧ D1.down = true := by
    rcases hc with hc | hc | ⟨_, _, hc | hc⟩
    · omega
    · omega
    · exact ⟨{ D with down := true, fuse := -1 }, by unfold DS.begins; rw [hc.1, hc.2]; simp, rfl⟩
    · exact ⟨D, by unfold DS.begins; rw [hc]; simp, hc⟩
  obtain ⟨r1, r2, r3⟩ := op_dead hs hb g
  rw [r2]
  exact ⟨r1, hd, r3, hE, .inr (.inr ⟨h1, h2, .inr hd⟩)⟩
theorem FuzI.alive {fuse left : Int} {D E : DS} (h : FuzI fuse left D E) (h1 : ¬ (0 ≤ fuse ∧ left ≤ 0)) (g : KSt) : (D.op g).2 = (E.op g).2 ∧ (D.op g).1.down = false ∧ FuzI fuse (left - 1) (D.op g).1 (E.op g).1 := by
  obtain ⟨hs, hE, hc⟩ := h
  rcases hc with ⟨c1, c2, c3⟩ | ⟨c1, c2, c3, c4⟩ | hc
  · have hb : D.begins = (D, true) := (⟨c3, c2⟩ : DFree D).begins
    obtain ⟨r1, r2, r3, r4, r5⟩ := op_alive hs hb c3 hE g
    exact ⟨r1, r3, r2, r5, .inl ⟨c1, r4.trans c2, r3⟩⟩
  · have hb : D.begins = ({ D with fuse := D.fuse - 1 }, true) := by
      unfold DS.begins
      rw [c4, c3]
      rw [if_neg (by simp), if_neg (by omega), if_pos c2]
    obtain ⟨r1, r2, r3, r4, r5⟩ := op_alive hs hb c4 hE g
    simp only [c3] at r4
    refine ⟨r1, r3, r2, r5, ?_⟩
    by_cases hl : 0 < left - 1
    · exact .inr (.inl ⟨c1, hl, r4, r3⟩)
    · exact .inr (.inr ⟨c1, by omega, .inl ⟨by omega, r3⟩⟩)
  · omega
theorem DS.Fine.op {D : DS} {B : Nat} (h : D.Fine B) {g : KSt} (hn : (Lit.int .i64 g.n).wf = true) : (D.op g).1.Fine (B + 1) := by
  unfold DS.op
  split
  · exact h.write hn (blk_length _)
  · exact h.sync.more (by omega)
theorem keptOf_none (l : List (Int × List Int)) (keep : List Bool) (h : ∀ b ∈ keep, b = false) : keptOf l keep = [] := by
  unfold keptOf
  rw [List.filterMap_eq_nil_iff]
  intro x _
  rw [if_neg]
  intro e
  have := h _ (List.mem_of_getElem? e)
  cases this
theorem up_none {D : DS} {keep : List Bool} (h : ∀ b ∈ keep, b = false) (torn : Int) : D.up keep torn = { D with loose := [], down := false, fuse := -1, entries := D.entries + D.loose.length } := by
  unfold DS.up
  rw [keptOf_none _ _ h]
  rfl
theorem read_free {D : DS} (hd : D.down = false) (hl : D.loose = []) {n : Int} (h0 : 0 ≤ n) (h1 : n < D.blocks) : D.read n = ((D.firm n).getD noughts, 0) := by
  unfold DS.read DS.now
  rw [hd, hl]
  rw [if_neg (by simp), if_neg (by omega)]
  rfl

end Go.Proofs.Ythmjgcmaoniejaa
