/- The laws' steps, as they lie in memory; the argument opened. -/
import Derived.Test.YthmjgcmaoniejaaDkM
import Derived.Test.YthmjgcmaoniejaaLaw
import Derived.Test.YthmjgcmaoniejaaBulk
import Derived.Deep.Grids
namespace Go.Proofs.Ythmjgcmaoniejaa
open Go.ChangeShapes Go.WideShapes Go.ChangeAt Go.RowKit Go.Deep

structure KSt where
  kind : Int
  n : Int
  b : Int
  keep : List Bool
  kv : Value
def KSt.cells (g : KSt) : List Value := [.int .i64 g.kind, .int .i64 g.n, .int .u8 g.b, g.kv]
def flatK (gs : List KSt) : List Value := gs.flatMap KSt.cells
theorem flatK_length (gs : List KSt) : (flatK gs).length = gs.length * 4 := by
  induction gs with
  | nil => rfl
  | cons x r ih => simp only [flatK, List.flatMap_cons, List.length_append, List.length_cons] at ih ⊢; simp only [KSt.cells, List.length_cons, List.length_nil]; omega
theorem flatK_get (gs : List KSt) : ∀ (k : Nat) (g : KSt), gs[k]? = some g → ∀ j, j < 4 → (flatK gs)[k * 4 + j]? = g.cells[j]? := by
  induction gs with
  | nil => intro k g h; simp at h
  | cons x r ih =>
    intro k g h j hj
    simp only [flatK, List.flatMap_cons] at ih ⊢
    rcases k with _ | k
    · obtain rfl : x = g := by simpa using h
      rw [List.getElem?_append_left (by simp [KSt.cells]; omega)]
      simp
    · rw [List.getElem?_append_right (by simp [KSt.cells]; omega)]
      have h' : r[k]? = some g := by simpa using h
      rw [← ih k g h' j hj]
      congr 1
      simp [KSt.cells]; omega

/-- One step's own facts. -/
structure KSt.Ok (w : World) (g : KSt) : Prop where
  kind : (Lit.int .i64 g.kind).wf = true
  n : (Lit.int .i64 g.n).wf = true
  b1 : 0 ≤ g.b
  b2 : g.b < 256
  keep : Cs w (fun b => b < w.heap.size) 1 g.kv g.keep.length (bools g.keep)
/-- The steps, as they lie in memory. -/
structure KScript (w : World) (A : Option Addr) (cap : Nat) (gs : List KSt) : Prop where
  row : Cs w (fun b => b < w.heap.size) 4 (.slice A gs.length cap) gs.length (flatK gs)
  each : ∀ g ∈ gs, g.Ok w

theorem ksteps_at {w : World} {S : Nat → Prop} {A : Option Addr} {n cap : Nat} {gs : List KSt} (h : Cs w S 4 (.slice A n cap) gs.length (flatK gs)) {k : Nat} (hk : k < gs.length) :
    ∃ b off, A = some ⟨b, off, none⟩ ∧ S b ∧ b < w.heap.size ∧ w.cell? ⟨b, off + k * 4, none⟩ = some (.int .i64 gs[k].kind) ∧ w.cell? ⟨b, off + k * 4 + 1, none⟩ = some (.int .i64 gs[k].n) ∧
      w.cell? ⟨b, off + k * 4 + 2, none⟩ = some (.int .u8 gs[k].b) ∧ w.cell? ⟨b, off + k * 4 + 3, none⟩ = some gs[k].kv := by
  obtain ⟨_, A', cap', e, _, _, hp⟩ := h
  injection e with e1 e2 e3
  subst e1
  obtain ⟨b, off, rfl, hs, hb, hc⟩ := hp (by omega)
  have f := flatK_get gs k _ (List.getElem?_eq_getElem hk)
  exact ⟨b, off, rfl, hs, hb, hc _ _ (f 0 (by omega)), by rw [Nat.add_assoc]; exact hc _ _ (f 1 (by omega)), by rw [Nat.add_assoc]; exact hc _ _ (f 2 (by omega)), by rw [Nat.add_assoc]; exact hc _ _ (f 3 (by omega))⟩

theorem own_knob : ownKnob Try.prog.godebug = none := by kernel_rfl
theorem laid_out : laidOutB Try.prog = true := by kernel_rfl
theorem cells_bool : Try.prog.cellsOf 4 = 1 := by kernel_rfl
theorem cells_kstep : Try.prog.cellsOf 30 = 4 := by kernel_rfl

theorem open_keep {H : Type} {enc : TypeId × Value → H} {W : World} {v : Value} {fuel : Nat} {x : DataW H × List MemPlace}
    (h : DataW.trod enc Try.prog W 0 (fun _ => true) true fuel 28 [v] = some x) : ∃ keep : List Bool, Cs W (fun b => b < W.heap.size) 1 v keep.length (bools keep) ∧ keep.length ≤ Rows.uptoBulk x.1 := by
  rcases open_bools Try.underlying28 Try.underlying4 cells_bool h with ⟨hcs, hx⟩ | ⟨a, len, cap, B, hcs, _, hl, hm, hx, hcell⟩
  · obtain rfl : v = .slice none 0 0 := by simpa using hcs
    exact ⟨[], Cs.nil_ _ _ _, Nat.zero_le _⟩
  · obtain rfl : v = .slice (some a) len cap := by simpa using hcs
    refine ⟨(List.range len).map B, ⟨by simp [bools], some a, cap, by simp, by simpa using hl, hm, fun hpos => ?_⟩, ?_⟩
    · simp only [List.length_map, List.length_range] at hpos
      obtain ⟨b, off, spot⟩ := a
      have hc0 := hcell 0 (by omega)
      obtain rfl : spot = none := by simpa [Addr.add] using World.cell?_spot hc0
      have hlt := World.block_lt_of_cell? _ _ hc0
      rw [add_plain] at hlt
      refine ⟨b, off, rfl, hlt, hlt, fun j u hu => ?_⟩
      have hj : j < len := by
        have := (List.getElem?_eq_some_iff.1 hu).1
        simpa [bools] using this
      have hcj := hcell j (by omega)
      rw [add_plain] at hcj
      rw [hcj, ← hu]
      simp [bools, hj]
    · rw [hx]
      have := bulks.slice_le ((List.range len).map fun i => DataW.lit (H := H) (.bool (B i))) ((List.range (cap - len)).map fun j => DataW.lit (H := H) (.bool (B (len + j))))
      simp only [boolRow, List.length_map, List.length_range] at this ⊢
      omega

theorem open_ksteps {H : Type} {enc : TypeId × Value → H} {W : World} {base : Nat} {v : Value} {d : DataW H} {p : List MemPlace} (hv : Value.okWide Try.prog W .any base 22 v)
    (h : DataW.Trod enc Try.prog W 0 (fun _ => true) true 22 v d p) :
    ∃ A cap gs, v = .slice A gs.length cap ∧ KScript W A cap gs ∧ gs.length ≤ Rows.uptoBulk d ∧ ∀ g ∈ gs, g.keep.length ≤ Rows.uptoBulk d := by
  obtain ⟨a1, len, cap, rfl⟩ := okWide_slice Try.underlying22 hv
  obtain ⟨fuel, hf⟩ := h
  rcases open_slice_fields Try.underlying22 Try.underlying30 (by kernel_rfl) cells_kstep hf with ⟨hcs, hx⟩ | ⟨a, len', cap', m, D, Pl, hcs, hb, hl, hm, hmm, hx, hi⟩
  · simp [Value.cells] at hcs
    obtain ⟨rfl, rfl, rfl⟩ := hcs
    exact ⟨none, 0, [], rfl, ⟨Cs.nil_ _ _ _, (fun g hg => by cases hg)⟩, by simp, fun g hg => by cases hg⟩
  · simp only [Value.cells, List.cons.injEq, Value.slice.injEq, and_true] at hcs
    obtain ⟨rfl, rfl, rfl⟩ := hcs
    simp only [if_true] at hmm
    subst hmm
    simp only [Prod.mk.injEq] at hx
    obtain ⟨rfl, rfl⟩ := hx
    have hbl := bulks.slice_le ((List.range len).map D) ((List.range (m - len)).map fun j => D (len + j))
    have hbe := bulks.slice_elems ((List.range len).map D) ((List.range (m - len)).map fun j => D (len + j))
    generalize hT : Rows.uptoBulk (.slice ((List.range len).map D) ((List.range (m - len)).map fun j => D (len + j))) = T at hbl hbe ⊢
    simp only [List.length_map, List.length_range] at hbl
    have each : ∀ i, i < len → ∃ g : KSt, g.Ok W ∧ g.keep.length ≤ T ∧ (∀ j, j < 4 → W.cell? (a.add (i * 4 + j)) = g.cells[j]?) := by
      intro i hi'
      obtain ⟨ys, n, hD, hP, hyl, hfld⟩ := hi i (by omega)
      have hDi : Rows.uptoBulk (D i) ≤ T := Nat.le_trans (bulks.part_le (l := (List.range len).map D) (List.mem_map.2 ⟨i, List.mem_range.2 hi', rfl⟩)) (by omega)
      rw [hD] at hDi
      obtain ⟨v0, y0, c0, e0, t0⟩ := hfld 0 _ rfl
      obtain ⟨v1, y1, c1, e1, t1⟩ := hfld 1 _ rfl
      obtain ⟨v2, y2, c2, e2, t2⟩ := hfld 2 _ rfl
      obtain ⟨v3, y3, c3, e3, t3⟩ := hfld 3 _ rfl
      obtain ⟨k0, r0, _, w0⟩ := DataW.trod_int Try.underlying3 t0
      obtain ⟨k1, r1, _, w1⟩ := DataW.trod_int Try.underlying3 t1
      obtain ⟨k2, r2, _, w2⟩ := DataW.trod_int Try.underlying5 t2
      obtain rfl : v0 = .int .i64 k0 := by simpa using r0
      obtain rfl : v1 = .int .i64 k1 := by simpa using r1
      obtain rfl : v2 = .int .u8 k2 := by simpa using r2
      obtain ⟨keep, hk, hkl⟩ := open_keep t3
      have h3 : Rows.uptoBulk y3.1 ≤ Rows.uptoBulkAll (ys.map (·.1)) := bulks.part_le (List.mem_map.2 ⟨y3, List.mem_of_getElem? e3, rfl⟩)
      simp only [Rows.uptoBulk] at hDi
      have hb8 : 0 ≤ k2 ∧ k2 < 256 := by
        simp only [Lit.wf, IntKind.min, IntKind.max, IntKind.signed, IntKind.bits, Bool.and_eq_true] at w2
        simp at w2
        omega
      refine ⟨⟨k0, k1, k2, keep, v3⟩, ⟨w0, w1, hb8.1, hb8.2, hk⟩, by simp only; omega, fun j hj => ?_⟩
      match j, hj with
      | 0, _ => exact c0
      | 1, _ => exact c1
      | 2, _ => exact c2
      | 3, _ => exact c3
    have hcho : ∃ gs : List KSt, gs.length = len ∧ ∀ i g, gs[i]? = some g → g.Ok W ∧ g.keep.length ≤ T ∧ (∀ j, j < 4 → W.cell? (a.add (i * 4 + j)) = g.cells[j]?) := by
      clear hT hbe hbl hi hf hv hl
      induction len with
      | zero => exact ⟨[], rfl, fun i g h => by simp at h⟩
      | succ n ih =>
        obtain ⟨gs, hgl, hg⟩ := ih (fun i hi => each i (by omega))
        obtain ⟨g, hgn⟩ := each n (by omega)
        refine ⟨gs ++ [g], by simp [hgl], fun i x hx => ?_⟩
        rcases Nat.lt_or_ge i gs.length with hlt | hge
        · exact hg i x (by rwa [List.getElem?_append_left hlt] at hx)
        · rw [List.getElem?_append_right hge] at hx
          have hin : i - gs.length = 0 := by
            have := (List.getElem?_eq_some_iff.1 hx).1
            simp at this; omega
          rw [hin] at hx
          obtain rfl : g = x := by simpa using hx
          have : i = n := by omega
          subst this
          exact hgn
    obtain ⟨gs, hgl, hg⟩ := hcho
    subst hgl
    refine ⟨some a, _, gs, rfl, ⟨⟨?_, some a, _, rfl, hl, hm, fun hpos => ?_⟩, fun g hgm => ?_⟩, by omega, fun g hgm => ?_⟩
    · exact flatK_length gs
    · obtain ⟨b, off, spot⟩ := a
      have h0 := (hg 0 gs[0] (List.getElem?_eq_getElem hpos)).2.2 0 (by omega)
      simp only [KSt.cells, List.getElem?_cons_zero] at h0
      obtain rfl : spot = none := by simpa [Addr.add] using World.cell?_spot h0
      have hlt := World.block_lt_of_cell? _ _ h0
      rw [add_plain] at hlt
      refine ⟨b, off, rfl, hlt, hlt, fun j u hu => ?_⟩
      have hj : j < gs.length * 4 := by
        have := (List.getElem?_eq_some_iff.1 hu).1
        rw [flatK_length] at this; exact this
      have hq : j / 4 < gs.length := by omega
      have hgj := (hg (j / 4) gs[j / 4] (List.getElem?_eq_getElem hq)).2.2 (j % 4) (by omega)
      rw [add_plain, show j / 4 * 4 + j % 4 = j from by omega] at hgj
      rw [hgj, ← flatK_get gs (j / 4) _ (List.getElem?_eq_getElem hq) (j % 4) (by omega), show j / 4 * 4 + j % 4 = j from by omega]
      exact hu
    · obtain ⟨i, hi'⟩ := List.getElem?_of_mem hgm
      exact (hg i g hi').1
    · obtain ⟨i, hi'⟩ := List.getElem?_of_mem hgm
      exact (hg i g hi').2.1

end Go.Proofs.Ythmjgcmaoniejaa
