/- The laws' argument opened: a list of steps, out of what the row hands over. -/
import Derived.Test.YthlebfhljmcedaaNetG
import Derived.Test.YthlebfhljmcedaaLaw
namespace Go.Proofs.Ythlebfhljmcedaa
open Go.ChangeShapes Go.WideShapes Go.ChangeAt Go.RowKit Go.Deep

theorem own_knob : ownKnob Try.prog.godebug = none := by kernel_rfl
theorem laid_out : laidOutB Try.prog = true := by kernel_rfl
theorem cells_u8 : Try.prog.cellsOf 5 = 1 := by kernel_rfl
theorem bytes_u8 : Try.prog.bytesOf 5 = 1 := by kernel_rfl
theorem cells_step : Try.prog.cellsOf 32 = 5 := by kernel_rfl
theorem bytes_step : Try.prog.bytesOf 32 = 56 := by kernel_rfl

theorem open_script {H : Type} {enc : TypeId × Value → H} {W : World} {base : Nat} {v : Value} {d : DataW H} {p : List MemPlace} (hv : Value.okWide Try.prog W .any base 22 v)
    (h : DataW.Trod enc Try.prog W 0 (fun _ => true) true 22 v d p) (hw : ∀ n ∈ d.weights Try.prog 22, n ≤ reachBytes) :
    ∃ A cap gs, v = .slice A gs.length cap ∧ Script W A cap gs := by
  obtain ⟨a1, len, cap, rfl⟩ := okWide_slice Try.underlying22 hv
  obtain ⟨fuel, hf⟩ := h
  rcases open_slice_fields Try.underlying22 Try.underlying32 (by kernel_rfl) cells_step hf with ⟨hcs, hx⟩ | ⟨a, len', cap', m, D, Pl, hcs, hb, hl, hm, hmm, hx, hi⟩
  · simp [Value.cells] at hcs
    obtain ⟨rfl, rfl, rfl⟩ := hcs
    exact ⟨none, 0, [], rfl, Cs.nil_ _ _ _, (fun g hg => by cases hg), by simp⟩
  · simp only [Value.cells, List.cons.injEq, Value.slice.injEq, and_true] at hcs
    obtain ⟨rfl, rfl, rfl⟩ := hcs
    simp only [if_true] at hmm
    subst hmm
    simp only [Prod.mk.injEq] at hx
    obtain ⟨rfl, rfl⟩ := hx
    have hsz := weights_size Try.underlying22 hw
    rw [bytes_step] at hsz
    simp only [List.length_map, List.length_range, reachBytes] at hsz
    have each : ∀ i, i < len → ∃ g : GSt, Bs W (fun b => b < W.heap.size) g.bv g.st.body ∧ (∀ j, j < 5 → W.cell? (a.add (i * 5 + j)) = g.cells[j]?) := by
      intro i hi'
      obtain ⟨ys, n, hD, hP, hyl, hfld⟩ := hi i (by omega)
      have hwd : ∀ n ∈ (D i).weights Try.prog 32, n ≤ reachBytes := weights_elem Try.underlying22 hw (by simp; exact ⟨i, hi', rfl⟩)
      rw [hD] at hwd
      obtain ⟨v0, y0, c0, e0, t0⟩ := hfld 0 _ rfl
      obtain ⟨v1, y1, c1, e1, t1⟩ := hfld 1 _ rfl
      obtain ⟨v2, y2, c2, e2, t2⟩ := hfld 2 _ rfl
      obtain ⟨v3, y3, c3, e3, t3⟩ := hfld 3 _ rfl
      obtain ⟨v4, y4, c4, e4, t4⟩ := hfld 4 _ rfl
      obtain ⟨k0, r0, _, _⟩ := DataW.trod_int Try.underlying3 t0
      obtain ⟨k1, r1, _, _⟩ := DataW.trod_int Try.underlying3 t1
      obtain ⟨k2, r2, _, _⟩ := DataW.trod_int Try.underlying3 t2
      obtain ⟨k3, r3, _, _⟩ := DataW.trod_int Try.underlying3 t3
      obtain rfl : v0 = .int .i64 k0 := by simpa using r0
      obtain rfl : v1 = .int .i64 k1 := by simpa using r1
      obtain rfl : v2 = .int .i64 k2 := by simpa using r2
      obtain rfl : v3 = .int .i64 k3 := by simpa using r3
      obtain ⟨bs, hbs⟩ := open_bytes Try.underlying30 Try.underlying5 cells_u8 t4
      have hb4 := hbs (weights_field Try.underlying32 hwd (j := 4) rfl (by rw [List.getElem?_map, e4]; rfl)) bytes_u8
      refine ⟨⟨⟨k0, k1, k2, k3, bs⟩, v4⟩, hb4, fun j hj => ?_⟩
      match j, hj with
      | 0, _ => exact c0
      | 1, _ => exact c1
      | 2, _ => exact c2
      | 3, _ => exact c3
      | 4, _ => exact c4
    have hcho : ∃ gs : List GSt, gs.length = len ∧ ∀ i g, gs[i]? = some g → Bs W (fun b => b < W.heap.size) g.bv g.st.body ∧ (∀ j, j < 5 → W.cell? (a.add (i * 5 + j)) = g.cells[j]?) := by
      clear hsz hw hi hf hv hl
      induction len with
      | zero => exact ⟨[], rfl, fun i g h => by simp at h⟩
      | succ n ih =>
        obtain ⟨gs, hgl, hg⟩ := ih (fun i hi => each i (by omega))
        obtain ⟨g, hgn⟩ := each n (by omega)
        refine ⟨gs ++ [g], by simp [hgl], fun i x hx => ?_⟩
        rcases Nat.lt_or_ge i gs.length with hlt | hge
        · exact hg i x (by rwa [List.getElem?_append_left hlt] at hx)
        · rw [List.getElem?_append_right hge] at hx
          have hin : i - gs.length = 0 := by
            have := (List.getElem?_eq_some_iff.1 hx).1
            simp at this; omega
          rw [hin] at hx
          obtain rfl : g = x := by simpa using hx
          have : i = n := by omega
          subst this
          exact hgn
    obtain ⟨gs, hgl, hg⟩ := hcho
    subst hgl
    refine ⟨some a, _, gs, rfl, ⟨?_, some a, _, rfl, hl, hm, fun hpos => ?_⟩, fun g hgm => ?_, hsz⟩
    · exact flatS_length gs
    · obtain ⟨b, off, spot⟩ := a
      have h0 := (hg 0 gs[0] (List.getElem?_eq_getElem hpos)).2 0 (by omega)
      simp only [GSt.cells, List.getElem?_cons_zero] at h0
      obtain rfl : spot = none := by simpa [Addr.add] using World.cell?_spot h0
      have hlt := World.block_lt_of_cell? _ _ h0
      rw [add_plain] at hlt
      refine ⟨b, off, rfl, hlt, hlt, fun j u hu => ?_⟩
      have hj : j < gs.length * 5 := by
        have := (List.getElem?_eq_some_iff.1 hu).1
        rw [flatS_length] at this; exact this
      have hq : j / 5 < gs.length := by omega
      have hgj := (hg (j / 5) gs[j / 5] (List.getElem?_eq_getElem hq)).2 (j % 5) (by omega)
      rw [add_plain, show j / 5 * 5 + j % 5 = j from by omega] at hgj
      rw [hgj, ← flatS_get gs (j / 5) _ (List.getElem?_eq_getElem hq) (j % 5) (by omega), show j / 5 * 5 + j % 5 = j from by omega]
      exact hu
    · obtain ⟨i, hi'⟩ := List.getElem?_of_mem hgm
      exact (hg i g hi').1

end Go.Proofs.Ythlebfhljmcedaa
