/- Disk: a struct of a number and a block, built. -/
import Derived.Test.YtcgokafhkkmaoaaDkB
import Derived.Great.BuildSlice
namespace Go.Proofs.Ytcgokafhkkmaoaa
open Go.RowKit

theorem fold_put (off : Nat) : ∀ (l : List Value) (s : Nat) (acc : Array Value) (i : Nat), off + s + l.length ≤ acc.size →
    ((l.zipIdx s).foldl (fun (cs : Array Value) (x : Value × Nat) => cs.setIfInBounds (off + x.2) x.1) acc)[i]? = if off + s ≤ i ∧ i < off + s + l.length then l[i - (off + s)]? else acc[i]?
  | [], s, acc, i, _ => by
    simp only [List.length_nil]
    rw [if_neg (by omega)]
    rfl
  | v :: r, s, acc, i, h => by
    simp only [List.length_cons] at h
    rw [List.zipIdx_cons, List.foldl_cons, fold_put off r (s + 1) _ i (by simp; omega)]
    by_cases h1 : off + s = i
    · subst h1
      rw [if_neg (by omega), if_pos (by simp)]
      simp [show off + s < acc.size by omega]
    · by_cases h2 : off + (s + 1) ≤ i ∧ i < off + (s + 1) + r.length
      · rw [if_pos h2, if_pos (by simp; omega)]
        rw [show i - (off + s) = (i - (off + (s + 1))) + 1 by omega]
        simp
      · rw [if_neg h2, if_neg (by simp; omega)]
        simp [h1]
theorem fold_put_arr (off : Nat) (c acc : Array Value) (i : Nat) (h : off + c.size ≤ acc.size) :
    (c.zipIdx.foldl (fun cs (x : Value × Nat) => cs.setIfInBounds (off + x.2) x.1) acc)[i]? = if off ≤ i ∧ i < off + c.size then c[i - off]? else acc[i]? := by
  rw [← Array.foldl_toList, Array.toList_zipIdx]
  have := fold_put off c.toList 0 acc i (by simpa using h)
  simpa using this

theorem fill_one {place : Nat → Option (Nat × Nat)} {cells : Array Value} {i off size : Nat} {v : Value} {rest : List (Nat × Value)} (hp : place i = some (off, size)) (hs : v.cells.size = size) (hb : off + size ≤ cells.size) :
    Instr.fill place cells ((i, v) :: rest) = Instr.fill place (v.cells.zipIdx.foldl (fun cs (x : Value × Nat) => cs.setIfInBounds (off + x.2) x.1) cells) rest := by
  have hb' : ¬ cells.size < off + size := by omega
  rw [Instr.fill, hp]
  simp [hs, hb']

theorem fill_write (Z : Array Value) (hZ : Z.size = 257) (n : Int) (l : List Int) (hl : l.length = 256) (place : Nat → Option (Nat × Nat)) (h0 : place 0 = some (0, 1)) (h1 : place 1 = some (1, 256)) :
    Instr.fill place Z [(0, .int .i64 n), (1, .agg (cu8 l).toArray)] = some (wcells (n, l)).toArray := by
  have hs : (cu8 l).toArray.size = 256 := by rw [List.size_toArray, cu8_length, hl]
  have e0 : ((Value.int .i64 n).cells.zipIdx.foldl (fun cs (x : Value × Nat) => cs.setIfInBounds (0 + x.2) x.1) Z) = Z.setIfInBounds 0 (.int .i64 n) := by simp [Value.cells]
  rw [fill_one h0 rfl (by omega), e0, fill_one (v := .agg (cu8 l).toArray) h1 hs (by simp [hZ]), Instr.fill]
  congr 1
  apply Array.ext_getElem?
  intro i
  simp only [Value.cells]
  rw [fold_put_arr 1 _ _ i (by rw [hs]; simp [hZ]), hs]
  rcases i with _ | i
  · rw [if_neg (by omega)]
    simp [wcells, hZ]
  · by_cases h : i < 256
    · rw [if_pos (by omega)]
      simp [wcells]
    · rw [if_neg (by omega)]
      have : (wcells (n, l)).length = 257 := by simp [wcells, cu8_length, hl]
      rw [Array.getElem?_eq_none (by simp [hZ]; omega), Array.getElem?_eq_none (by rw [List.size_toArray, this]; omega)]

theorem info_write : (Try.prog.info? 67).map (fun i => (i.zero.map (fun z => z.cells.size), i.size, i.bytes)) = some (some 257, 257, 264) := by kernel_rfl
theorem places_write : ((match Try.prog.underlying 67 with | some (.struct fields) => fields.toList.mapM (fun f => (Try.prog.info? f.type).map fun i => (f.offset, i.size)) | _ => none)) = some [(0, 1), (1, 256)] := by kernel_rfl
theorem built_write (n : Int) (l : List Int) (hl : l.length = 256) : Try.prog.built 67 [(0, .int .i64 n), (1, .agg (cu8 l).toArray)] = some (wcells (n, l)).toArray := by
  have h1 := info_write
  have h2 := places_write
  unfold Program.built
  cases hit : Try.prog.info? 67 with
  | none => rw [hit] at h1; cases h1
  | some it =>
    rw [hit] at h1
    cases hz : it.zero with
    | none => rw [Option.map_some, hz] at h1; simp at h1
    | some z =>
      rw [Option.map_some, hz] at h1
      simp only [Option.map_some, Option.some.injEq, Prod.mk.injEq] at h1
      cases hu : Try.prog.underlying 67 with
      | none => rw [hu] at h2; cases h2
      | some d =>
        rw [hu] at h2
        cases d <;> first | (cases h2; done) | skip
        rename_i fields
        simp only at h2 ⊢
        rw [h2, hz]
        exact fill_write _ h1.1 n l hl (fun i => ([(0, 1), (1, 256)] : List (Nat × Nat)).toArray[i]?) rfl rfl
theorem run_build_write (n : Int) (l : List Int) (hl : l.length = 256) (w : World) : (Instr.build 67 #[(0, .int .i64 n), (1, .agg (cu8 l).toArray)]).run Try.prog w = .ok (.agg (wcells (n, l)).toArray) w :=
  run_build w _ _ _ (built_write n l hl)

theorem fill_whole (place : Nat → Option (Nat × Nat)) (Z c : Array Value) (n : Nat) (h0 : place 0 = some (0, n)) (hZ : Z.size = n) (hc : c.size = n) : Instr.fill place Z [(0, .agg c)] = some c := by
  rw [fill_one (v := .agg c) h0 hc (by omega), Instr.fill]
  congr 1
  apply Array.ext_getElem?
  intro i
  simp only [Value.cells]
  rw [fold_put_arr 0 _ _ i (by omega)]
  by_cases h : i < n
  · rw [if_pos (by omega)]; rfl
  · rw [if_neg (by omega), Array.getElem?_eq_none (by omega), Array.getElem?_eq_none (by omega)]
theorem wcells_size (x : Int × List Int) (hl : x.2.length = 256) : (wcells x).toArray.size = 257 := by simp [wcells, cu8_length, hl]
theorem run_row_write (x : Int × List Int) (hl : x.2.length = 256) (w : World) :
    (Instr.buildSlice 49 1 #[(0, .agg (wcells x).toArray)]).run Try.prog w = .ok (.slice (some ⟨w.heap.size, 0, none⟩) 1 1) (w.alloc (.cells (wcells x).toArray 67)) := by
  have h1 := info_write
  cases hit : Try.prog.info? 67 with
  | none => rw [hit] at h1; cases h1
  | some it =>
    rw [hit] at h1
    cases hz : it.zero with
    | none => rw [Option.map_some, hz] at h1; simp at h1
    | some z =>
      rw [Option.map_some, hz] at h1
      simp only [Option.map_some, Option.some.injEq, Prod.mk.injEq] at h1
      obtain ⟨_, h2, _⟩ := h1
      refine run_buildSlice w _ 67 1 _ _ it z Try.underlying49 hit hz (by rw [h2]; decide) (by rw [h2]; decide) ?_
      exact fill_whole _ _ _ 257 (by rw [h2]) (by rw [h2]; simp) (wcells_size x hl)

end Go.Proofs.Ytcgokafhkkmaoaa
