/- WalCrash returns true at every input and leaves its arguments as they were. Conditions: none beside the row's own. -/
import Derived.Deep.Grids
import Derived.Test.YtcgokafhkkmaoaaWkV
import Derived.Test.YtcgokafhkkmaoaaWkY
namespace Go.Proofs.Ytcgokafhkkmaoaa.lawWalCrash
open Go.ChangeShapes Go.WideShapes Go.ChangeAt Go.RowKit Go.Deep

theorem cells_rows : Try.prog.cellsOf 22 = 1 := by kernel_rfl
theorem cells_bool : Try.prog.cellsOf 4 = 1 := by kernel_rfl

theorem open_keep {H : Type} {enc : TypeId × Value → H} {W : World} {v : Value} {fuel : Nat} {x : DataW H × List MemPlace}
    (h : DataW.trod enc Try.prog W 0 (fun _ => true) true fuel 43 [v] = some x) : ∃ keep : List Bool, Cs W (fun b => b < W.heap.size) 1 v keep.length (bools keep) := by
  rcases open_bools Try.underlying43 Try.underlying4 cells_bool h with ⟨hcs, hx⟩ | ⟨a, len, cap, B, hcs, _, hl, hm, hx, hcell⟩
  · obtain rfl : v = .slice none 0 0 := by simpa using hcs
    exact ⟨[], Cs.nil_ _ _ _⟩
  · obtain rfl : v = .slice (some a) len cap := by simpa using hcs
    refine ⟨(List.range len).map B, by simp [bools], some a, cap, by simp, by simpa using hl, hm, fun hpos => ?_⟩
    simp only [List.length_map, List.length_range] at hpos
    obtain ⟨b, off, spot⟩ := a
    have hc0 := hcell 0 (by omega)
    obtain rfl : spot = none := by simpa [Addr.add] using World.cell?_spot hc0
    have hlt := World.block_lt_of_cell? _ _ hc0
    rw [add_plain] at hlt
    refine ⟨b, off, rfl, hlt, hlt, fun j u hu => ?_⟩
    have hj : j < len := by
      have := (List.getElem?_eq_some_iff.1 hu).1
      simpa [bools] using this
    have hcj := hcell j (by omega)
    rw [add_plain] at hcj
    rw [hcj, ← hu]
    simp [bools, hj]

theorem open_groups {H : Type} {enc : TypeId × Value → H} {W : World} {fuel : Nat} {v : Value} {x : DataW H × List MemPlace} (h : DataW.trod enc Try.prog W 0 (fun _ => true) true fuel 42 [v] = some x) :
    ∃ gs : List (List (List UInt8)), (∀ n ∈ x.1.weights Try.prog 42, n ≤ reachBytes) → Bsg W (fun b => b < W.heap.size) v gs := by
  obtain ⟨gs, hg⟩ := open_rows (X := List (List UInt8)) (fun u x => Bsr W (fun b => b < W.heap.size) u x) Try.underlying42 cells_rows (fun n u y hy => open_rows1 (v := u) hy) h
  exact ⟨gs, fun hw => by obtain ⟨us, h1, h2⟩ := hg hw; exact ⟨us, h1, h2⟩⟩

theorem calls {H : Type} {enc : TypeId × Value → H} (W : World) (base : Nat) (args : Array Value) (ds : List (DataW H)) (ps : List MemPlace)
    (hval : ∀ (j : Nat) t v, Try.f5.params[j]? = some t → args[j]? = some v → Value.okWide Try.prog W .any base t v)
    (hA : DataW.TrodAll enc Try.prog W 0 (fun _ => true) true Try.f5.params.toList args.toList ds ps)
    (hsz : (DataW.weightsEach Try.prog Try.f5.params.toList ds).all (· ≤ reachBytes) = true) :
    Calls Try.prog 5 args W fun e W' => e = .returned (.bool true) ∧ Below W.heap.size W W' := by
  rw [Try.params5] at hA hval hsz
  obtain ⟨v0, s0, d0, e0, p0, q0, hargs, rfl, rfl, h0, hr⟩ := trodAll_cons hA
  obtain ⟨v1, s1, d1, e1, p1, q1, rfl, rfl, rfl, h1, hr⟩ := trodAll_cons hr
  obtain ⟨v2, s2, d2, e2, p2, q2, rfl, rfl, rfl, h2, hr⟩ := trodAll_cons hr
  obtain ⟨v3, s3, d3, e3, p3, q3, rfl, rfl, rfl, h3, hr⟩ := trodAll_cons hr
  obtain ⟨v4, s4, d4, e4, p4, q4, rfl, rfl, rfl, h4, hr⟩ := trodAll_cons hr
  obtain ⟨rfl, rfl, rfl⟩ := trodAll_nil hr
  obtain rfl : args = #[v0, v1, v2, v3, v4] := by cases args; simp_all
  obtain ⟨a0, l0, c0, rfl⟩ := okWide_slice Try.underlying42 (hval 0 42 v0 rfl rfl)
  obtain ⟨fuse, rfl, rfl, rfl, hfu⟩ := open_int Try.underlying3 (hval 1 3 v1 rfl rfl) h1
  obtain ⟨rst, rfl, rfl, rfl, _⟩ := open_int Try.underlying3 (hval 2 3 v2 rfl rfl) h2
  obtain ⟨a3, l3, c3, rfl⟩ := okWide_slice Try.underlying43 (hval 3 43 v3 rfl rfl)
  obtain ⟨torn, rfl, rfl, rfl, _⟩ := open_int Try.underlying3 (hval 4 3 v4 rfl rfl) h4
  obtain ⟨n0, f0⟩ := h0
  obtain ⟨n3, f3⟩ := h3
  obtain ⟨gs, hg⟩ := open_groups (v := .slice a0 l0 c0) f0
  obtain ⟨keep, hk⟩ := open_keep (v := .slice a3 l3 c3) f3
  exact crash_law W fuse rst torn hfu (hg (weights_all hsz (j := 0) rfl rfl)) hk

set_option maxRecDepth 100000 in
theorem lifted (os : Os) (started : os.Started) (H : Type) (enc : TypeId × Value → H) :
    ReturnsInHanded {} Try.checked os 5 .any (Rows.walCrashSpec.pre6 enc Try.prog Try.f5 Rows.walCrashRow.domain false) (Rows.walCrashSpec.post enc Try.prog Try.f5 false true false false) :=
  law_lifted (C := Try.checked) (tb := 4) own_knob laid_out started (by kernel_rfl) Try.func5
    (ChangeSpec.witness6 (enc := enc) (C := Try.checked) false ⟨#[], #[.slice none 0 0, .int .i64 0, .int .i64 0, .slice none 0 0, .int .i64 0], []⟩ 8 (by kernel_rfl) (by kernel_rfl) (by kernel_rfl) (by kernel_rfl))
    (by kernel_rfl) (by kernel_rfl) Try.underlying4 rfl
    (fun ds hl => match ds, hl with | [_, _, _, _, _], _ => rfl)
    (fun W base args ds ps hval hA _ hsz => calls W base args ds ps hval hA hsz)

theorem holds : Rows.WalCrashSaid :=
  OpenClaim.holds_of_wide 5 Try.f5 rfl rfl rfl rfl rfl rfl rfl ⟨rfl, rfl, rfl, rfl, rfl⟩ rfl rfl rfl rfl rfl (by kernel_rfl) Try.func5 (by kernel_rfl)
    (of_decide_eq_true (by kernel_rfl)) (by unfold Func.isWrapper; first | (rw [if_pos (by decide +kernel)]; kernel_rfl) | (rw [if_neg (by decide +kernel)]; exact ⟨rfl, rfl⟩))
    (fun os started H enc _ => lifted os started H enc)
#print axioms holds
end Go.Proofs.Ytcgokafhkkmaoaa.lawWalCrash
