/- Disk: Read. -/
import Derived.Test.YtcgokafhkkmaoaaDkG
namespace Go.Proofs.Ytcgokafhkkmaoaa
open Go.RowKit Go.Maps

attribute [-simp] Try.isAgg37 Try.sizeOf37 Try.typeInfo37 Try.isAgg67 Try.sizeOf67 Try.typeInfo67

/-- What a block holds now. -/
def DS.now (D : DS) (n : Int) : List Int := (D.loose.foldl putF D.firm n).getD noughts
/-- Read. -/
def DS.read (D : DS) (n : Int) : List Int × Int := if D.down then (noughts, 44) else if n < 0 ∨ D.blocks ≤ n then (noughts, 2) else (D.now n, 0)

set_option maxRecDepth 100000 in
theorem read_no (p : Nat) (S : Nat → Prop) (D : DS) (n r : Int) (w : World) (h : DiskI w p S D) (hr : (D.down = true ∧ r = 44) ∨ (D.down = false ∧ (n < 0 ∨ D.blocks ≤ n) ∧ r = 2)) :
    Calls Try.prog 27 #[.pointer (some ⟨p, 0, none⟩), .int .i64 n] w fun e w' => e = .returned (.tuple #[.agg (cu8 noughts).toArray, .int .i64 r]) ∧ Below w.heap.size w w' := by
  obtain ⟨Z, hZ⟩ : ∃ Z, Z = (cu8 noughts).toArray := ⟨_, rfl⟩
  have hz := (zero_of_info info_block).1
  have hzs := (zero_of_info info_block).2
  have hbu := fun w => run_build (P := Try.prog) w 37 #[] _ built_block
  rw [← hZ] at hz hbu
  have hsz : Z.size = 256 := by rw [hZ, List.size_toArray, cu8_length, noughts, List.length_replicate]
  have h1 : Z.all (·.oneCell') = true := by rw [hZ]; exact all_oneCell_toArray (cu8_one _)
  have hst := run_storeCells_new (P := Try.prog) w 37 Z Z (by rw [hsz]; exact hzs) rfl h1
  have hld := run_loadVar_mid (P := Try.prog) (w.alloc (.cells Z 37)) w.heap.size 0 37 (cu8 noughts) _ (Blk.range (by rw [← hZ]; exact Blk.new w _ _)) Try.underlying37 rfl (by rw [cu8_length, noughts, List.length_replicate]; exact hzs)
  rw [← hZ] at hld ⊢
  have HZ := Lib.hid hZ; clear hZ hzs h1
  obtain ⟨_, _, m, v, _, hb, _⟩ := h
  have hb := hb.alloc (.cells Z 37)
  have hc := hb.cell
  rcases hr with ⟨hd, rfl⟩ | ⟨hd, hn, rfl⟩
  · rw [hd] at hc
    go_enter Try.func27, Try.ntmps27
    go_wp2
    simp only [Try.sizeOf37, Result.andThen, ↓reduceIte, hst]
    rw [Oper.upon_skip]
    go_wp2
    exact bodyPost_ret (v := .tuple #[.agg Z, .int .i64 44]) (by simp [results, Try.results27, asAddr, hld]) rfl ⟨rfl, (Below.refl _ w).alloc (Nat.le_refl _) _⟩
  · rw [hd] at hc
    by_cases hn0 : n < 0
    · clear hn
      go_enter Try.func27, Try.ntmps27
      go_wp2
      simp only [Try.sizeOf37, Result.andThen, ↓reduceIte, hst]
      rw [Oper.upon_skip]
      go_wp2
      exact bodyPost_ret (v := .tuple #[.agg Z, .int .i64 2]) (by simp [results, Try.results27, asAddr, hld]) rfl ⟨rfl, (Below.refl _ w).alloc (Nat.le_refl _) _⟩
    · have hn1 : D.blocks ≤ n := by omega
      clear hn
      go_enter Try.func27, Try.ntmps27
      go_wp2
      simp only [Try.sizeOf37, Result.andThen, ↓reduceIte, hst]
      rw [Oper.upon_skip]
      go_wp2
      exact bodyPost_ret (v := .tuple #[.agg Z, .int .i64 2]) (by simp [results, Try.results27, asAddr, hld]) rfl ⟨rfl, (Below.refl _ w).alloc (Nat.le_refl _) _⟩

set_option maxHeartbeats 1000000 in
set_option maxRecDepth 100000 in
theorem read_yes (p : Nat) (S : Nat → Prop) (D : DS) (n : Int) (w : World) (h : DiskI w p S D) (hok : D.Ok) (hd : D.down = false) (hn0 : 0 ≤ n) (hn1 : n < D.blocks) (hwn : (Lit.int .i64 n).wf = true) (hlen : D.loose.length ≤ 140737488355328) :
    Calls Try.prog 27 #[.pointer (some ⟨p, 0, none⟩), .int .i64 n] w fun e w' => e = .returned (.tuple #[.agg (cu8 (D.now n)).toArray, .int .i64 0]) ∧ Below w.heap.size w w' := by
  obtain ⟨Z, hZ⟩ : ∃ Z, Z = (cu8 noughts).toArray := ⟨_, rfl⟩
  have hz := (zero_of_info info_block).1
  have hzs := (zero_of_info info_block).2
  rw [← hZ] at hz
  have hsz : Z.size = 256 := by rw [hZ, List.size_toArray, cu8_length, noughts, List.length_replicate]
  have hst := fun (l : List Int) (hl : l.length = 256) => run_storeCells_new (P := Try.prog) w 37 Z (cu8 l).toArray (by rw [List.size_toArray, cu8_length, hl]; exact hzs) (by rw [hsz, List.size_toArray, cu8_length, hl]) (all_oneCell_toArray (cu8_one _))
  have hld := fun (l : List Int) (hl : l.length = 256) => run_loadVar_mid (P := Try.prog) (w.alloc (.cells (cu8 l).toArray 37)) w.heap.size 0 37 (cu8 l) _ (Blk.range (Blk.new w _ _)) Try.underlying37 rfl (by rw [cu8_length, hl]; exact hzs)
  have HZ := Lib.hid hZ; clear hZ hzs
  have HST := Lib.hid hst; clear hst
  have HLD := Lib.hid hld; clear hld
  obtain ⟨_, _, m, v, _, hb, ho, hv, hM⟩ := h
  obtain ⟨A, cap, rfl⟩ := ho.form
  have hb' := hb.alloc (.cells Z 37)
  have hc := hb'.cell
  rw [hd] at hc
  have ho' := ho.alloc (.cells Z 37)
  have hn0' : ¬ n < 0 := by omega
  have hn1' : ¬ D.blocks ≤ n := by omega
  go_enter Try.func27, Try.ntmps27
  go_wp2
  go_loopw [6] (fun i wr => wr = w.alloc (.cells Z 37) ∧ ∃ k : Nat, k ≤ D.loose.length ∧ i = .int .i64 ((k : Int) - 1) ∧ D.loose.foldl putF D.firm n = (D.loose.take k).foldl putF D.firm n) (fun i _ => (intOf i + 1).toNat)
  case atStart => exact ⟨rfl, D.loose.length, Nat.le_refl _, rfl, by rw [List.take_length]⟩
  case round =>
    obtain ⟨rfl, k, hk, rfl, hfold⟩ := hrel
    by_cases hk0 : k = 0
    · subst hk0
      have hlk := (hM.alloc (.cells Z 37)).lookup (t := 48) Try.underlying3 Try.underlying48 (hz _) hwn
      have hnow : D.now n = (D.firm n).getD noughts := by
        unfold DS.now; rw [hfold]; rfl
      have hnl : (D.now n).length = 256 := by
        rw [hnow]
        cases hf : D.firm n with
        | none => rw [Option.getD_none, noughts, List.length_replicate]
        | some l => exact hok.2 n l hf
      have e : (((D.firm n).map fun l => Value.agg (cu8 l).toArray).getD (.agg Z)) = .agg (cu8 (D.now n)).toArray := by
        rw [hnow, HZ.out]
        cases D.firm n <;> rfl
      rw [e] at hlk
      have hst := HST.out _ hnl
      have hld := HLD.out _ hnl
      have hcs : (cu8 (D.now n)).toArray.size = 256 := by rw [List.size_toArray, cu8_length, hnl]
      clear e hnow HST HLD
      obtain ⟨L, hL⟩ : ∃ L, L = D.now n := ⟨_, rfl⟩
      rw [← hL] at hlk hst hld hcs
      have HL := Lib.hid hL; clear hL hnl
      go_wp2
      simp only [Try.sizeOf37, Result.andThen, ↓reduceIte, hst]
      rw [Oper.upon_skip]
      go_wp2
      exact bodyPost_ret (v := .tuple #[.agg (cu8 L).toArray, .int .i64 0]) (by simp [results, Try.results27, asAddr, hld]) rfl ⟨by rw [HL.out], (Below.refl _ w).alloc (Nat.le_refl _) _⟩
    · have hkl : k - 1 < D.loose.length := by omega
      obtain ⟨b, off, rfl, _, hbl, hrng⟩ := writes_at (Cs.of_own ho' (S := S) hv) hok.1 hkl
      obtain ⟨x, l, hxe⟩ : ∃ x l, D.loose[k - 1] = (x, l) := ⟨_, _, rfl⟩
      have hl := hok.1 _ (List.getElem_mem hkl)
      simp only [hxe] at hl hrng
      have hc0 : (w.alloc (.cells Z 37)).cell? ⟨b, off + (k - 1) * 257, none⟩ = some (.int .i64 x) := hrng 0 _ rfl
      have hc1 : (loadCellsFrom ⟨b, off + (k - 1) * 257 + 1, none⟩ 0 256 #[]).run Try.prog (w.alloc (.cells Z 37)) = .ok (cu8 l).toArray (w.alloc (.cells Z 37)) := by
        have := run_loadCells_list (P := Try.prog) (w.alloc (.cells Z 37)) ⟨b, off + (k - 1) * 257 + 1, none⟩ (cu8 l) (fun j v hv => by rw [Addr.add_mid, Nat.add_assoc]; exact hrng _ _ (by simpa [wcells, Nat.add_comm 1 j] using hv))
        rw [cu8_length, hl] at this
        exact this
      have hput : ∀ i, (D.loose.take k).foldl putF D.firm i = putF ((D.loose.take (k - 1)).foldl putF D.firm) (x, l) i := fun i => by
        rw [show k = k - 1 + 1 by omega, List.take_succ_eq_append_getElem hkl, List.foldl_append, hxe]
        rfl
      rw [hput] at hfold
      clear hput
      by_cases hx : x = n
      · subst hx
        have hnow : D.now x = l := by unfold DS.now; rw [hfold]; simp [putF]
        have Hnow := Lib.hid hnow; clear hnow
        have hst := HST.out _ hl
        have hld := HLD.out _ hl
        have hcs : (cu8 l).toArray.size = 256 := by rw [List.size_toArray, cu8_length, hl]
        go_wp2
        simp only [Try.sizeOf67, Result.andThen]
        rw [Oper.upon_value]
        go_wp2
        simp only [Try.sizeOf67, Result.andThen]
        rw [Oper.upon_value]
        go_wp2
        simp only [Try.sizeOf37, Result.andThen]
        rw [if_neg (by decide), Oper.upon_value]
        go_wp2
        simp only [Try.isAgg37, Try.sizeOf37, Result.andThen, ↓reduceIte, hc1]
        rw [Oper.upon_value]
        clear hc1
        go_wp2
        simp only [Try.sizeOf37, Result.andThen, ↓reduceIte, hst]
        rw [Oper.upon_skip]
        go_wp2
        exact bodyPost_ret (v := .tuple #[.agg (cu8 l).toArray, .int .i64 0]) (by simp [results, Try.results27, asAddr, hld]) rfl ⟨by rw [Hnow.out], (Below.refl _ w).alloc (Nat.le_refl _) _⟩
      · clear HST HLD
        go_wp2
        simp only [Try.sizeOf67, Result.andThen]
        rw [Oper.upon_value]
        go_wp2
        refine ⟨⟨trivial, k - 1, by omega, by congr 1; omega, ?_⟩, by simp only [intOf]; omega⟩
        rw [hfold]
        simp [putF, Ne.symm hx]

theorem read_any (p : Nat) (S : Nat → Prop) (D : DS) (n : Int) (w : World) (h : DiskI w p S D) (hok : D.Ok) (hwn : (Lit.int .i64 n).wf = true) (hlen : D.loose.length ≤ 140737488355328) :
    Calls Try.prog 27 #[.pointer (some ⟨p, 0, none⟩), .int .i64 n] w fun e w' => e = .returned (.tuple #[.agg (cu8 (D.read n).1).toArray, .int .i64 (D.read n).2]) ∧ Below w.heap.size w w' := by
  unfold DS.read
  cases hd : D.down with
  | true => exact read_no p S D n 44 w h (.inl ⟨hd, rfl⟩)
  | false =>
    by_cases hn : n < 0 ∨ D.blocks ≤ n
    · simp only [Bool.false_eq_true, if_false, if_pos hn]
      exact read_no p S D n 2 w h (.inr ⟨hd, hn, rfl⟩)
    · simp only [Bool.false_eq_true, if_false, if_neg hn]
      exact read_yes p S D n w h hok hd (by omega) (by omega) hwn hlen

end Go.Proofs.Ytcgokafhkkmaoaa
