/- Disk: blocks of 256 bytes; block. -/
import Derived.Test.YthmjgcmaoniejaaMp
import Derived.Deep.MidRow
import Derived.Deep.WholeRow
namespace Go.Proofs.Ythmjgcmaoniejaa
open Go.RowKit

def cu8 (l : List Int) : List Value := l.map (.int .u8)
theorem cu8_length (l : List Int) : (cu8 l).length = l.length := by simp [cu8]
theorem cu8_one (l : List Int) : ∀ v ∈ cu8 l, v.oneCell' = true := by
  intro v hv
  simp only [cu8, List.mem_map] at hv
  obtain ⟨x, _, rfl⟩ := hv; rfl
def noughts : List Int := List.replicate 256 0
theorem info_block : (Try.prog.info? 35).map (fun i => (i.zero, i.size)) = some (some (.agg (cu8 noughts).toArray), 256) := by kernel_rfl
theorem built_block : Try.prog.built 35 [] = some (cu8 noughts).toArray := by kernel_rfl

def blk (b : Int) : List Int := (List.range 256).map fun (i : Nat) => (b + (i : Int) * 3) % 256
theorem blk_length (b : Int) : (blk b).length = 256 := by simp [blk]

attribute [-simp] Try.isAgg35 Try.sizeOf35 Try.typeInfo35

set_option maxHeartbeats 1000000 in
theorem Blk.range {w : World} {b : Nat} {t : TypeId} {l : List Value} (h : Blk w b t l.toArray) : w.rangeAt b 0 l := fun j v hv => by
  rw [Nat.zero_add, h.cell j]; simpa using hv

theorem Chg.setCells {M : Nat → Prop} {w : World} {b : Nat} (hb : M b ∨ w.heap.size ≤ b) : ∀ (vs : List Value) (o : Nat) (w' : World), Chg M w w' → Chg M w (w'.setCells b o vs)
  | [], _, _, h => h
  | v :: r, o, _, h => Chg.setCells hb r (o + 1) _ (h.setCell (p := ⟨b, o, none⟩) hb v)

set_option maxRecDepth 100000 in
theorem block_any (b : Int) (w : World) :
    Calls Try.prog 12 #[.int .u8 b] w fun e w' => e = .returned (.agg (cu8 (blk b)).toArray) ∧ Below w.heap.size w w' := by
  obtain ⟨Z, hZ⟩ : ∃ Z, Z = (cu8 noughts).toArray := ⟨_, rfl⟩
  have hz := (zero_of_info info_block).1
  have hzs := (zero_of_info info_block).2
  have hbu := fun w => run_build (P := Try.prog) w 35 #[] _ built_block
  rw [← hZ] at hz hbu
  have hsz : Z.size = 256 := by rw [hZ, List.size_toArray, cu8_length, noughts, List.length_replicate]
  have h1 : Z.all (·.oneCell') = true := by rw [hZ]; exact all_oneCell_toArray (cu8_one _)
  have hst := run_storeCells_new (P := Try.prog) (w.alloc (.cells Z 35)) 35 Z Z (by rw [hsz]; exact hzs) rfl h1
  rw [World.size_alloc] at hst
  have HZ := Lib.hid hZ; clear hZ hzs h1
  obtain ⟨L, hL⟩ : ∃ L, L = blk b := ⟨_, rfl⟩
  have hLl : L.length = 256 := by rw [hL, blk_length]
  have hLk : Hid (∀ k : Nat, k < 256 → L[k]? = some ((b + (k : Int) * 3) % 256)) := Lib.hid fun k hk => by rw [hL, blk, List.getElem?_map, List.getElem?_range hk]; rfl
  have hLs : (cu8 L).toArray.size = 256 := by rw [List.size_toArray, cu8_length, hLl]
  rw [← hL]
  have HL := Lib.hid hL; clear hL
  have hso := Try.sizeOf35
  go_enter Try.func12, Try.ntmps12
  go_wp2
  clear hso hst hbu hz
  go_loopw [4] (fun i wr => ∃ (k : Nat) (l : List Int), k ≤ 256 ∧ i = .int .i64 k ∧ l.length = 256 ∧ Hid (l = L.take k ++ noughts.drop k) ∧ Blk wr w.heap.size 35 Z ∧ Blk wr (w.heap.size + 1) 35 (cu8 l).toArray ∧ Chg (fun _ => False) w wr) (fun i _ => 256 - (intOf i).toNat)
  case atStart =>
    refine ⟨0, noughts, by omega, rfl, by rw [noughts, List.length_replicate], Lib.hid (by simp), (Blk.new w _ _).alloc _, ?_, ((Chg.refl _ _).alloc _).alloc _⟩
    rw [← HZ.out]
    have := Blk.new (w.alloc (.cells Z 35)) 35 Z
    simpa using this
  case round =>
    obtain ⟨k, l, hk, rfl, hl, Hl, hb1, hb2, hch⟩ := hrel
    by_cases hlt : k < 256
    · have hc2 := hb2.cell k
      have hf2 := hb2.frozen k
      have e : (cu8 l).toArray[k]? = some (.int .u8 l[k]) := by simp [cu8, hl, hlt]
      rw [e] at hc2
      clear e
      go_wp2
      refine ⟨⟨k + 1, l.set k ((b + (k : Int) * 3) % 256), by omega, by go_num, by simpa using hl, Lib.hid ?_, hb1.far (p := ⟨w.heap.size + 1, k, none⟩) (by simp) _, ?_, hch.setNew (by omega) k _⟩, by simp [intOf]; omega⟩
      · apply List.ext_getElem?
        intro m
        rw [Hl.out]
        have e := hLk.out
        by_cases h1 : m = k
        · subst h1
          rw [List.getElem?_set_self (by simp [noughts]; omega), List.getElem?_append_left (by simp; omega), List.getElem?_take_of_lt (by omega), e m hlt]
        · rw [List.getElem?_set_ne (Ne.symm h1)]
          by_cases h2 : m < k
          · rw [List.getElem?_append_left (by simp; omega), List.getElem?_append_left (by simp; omega), List.getElem?_take_of_lt h2, List.getElem?_take_of_lt (by omega)]
          · rw [List.getElem?_append_right (by simp; omega), List.getElem?_append_right (by simp; omega), List.getElem?_drop, List.getElem?_drop]
            congr 1
            simp only [List.length_take]
            omega
      · have := hb2.set_ k (.int .u8 ((b + (k : Int) * 3) % 256))
        simpa [cu8, List.map_set] using this
    · have hk' : k = 256 := by omega
      have hl' : l = L := by
        rw [Hl.out, hk', List.take_of_length_le (by omega), List.drop_of_length_le (by rw [noughts, List.length_replicate]; omega), List.append_nil]
      have Hl' := Lib.hid hl'; clear hl' hk'
      have hlc : (loadCellsFrom ⟨w.heap.size + 1, 0, none⟩ 0 256 #[]).run Try.prog wr = .ok (cu8 l).toArray wr := by
        have := run_loadCells_list (P := Try.prog) wr ⟨w.heap.size + 1, 0, none⟩ (cu8 l) (fun j v hv => by rw [Addr.add_mid]; exact hb2.range j v hv)
        rw [cu8_length, hl] at this
        exact this
      have hsc : (storeCells ⟨w.heap.size, 0, none⟩ (cu8 l) 0).run Try.prog wr = .ok () (wr.setCells w.heap.size 0 (cu8 l)) := by
        have := run_storeCells_cells (P := Try.prog) w.heap.size 0 (cu8 l) 0 wr (fun j hj => ?_) (fun j hj => hb1.frozen _) (cu8_one _)
        · exact this
        · rw [hb1.cell]; simp only [Nat.zero_add]; rw [cu8_length, hl] at hj; simp [hsz, hj]
      have hcz : (cu8 l).toArray.size = 256 := by rw [List.size_toArray, cu8_length, hl]
      have hth : wr.there w.heap.size 0 (cu8 l).length := fun j hj => ⟨by rw [hb1.cell]; rw [cu8_length, hl] at hj; simp [hsz, hj], hb1.frozen _⟩
      have hld := run_loadVar_mid (P := Try.prog) _ w.heap.size 0 35 (cu8 l) _ (World.rangeAt_setCells_same wr w.heap.size 0 (cu8 l) hth) Try.underlying35 rfl (by rw [cu8_length, hl]; exact (zero_of_info info_block).2)
      clear hth
      go_wp2
      simp only [Try.isAgg35, Try.sizeOf35, Result.andThen, ↓reduceIte, hlc]
      rw [Oper.upon_value]
      go_wp2
      simp only [Try.sizeOf35, Result.andThen, ↓reduceIte, hsc]
      rw [Oper.upon_skip]
      go_wp2
      refine bodyPost_ret (v := .agg (cu8 l).toArray) ?_ rfl ⟨?_, ?_⟩
      · simp [results, Try.results12, Act.put, asAddr, hld]
      · rw [Hl'.out]
      · exact (Chg.setCells (.inr (Nat.le_refl _)) (cu8 l) 0 wr hch).below (Nat.le_refl _) (fun _ h => h.elim)

end Go.Proofs.Ythmjgcmaoniejaa
