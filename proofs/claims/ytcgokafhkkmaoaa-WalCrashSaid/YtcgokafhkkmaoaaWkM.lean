/- Wal: Open. -/
import Derived.Test.YtcgokafhkkmaoaaWkLb
namespace Go.Proofs.Ytcgokafhkkmaoaa
open Go.RowKit Go.Maps

attribute [-simp] Try.isAgg37 Try.sizeOf37 Try.typeInfo37

set_option maxHeartbeats 2000000 in
set_option maxRecDepth 100000 in
theorem open_dk {first size : Int} {w0 w : World} {p : Nat} {T : Nat → Prop} {D : DS} {B : Nat} (h : Dk w0 w p T D B) (hz : w0.heap.size ≤ w.heap.size) (hby : D.Byt) (hdn : D.down = false)
    (hfit : fitsB D.blocks first size = true) (hb1 : D.blocks ≤ 4096) (hB : (B + 4) * 264 ≤ 140737488355328) :
    Calls Try.prog 9 #[.pointer (some ⟨p, 0, none⟩), .int .i64 first, .int .i64 size] w (OpenP w p (openF D first size)) := by
  obtain ⟨⟨⟨hf0, hs0⟩, hs1⟩, hf1⟩ : ((0 ≤ first ∧ 2 < size) ∧ size ≤ D.blocks) ∧ first ≤ D.blocks - size := by simpa [fitsB] using hfit
  have hwr : IntKind.i64.wrap (D.blocks - size) = D.blocks - size := wrap64 _ (by omega) (by omega)
  have HWR := Lib.hid hwr; clear hwr
  have hb3 : (B + 3) * 264 ≤ 140737488355328 := by omega
  have hB1 : (B + 1) * 264 ≤ 140737488355328 := by omega
  have HFIT := Lib.hid hfit; clear hfit hB
  have HDN := Lib.hid hdn; clear hdn
  go_enter Try.func9, Try.ntmps9
  go_wp2_with fail
  obtain ⟨w1, hw1⟩ : ∃ w1, w1 = w.alloc (.cells #[.pointer (some ⟨p, 0, none⟩), .int .i64 first, .int .i64 size, .int .u64 0, .int .u64 0, .int .u64 0, .slice none 0 0, .slice none 0 0] 59) := ⟨_, rfl⟩
  rw [← hw1]
  obtain ⟨g, hg⟩ : ∃ g, g = w.heap.size := ⟨_, rfl⟩
  have hbk : LogB w1 g p first size 0 0 0 (.slice none 0 0) := by rw [hw1, hg]; exact Blk.new w _ _
  have hbl : Below w.heap.size w w1 := by rw [hw1]; exact (Below.refl _ w).alloc (Nat.le_refl _) _
  clear hw1
  rw [← hg]
  refine (fits_any w1 g p T D first size (h.below hbl).is hbk.reg HWR.out).mono ?_
  rintro e w2 ⟨rfl, nq, rfl⟩
  have hbl2 : Below w.heap.size w (w1.drewN nq) := below_drewN hbl nq
  have hbk2 : LogB (w1.drewN nq) g p first size 0 0 0 (.slice none 0 0) := Blk.drewN hbk nq
  generalize hw2 : w1.drewN nq = w2 at *
  clear hw2 hbl hbk w1
  rw [HFIT.out]
  have HG := Lib.hid hg; clear hg
  have hgn : w.heap.size ≤ g := Nat.le_of_eq HG.out.symm
  go_wp2_with fail
  go_loopw [10, 32] (fun s i wr => ∃ k : Nat, k ≤ 2 ∧ i = .int .i64 k ∧ s = .bool (bestAt D first k).isSome ∧ LogB wr g p first size (numO (bestAt D first k) 0) (numO (bestAt D first k) 8) (numO (bestAt D first k) 16) (.slice none 0 0) ∧ Below w.heap.size w wr) (fun _ i _ => 2 - (intOf i).toNat)
  case atStart => exact ⟨0, by omega, rfl, rfl, hbk2, hbl2⟩
  case round =>
    clear hbk2 hbl2
    obtain ⟨k, hk, rfl, rfl, hbr, hblr⟩ := hrel
    obtain ⟨o, ho⟩ : ∃ o, o = bestAt D first k := ⟨_, rfl⟩
    rw [← ho] at hbr ⊢
    have HO := Lib.hid ho; clear ho
    by_cases hk2 : k < 2
    · have hrd : (D.read (first + k)).2 = 0 := DS.read_ok HDN.out (by omega) (by omega)
      have hl := (look_dk (h.below hblr) hbr.reg (Blk.lt hbr) k hk2 hf0 (by omega) _ (hby.read _) hB1)
      rw [hrd] at hl
      have HL := Lib.hid hl; clear hl hrd
      obtain ⟨b, hb⟩ : ∃ b, b = D.bytes (first + k) := ⟨_, rfl⟩
      have hnext : bestAt D first (k + 1) = upd o b k := by rw [HO.out, hb]; rfl
      have HN := Lib.hid hnext; clear hnext
      rw [← hb] at HL
      clear hb
      have hc := Blk.cell hbr
      have hf := Blk.frozen hbr
      cases hok : lookB b k
      case false =>
        have hv : lookV b k 0 = #[.agg #[.int .u64 (num b 0), .int .u64 (num b 8), .int .u64 (num b 16)], .bool false, .int .i64 0] := by unfold lookV; rw [if_pos rfl, hok]
        have HV := Lib.hid hv; clear hv
        have HOK := Lib.hid hok; clear hok
        go_wp2_with fail
        refine HL.out.mono ?_
        rintro x w3 ⟨hb3, rfl⟩
        rw [HV.out]
        have hbr3 : LogB w3 g p first size (numO o 0) (numO o 8) (numO o 16) (.slice none 0 0) := Blk.below hbr hb3 (Blk.lt hbr)
        have hbl3 := hblr.trans (hb3.mono hblr.size)
        clear hc hf
        go_wp2_with fail
        obtain ⟨X, hX⟩ : ∃ X, X = w3.heap.size := ⟨_, rfl⟩
        obtain ⟨w4, hw4⟩ : ∃ w4, w4 = w3.alloc (.cells #[.int .u64 (num b 0), .int .u64 (num b 8), .int .u64 (num b 16)] 57) := ⟨_, rfl⟩
        have hbm : Blk w4 X 57 #[.int .u64 (num b 0), .int .u64 (num b 8), .int .u64 (num b 16)] := by rw [hw4, hX]; exact Blk.new w3 _ _
        have hbr4 : LogB w4 g p first size (numO o 0) (numO o 8) (numO o 16) (.slice none 0 0) := by rw [hw4]; exact Blk.alloc hbr3 _
        have hbl4 : Below w.heap.size w w4 := by rw [hw4]; exact hbl3.alloc hbl3.size _
        rw [← hw4, ← hX]
        clear hw4 hX hbr3 hbl3 hb3 hbr hblr w3
        cases o with
        | none =>
          refine wp_region_hoist [0, 1, 2, 3, 4, 5, 6, 7, 8, 9, 10, 11, 12, 13, 14] [] [] (fun w' => Blk w' X 57 #[.int .u64 (num b 0), .int .u64 (num b 8), .int .u64 (num b 16)] ∧ LogB w' g p first size (numO none 0) (numO none 8) (numO none 16) (.slice none 0 0))
            (by kernel_rfl) (by kernel_rfl) (by kernel_rfl) (by kernel_rfl) (by kernel_rfl) (by kernel_rfl) ⟨hbm.drew, hbr4⟩ ?_
          (refine HoistK.yes (by rfl) (by kernel_rfl) ⟨?_, fun w hSw => ?_, ?_⟩; rotate_left; (· obtain ⟨hy, hy2⟩ := hSw; have hyc := hy.cell; have hy2c := Blk.cell hy2; go_simp; try with_reducible rfl); simp only [Act.put, List.setIfInBounds_toArray, List.getElem_toArray, List.getElem_cons_zero, List.set_cons_succ, List.set_cons_zero])
          (refine HoistK.yes (by rfl) (by kernel_rfl) ⟨?_, fun w hSw => ?_, ?_⟩; rotate_left; (· obtain ⟨hy, hy2⟩ := hSw; have hyc := hy.cell; have hy2c := Blk.cell hy2; go_simp; try with_reducible rfl); simp only [Act.put, List.setIfInBounds_toArray, List.getElem_toArray, List.getElem_cons_succ, List.getElem_cons_zero, List.set_cons_succ, List.set_cons_zero])
          (refine HoistK.no (by rfl) (by kernel_rfl) ?_; simp only [Act.put, List.setIfInBounds_toArray, List.getElem_toArray, List.getElem_cons_succ, List.getElem_cons_zero, List.set_cons_succ, List.set_cons_zero])
          (refine HoistK.no (by rfl) (by kernel_rfl) ?_; simp only [Act.put, List.setIfInBounds_toArray, List.getElem_toArray, List.getElem_cons_succ, List.getElem_cons_zero, List.set_cons_succ, List.set_cons_zero])
          (refine HoistK.no (by rfl) (by kernel_rfl) ?_; simp only [Act.put, List.setIfInBounds_toArray, List.getElem_toArray, List.getElem_cons_succ, List.getElem_cons_zero, List.set_cons_succ, List.set_cons_zero])
          (refine HoistK.no (by rfl) (by kernel_rfl) ?_; simp only [Act.put, List.setIfInBounds_toArray, List.getElem_toArray, List.getElem_cons_succ, List.getElem_cons_zero, List.set_cons_succ, List.set_cons_zero])
          (refine HoistK.no (by rfl) (by kernel_rfl) ?_; simp only [Act.put, List.setIfInBounds_toArray, List.getElem_toArray, List.getElem_cons_succ, List.getElem_cons_zero, List.set_cons_succ, List.set_cons_zero])
          (refine HoistK.no (by rfl) (by kernel_rfl) ?_; simp only [Act.put, List.setIfInBounds_toArray, List.getElem_toArray, List.getElem_cons_succ, List.getElem_cons_zero, List.set_cons_succ, List.set_cons_zero])
          (refine HoistK.no (by rfl) (by kernel_rfl) ?_; simp only [Act.put, List.setIfInBounds_toArray, List.getElem_toArray, List.getElem_cons_succ, List.getElem_cons_zero, List.set_cons_succ, List.set_cons_zero])
          (refine HoistK.no (by rfl) (by kernel_rfl) ?_; simp only [Act.put, List.setIfInBounds_toArray, List.getElem_toArray, List.getElem_cons_succ, List.getElem_cons_zero, List.set_cons_succ, List.set_cons_zero])
          (refine HoistK.no (by rfl) (by kernel_rfl) ?_; simp only [Act.put, List.setIfInBounds_toArray, List.getElem_toArray, List.getElem_cons_succ, List.getElem_cons_zero, List.set_cons_succ, List.set_cons_zero])
          (refine HoistK.no (by rfl) (by kernel_rfl) ?_; simp only [Act.put, List.setIfInBounds_toArray, List.getElem_toArray, List.getElem_cons_succ, List.getElem_cons_zero, List.set_cons_succ, List.set_cons_zero])
          (refine HoistK.no (by rfl) (by kernel_rfl) ?_; simp only [Act.put, List.setIfInBounds_toArray, List.getElem_toArray, List.getElem_cons_succ, List.getElem_cons_zero, List.set_cons_succ, List.set_cons_zero])
          (refine HoistK.no (by rfl) (by kernel_rfl) ?_; simp only [Act.put, List.setIfInBounds_toArray, List.getElem_toArray, List.getElem_cons_succ, List.getElem_cons_zero, List.set_cons_succ, List.set_cons_zero])
          (refine HoistK.yes (by rfl) (by kernel_rfl) ⟨?_, fun w hSw => ?_, ?_⟩; rotate_left; (· obtain ⟨hy, hy2⟩ := hSw; have hyc := hy.cell; have hy2c := Blk.cell hy2; go_simp; try with_reducible rfl); simp only [Act.put, List.setIfInBounds_toArray, List.getElem_toArray, List.getElem_cons_succ, List.getElem_cons_zero, List.set_cons_succ, List.set_cons_zero])
          refine HoistK.nil_ ?_
          simp only [opsAt, List.filterMap_nil]
          refine Effects.nil_ fun _ hQ2 => ?_
          go_wp2_with fail
          have hu : bestAt D first (k + 1) = none := by rw [HN.out]; unfold upd; rw [HOK.out]; rfl
          refine ⟨⟨k + 1, by omega, by go_num, by rw [hu] <;> rfl, by rw [hu]; exact hbr4, hbl4.drew⟩, by simp only [intOf]; omega⟩
        | some a =>
          refine wp_region_hoist [0, 1, 2, 3, 4, 5, 6, 7, 8, 9, 10, 11, 12, 13, 14] [] [] (fun w' => Blk w' X 57 #[.int .u64 (num b 0), .int .u64 (num b 8), .int .u64 (num b 16)] ∧ LogB w' g p first size (numO (some a) 0) (numO (some a) 8) (numO (some a) 16) (.slice none 0 0))
            (by kernel_rfl) (by kernel_rfl) (by kernel_rfl) (by kernel_rfl) (by kernel_rfl) (by kernel_rfl) ⟨hbm.drew, hbr4⟩ ?_
          (refine HoistK.yes (by rfl) (by kernel_rfl) ⟨?_, fun w hSw => ?_, ?_⟩; rotate_left; (· obtain ⟨hy, hy2⟩ := hSw; have hyc := hy.cell; have hy2c := Blk.cell hy2; go_simp; try with_reducible rfl); simp only [Act.put, List.setIfInBounds_toArray, List.getElem_toArray, List.getElem_cons_zero, List.set_cons_succ, List.set_cons_zero])
          (refine HoistK.yes (by rfl) (by kernel_rfl) ⟨?_, fun w hSw => ?_, ?_⟩; rotate_left; (· obtain ⟨hy, hy2⟩ := hSw; have hyc := hy.cell; have hy2c := Blk.cell hy2; go_simp; try with_reducible rfl); simp only [Act.put, List.setIfInBounds_toArray, List.getElem_toArray, List.getElem_cons_succ, List.getElem_cons_zero, List.set_cons_succ, List.set_cons_zero])
          (refine HoistK.no (by rfl) (by kernel_rfl) ?_; simp only [Act.put, List.setIfInBounds_toArray, List.getElem_toArray, List.getElem_cons_succ, List.getElem_cons_zero, List.set_cons_succ, List.set_cons_zero])
          (refine HoistK.no (by rfl) (by kernel_rfl) ?_; simp only [Act.put, List.setIfInBounds_toArray, List.getElem_toArray, List.getElem_cons_succ, List.getElem_cons_zero, List.set_cons_succ, List.set_cons_zero])
          (refine HoistK.no (by rfl) (by kernel_rfl) ?_; simp only [Act.put, List.setIfInBounds_toArray, List.getElem_toArray, List.getElem_cons_succ, List.getElem_cons_zero, List.set_cons_succ, List.set_cons_zero])
          (refine HoistK.no (by rfl) (by kernel_rfl) ?_; simp only [Act.put, List.setIfInBounds_toArray, List.getElem_toArray, List.getElem_cons_succ, List.getElem_cons_zero, List.set_cons_succ, List.set_cons_zero])
          (refine HoistK.no (by rfl) (by kernel_rfl) ?_; simp only [Act.put, List.setIfInBounds_toArray, List.getElem_toArray, List.getElem_cons_succ, List.getElem_cons_zero, List.set_cons_succ, List.set_cons_zero])
          (refine HoistK.no (by rfl) (by kernel_rfl) ?_; simp only [Act.put, List.setIfInBounds_toArray, List.getElem_toArray, List.getElem_cons_succ, List.getElem_cons_zero, List.set_cons_succ, List.set_cons_zero])
          (refine HoistK.no (by rfl) (by kernel_rfl) ?_; simp only [Act.put, List.setIfInBounds_toArray, List.getElem_toArray, List.getElem_cons_succ, List.getElem_cons_zero, List.set_cons_succ, List.set_cons_zero])
          (refine HoistK.no (by rfl) (by kernel_rfl) ?_; simp only [Act.put, List.setIfInBounds_toArray, List.getElem_toArray, List.getElem_cons_succ, List.getElem_cons_zero, List.set_cons_succ, List.set_cons_zero])
          (refine HoistK.no (by rfl) (by kernel_rfl) ?_; simp only [Act.put, List.setIfInBounds_toArray, List.getElem_toArray, List.getElem_cons_succ, List.getElem_cons_zero, List.set_cons_succ, List.set_cons_zero])
          (refine HoistK.no (by rfl) (by kernel_rfl) ?_; simp only [Act.put, List.setIfInBounds_toArray, List.getElem_toArray, List.getElem_cons_succ, List.getElem_cons_zero, List.set_cons_succ, List.set_cons_zero])
          (refine HoistK.no (by rfl) (by kernel_rfl) ?_; simp only [Act.put, List.setIfInBounds_toArray, List.getElem_toArray, List.getElem_cons_succ, List.getElem_cons_zero, List.set_cons_succ, List.set_cons_zero])
          (refine HoistK.no (by rfl) (by kernel_rfl) ?_; simp only [Act.put, List.setIfInBounds_toArray, List.getElem_toArray, List.getElem_cons_succ, List.getElem_cons_zero, List.set_cons_succ, List.set_cons_zero])
          (refine HoistK.yes (by rfl) (by kernel_rfl) ⟨?_, fun w hSw => ?_, ?_⟩; rotate_left; (· obtain ⟨hy, hy2⟩ := hSw; have hyc := hy.cell; have hy2c := Blk.cell hy2; go_simp; try with_reducible rfl); simp only [Act.put, List.setIfInBounds_toArray, List.getElem_toArray, List.getElem_cons_succ, List.getElem_cons_zero, List.set_cons_succ, List.set_cons_zero])
          refine HoistK.nil_ ?_
          simp only [opsAt, List.filterMap_nil]
          refine Effects.nil_ fun _ hQ2 => ?_
          go_wp2_with fail
          have hu : bestAt D first (k + 1) = some a := by rw [HN.out]; unfold upd; rw [HOK.out]; rfl
          refine ⟨⟨k + 1, by omega, by go_num, by rw [hu] <;> rfl, by rw [hu]; exact hbr4, hbl4.drew⟩, by simp only [intOf]; omega⟩
      case true =>
        have hv : lookV b k 0 = #[.agg #[.int .u64 (num b 0), .int .u64 (num b 8), .int .u64 (num b 16)], .bool true, .int .i64 0] := by unfold lookV; rw [if_pos rfl, hok]
        have HV := Lib.hid hv; clear hv
        have HOK := Lib.hid hok; clear hok
        go_wp2_with fail
        refine HL.out.mono ?_
        rintro x w3 ⟨hb3, rfl⟩
        rw [HV.out]
        have hbr3 : LogB w3 g p first size (numO o 0) (numO o 8) (numO o 16) (.slice none 0 0) := Blk.below hbr hb3 (Blk.lt hbr)
        have hbl3 := hblr.trans (hb3.mono hblr.size)
        clear hc hf
        go_wp2_with fail
        obtain ⟨X, hX⟩ : ∃ X, X = w3.heap.size := ⟨_, rfl⟩
        obtain ⟨w4, hw4⟩ : ∃ w4, w4 = w3.alloc (.cells #[.int .u64 (num b 0), .int .u64 (num b 8), .int .u64 (num b 16)] 57) := ⟨_, rfl⟩
        have hbm : Blk w4 X 57 #[.int .u64 (num b 0), .int .u64 (num b 8), .int .u64 (num b 16)] := by rw [hw4, hX]; exact Blk.new w3 _ _
        have hbr4 : LogB w4 g p first size (numO o 0) (numO o 8) (numO o 16) (.slice none 0 0) := by rw [hw4]; exact Blk.alloc hbr3 _
        have hbl4 : Below w.heap.size w w4 := by rw [hw4]; exact hbl3.alloc hbl3.size _
        rw [← hw4, ← hX]
        clear hw4 hX hbr3 hbl3 hb3 hbr hblr w3
        cases o with
        | none =>
          refine wp_region_hoist [0, 1, 2, 3, 4, 5, 6, 7, 8, 9, 10, 11, 12, 13, 14] [] [] (fun w' => Blk w' X 57 #[.int .u64 (num b 0), .int .u64 (num b 8), .int .u64 (num b 16)] ∧ LogB w' g p first size (numO none 0) (numO none 8) (numO none 16) (.slice none 0 0))
            (by kernel_rfl) (by kernel_rfl) (by kernel_rfl) (by kernel_rfl) (by kernel_rfl) (by kernel_rfl) ⟨hbm.drew, hbr4⟩ ?_
          (refine HoistK.yes (by rfl) (by kernel_rfl) ⟨?_, fun w hSw => ?_, ?_⟩; rotate_left; (· obtain ⟨hy, hy2⟩ := hSw; have hyc := hy.cell; have hy2c := Blk.cell hy2; go_simp; try with_reducible rfl); simp only [Act.put, List.setIfInBounds_toArray, List.getElem_toArray, List.getElem_cons_zero, List.set_cons_succ, List.set_cons_zero])
          (refine HoistK.yes (by rfl) (by kernel_rfl) ⟨?_, fun w hSw => ?_, ?_⟩; rotate_left; (· obtain ⟨hy, hy2⟩ := hSw; have hyc := hy.cell; have hy2c := Blk.cell hy2; go_simp; try with_reducible rfl); simp only [Act.put, List.setIfInBounds_toArray, List.getElem_toArray, List.getElem_cons_succ, List.getElem_cons_zero, List.set_cons_succ, List.set_cons_zero])
          (refine HoistK.yes (by rfl) (by kernel_rfl) ⟨?_, fun w hSw => ?_, ?_⟩; rotate_left; (· obtain ⟨hy, hy2⟩ := hSw; have hyc := hy.cell; have hy2c := Blk.cell hy2; go_simp; try with_reducible rfl); simp only [Act.put, List.setIfInBounds_toArray, List.getElem_toArray, List.getElem_cons_succ, List.getElem_cons_zero, List.set_cons_succ, List.set_cons_zero])
          (refine HoistK.yes (by rfl) (by kernel_rfl) ⟨?_, fun w hSw => ?_, ?_⟩; rotate_left; (· obtain ⟨hy, hy2⟩ := hSw; have hyc := hy.cell; have hy2c := Blk.cell hy2; go_simp; try with_reducible rfl); simp only [Act.put, List.setIfInBounds_toArray, List.getElem_toArray, List.getElem_cons_succ, List.getElem_cons_zero, List.set_cons_succ, List.set_cons_zero])
          (refine HoistK.yes (by rfl) (by kernel_rfl) ⟨?_, fun w hSw => ?_, ?_⟩; rotate_left; (· obtain ⟨hy, hy2⟩ := hSw; have hyc := hy.cell; have hy2c := Blk.cell hy2; go_simp; try with_reducible rfl); simp only [Act.put, List.setIfInBounds_toArray, List.getElem_toArray, List.getElem_cons_succ, List.getElem_cons_zero, List.set_cons_succ, List.set_cons_zero])
          (refine HoistK.no (by rfl) (by kernel_rfl) ?_; simp only [Act.put, List.setIfInBounds_toArray, List.getElem_toArray, List.getElem_cons_succ, List.getElem_cons_zero, List.set_cons_succ, List.set_cons_zero])
          (refine HoistK.no (by rfl) (by kernel_rfl) ?_; simp only [Act.put, List.setIfInBounds_toArray, List.getElem_toArray, List.getElem_cons_succ, List.getElem_cons_zero, List.set_cons_succ, List.set_cons_zero])
          (refine HoistK.no (by rfl) (by kernel_rfl) ?_; simp only [Act.put, List.setIfInBounds_toArray, List.getElem_toArray, List.getElem_cons_succ, List.getElem_cons_zero, List.set_cons_succ, List.set_cons_zero])
          (refine HoistK.no (by rfl) (by kernel_rfl) ?_; simp only [Act.put, List.setIfInBounds_toArray, List.getElem_toArray, List.getElem_cons_succ, List.getElem_cons_zero, List.set_cons_succ, List.set_cons_zero])
          (refine HoistK.no (by rfl) (by kernel_rfl) ?_; simp only [Act.put, List.setIfInBounds_toArray, List.getElem_toArray, List.getElem_cons_succ, List.getElem_cons_zero, List.set_cons_succ, List.set_cons_zero])
          (refine HoistK.no (by rfl) (by kernel_rfl) ?_; simp only [Act.put, List.setIfInBounds_toArray, List.getElem_toArray, List.getElem_cons_succ, List.getElem_cons_zero, List.set_cons_succ, List.set_cons_zero])
          (refine HoistK.no (by rfl) (by kernel_rfl) ?_; simp only [Act.put, List.setIfInBounds_toArray, List.getElem_toArray, List.getElem_cons_succ, List.getElem_cons_zero, List.set_cons_succ, List.set_cons_zero])
          (refine HoistK.no (by rfl) (by kernel_rfl) ?_; simp only [Act.put, List.setIfInBounds_toArray, List.getElem_toArray, List.getElem_cons_succ, List.getElem_cons_zero, List.set_cons_succ, List.set_cons_zero])
          (refine HoistK.yes (by rfl) (by kernel_rfl) ⟨?_, fun w hSw => ?_, ?_⟩; rotate_left; (· obtain ⟨hy, hy2⟩ := hSw; have hyc := hy.cell; have hy2c := Blk.cell hy2; go_simp; try with_reducible rfl); simp only [Act.put, List.setIfInBounds_toArray, List.getElem_toArray, List.getElem_cons_succ, List.getElem_cons_zero, List.set_cons_succ, List.set_cons_zero])
          (refine HoistK.yes (by rfl) (by kernel_rfl) ⟨?_, fun w hSw => ?_, ?_⟩; rotate_left; (· obtain ⟨hy, hy2⟩ := hSw; have hyc := hy.cell; have hy2c := Blk.cell hy2; go_simp; try with_reducible rfl); simp only [Act.put, List.setIfInBounds_toArray, List.getElem_toArray, List.getElem_cons_succ, List.getElem_cons_zero, List.set_cons_succ, List.set_cons_zero])
          refine HoistK.nil_ ?_
          simp only [opsAt, List.filterMap_nil]
          refine Effects.nil_ fun _ hQ2 => ?_
          have hu : bestAt D first (k + 1) = some b := by rw [HN.out]; unfold upd; rw [HOK.out]; rfl
          have hc := Blk.cell hbr4
          have hf := Blk.frozen hbr4
          have hmc := hbm.cell
          have HBR4 := Lib.hid hbr4; clear hbr4
          have HU := Lib.hid hu; clear hu
          go_wp2_with fail
          refine ⟨⟨k + 1, by omega, by go_num, by rw [HU.out] <;> rfl, by rw [HU.out]; exact ((HBR4.out.set_ 3 (.int .u64 (num b 0))).set_ 4 (.int .u64 (num b 8))).set_ 5 (.int .u64 (num b 16)), (((hbl4.setCell (p := ⟨g, 3, none⟩) hgn _).setCell (p := ⟨g, 4, none⟩) hgn _).setCell (p := ⟨g, 5, none⟩) hgn _).drew⟩, by simp only [intOf]; omega⟩
        | some a =>
          by_cases hgt : num a 0 < num b 0
          · have hgi : (num a 0 : Int) < num b 0 := by omega
            refine wp_region_hoist [0, 1, 2, 3, 4, 5, 6, 7, 8, 9, 10, 11, 12, 13, 14] [] [] (fun w' => Blk w' X 57 #[.int .u64 (num b 0), .int .u64 (num b 8), .int .u64 (num b 16)] ∧ LogB w' g p first size (numO (some a) 0) (numO (some a) 8) (numO (some a) 16) (.slice none 0 0))
              (by kernel_rfl) (by kernel_rfl) (by kernel_rfl) (by kernel_rfl) (by kernel_rfl) (by kernel_rfl) ⟨hbm.drew, hbr4⟩ ?_
            (refine HoistK.yes (by rfl) (by kernel_rfl) ⟨?_, fun w hSw => ?_, ?_⟩; rotate_left; (· obtain ⟨hy, hy2⟩ := hSw; have hyc := hy.cell; have hy2c := Blk.cell hy2; go_simp; try with_reducible rfl); simp only [Act.put, List.setIfInBounds_toArray, List.getElem_toArray, List.getElem_cons_zero, List.set_cons_succ, List.set_cons_zero])
            (refine HoistK.yes (by rfl) (by kernel_rfl) ⟨?_, fun w hSw => ?_, ?_⟩; rotate_left; (· obtain ⟨hy, hy2⟩ := hSw; have hyc := hy.cell; have hy2c := Blk.cell hy2; go_simp; try with_reducible rfl); simp only [Act.put, List.setIfInBounds_toArray, List.getElem_toArray, List.getElem_cons_succ, List.getElem_cons_zero, List.set_cons_succ, List.set_cons_zero])
            (refine HoistK.yes (by rfl) (by kernel_rfl) ⟨?_, fun w hSw => ?_, ?_⟩; rotate_left; (· obtain ⟨hy, hy2⟩ := hSw; have hyc := hy.cell; have hy2c := Blk.cell hy2; go_simp; try with_reducible rfl); simp only [Act.put, List.setIfInBounds_toArray, List.getElem_toArray, List.getElem_cons_succ, List.getElem_cons_zero, List.set_cons_succ, List.set_cons_zero])
            (refine HoistK.yes (by rfl) (by kernel_rfl) ⟨?_, fun w hSw => ?_, ?_⟩; rotate_left; (· obtain ⟨hy, hy2⟩ := hSw; have hyc := hy.cell; have hy2c := Blk.cell hy2; go_simp; try with_reducible rfl); simp only [Act.put, List.setIfInBounds_toArray, List.getElem_toArray, List.getElem_cons_succ, List.getElem_cons_zero, List.set_cons_succ, List.set_cons_zero])
            (refine HoistK.yes (by rfl) (by kernel_rfl) ⟨?_, fun w hSw => ?_, ?_⟩; rotate_left; (· obtain ⟨hy, hy2⟩ := hSw; have hyc := hy.cell; have hy2c := Blk.cell hy2; go_simp; try with_reducible rfl); simp only [Act.put, List.setIfInBounds_toArray, List.getElem_toArray, List.getElem_cons_succ, List.getElem_cons_zero, List.set_cons_succ, List.set_cons_zero])
            (refine HoistK.yes (by rfl) (by kernel_rfl) ⟨?_, fun w hSw => ?_, ?_⟩; rotate_left; (· obtain ⟨hy, hy2⟩ := hSw; have hyc := hy.cell; have hy2c := Blk.cell hy2; go_simp; try with_reducible rfl); simp only [Act.put, List.setIfInBounds_toArray, List.getElem_toArray, List.getElem_cons_succ, List.getElem_cons_zero, List.set_cons_succ, List.set_cons_zero])
            (refine HoistK.yes (by rfl) (by kernel_rfl) ⟨?_, fun w hSw => ?_, ?_⟩; rotate_left; (· obtain ⟨hy, hy2⟩ := hSw; have hyc := hy.cell; have hy2c := Blk.cell hy2; go_simp; try with_reducible rfl); simp only [Act.put, List.setIfInBounds_toArray, List.getElem_toArray, List.getElem_cons_succ, List.getElem_cons_zero, List.set_cons_succ, List.set_cons_zero])
            (refine HoistK.yes (by rfl) (by kernel_rfl) ⟨?_, fun w hSw => ?_, ?_⟩; rotate_left; (· obtain ⟨hy, hy2⟩ := hSw; have hyc := hy.cell; have hy2c := Blk.cell hy2; go_simp; try with_reducible rfl); simp only [Act.put, List.setIfInBounds_toArray, List.getElem_toArray, List.getElem_cons_succ, List.getElem_cons_zero, List.set_cons_succ, List.set_cons_zero])
            (refine HoistK.yes (by rfl) (by kernel_rfl) ⟨?_, fun w hSw => ?_, ?_⟩; rotate_left; (· obtain ⟨hy, hy2⟩ := hSw; have hyc := hy.cell; have hy2c := Blk.cell hy2; go_simp; try with_reducible rfl); simp only [Act.put, List.setIfInBounds_toArray, List.getElem_toArray, List.getElem_cons_succ, List.getElem_cons_zero, List.set_cons_succ, List.set_cons_zero])
            (refine HoistK.yes (by rfl) (by kernel_rfl) ⟨?_, fun w hSw => ?_, ?_⟩; rotate_left; (· obtain ⟨hy, hy2⟩ := hSw; have hyc := hy.cell; have hy2c := Blk.cell hy2; go_simp; try with_reducible rfl); simp only [Act.put, List.setIfInBounds_toArray, List.getElem_toArray, List.getElem_cons_succ, List.getElem_cons_zero, List.set_cons_succ, List.set_cons_zero])
            (refine HoistK.yes (by rfl) (by kernel_rfl) ⟨?_, fun w hSw => ?_, ?_⟩; rotate_left; (· obtain ⟨hy, hy2⟩ := hSw; have hyc := hy.cell; have hy2c := Blk.cell hy2; go_simp; try with_reducible rfl); simp only [Act.put, List.setIfInBounds_toArray, List.getElem_toArray, List.getElem_cons_succ, List.getElem_cons_zero, List.set_cons_succ, List.set_cons_zero])
            (refine HoistK.yes (by rfl) (by kernel_rfl) ⟨?_, fun w hSw => ?_, ?_⟩; rotate_left; (· obtain ⟨hy, hy2⟩ := hSw; have hyc := hy.cell; have hy2c := Blk.cell hy2; go_simp; try with_reducible rfl); simp only [Act.put, List.setIfInBounds_toArray, List.getElem_toArray, List.getElem_cons_succ, List.getElem_cons_zero, List.set_cons_succ, List.set_cons_zero])
            (refine HoistK.yes (by rfl) (by kernel_rfl) ⟨?_, fun w hSw => ?_, ?_⟩; rotate_left; (· obtain ⟨hy, hy2⟩ := hSw; have hyc := hy.cell; have hy2c := Blk.cell hy2; go_simp; try with_reducible rfl); simp only [Act.put, List.setIfInBounds_toArray, List.getElem_toArray, List.getElem_cons_succ, List.getElem_cons_zero, List.set_cons_succ, List.set_cons_zero])
            (refine HoistK.yes (by rfl) (by kernel_rfl) ⟨?_, fun w hSw => ?_, ?_⟩; rotate_left; (· obtain ⟨hy, hy2⟩ := hSw; have hyc := hy.cell; have hy2c := Blk.cell hy2; go_simp; try with_reducible rfl); simp only [Act.put, List.setIfInBounds_toArray, List.getElem_toArray, List.getElem_cons_succ, List.getElem_cons_zero, List.set_cons_succ, List.set_cons_zero])
            (refine HoistK.yes (by rfl) (by kernel_rfl) ⟨?_, fun w hSw => ?_, ?_⟩; rotate_left; (· obtain ⟨hy, hy2⟩ := hSw; have hyc := hy.cell; have hy2c := Blk.cell hy2; go_simp; try with_reducible rfl); simp only [Act.put, List.setIfInBounds_toArray, List.getElem_toArray, List.getElem_cons_succ, List.getElem_cons_zero, List.set_cons_succ, List.set_cons_zero])
            refine HoistK.nil_ ?_
            simp only [opsAt, List.filterMap_nil]
            refine Effects.nil_ fun _ hQ2 => ?_
            have hu : bestAt D first (k + 1) = some b := by rw [HN.out]; unfold upd; rw [HOK.out]; simp [hgt]
            have hc := Blk.cell hbr4
            have hf := Blk.frozen hbr4
            have hmc := hbm.cell
            have HBR4 := Lib.hid hbr4; clear hbr4
            have HU := Lib.hid hu; clear hu
            go_wp2_with fail
            refine ⟨⟨k + 1, by omega, by go_num, by rw [HU.out] <;> rfl, by rw [HU.out]; exact ((HBR4.out.set_ 3 (.int .u64 (num b 0))).set_ 4 (.int .u64 (num b 8))).set_ 5 (.int .u64 (num b 16)), (((hbl4.setCell (p := ⟨g, 3, none⟩) hgn _).setCell (p := ⟨g, 4, none⟩) hgn _).setCell (p := ⟨g, 5, none⟩) hgn _).drew⟩, by simp only [intOf]; omega⟩
          · have hgi : ¬ (num a 0 : Int) < num b 0 := by omega
            refine wp_region_hoist [0, 1, 2, 3, 4, 5, 6, 7, 8, 9, 10, 11, 12, 13, 14] [] [] (fun w' => Blk w' X 57 #[.int .u64 (num b 0), .int .u64 (num b 8), .int .u64 (num b 16)] ∧ LogB w' g p first size (numO (some a) 0) (numO (some a) 8) (numO (some a) 16) (.slice none 0 0))
              (by kernel_rfl) (by kernel_rfl) (by kernel_rfl) (by kernel_rfl) (by kernel_rfl) (by kernel_rfl) ⟨hbm.drew, hbr4⟩ ?_
            (refine HoistK.yes (by rfl) (by kernel_rfl) ⟨?_, fun w hSw => ?_, ?_⟩; rotate_left; (· obtain ⟨hy, hy2⟩ := hSw; have hyc := hy.cell; have hy2c := Blk.cell hy2; go_simp; try with_reducible rfl); simp only [Act.put, List.setIfInBounds_toArray, List.getElem_toArray, List.getElem_cons_zero, List.set_cons_succ, List.set_cons_zero])
            (refine HoistK.yes (by rfl) (by kernel_rfl) ⟨?_, fun w hSw => ?_, ?_⟩; rotate_left; (· obtain ⟨hy, hy2⟩ := hSw; have hyc := hy.cell; have hy2c := Blk.cell hy2; go_simp; try with_reducible rfl); simp only [Act.put, List.setIfInBounds_toArray, List.getElem_toArray, List.getElem_cons_succ, List.getElem_cons_zero, List.set_cons_succ, List.set_cons_zero])
            (refine HoistK.yes (by rfl) (by kernel_rfl) ⟨?_, fun w hSw => ?_, ?_⟩; rotate_left; (· obtain ⟨hy, hy2⟩ := hSw; have hyc := hy.cell; have hy2c := Blk.cell hy2; go_simp; try with_reducible rfl); simp only [Act.put, List.setIfInBounds_toArray, List.getElem_toArray, List.getElem_cons_succ, List.getElem_cons_zero, List.set_cons_succ, List.set_cons_zero])
            (refine HoistK.yes (by rfl) (by kernel_rfl) ⟨?_, fun w hSw => ?_, ?_⟩; rotate_left; (· obtain ⟨hy, hy2⟩ := hSw; have hyc := hy.cell; have hy2c := Blk.cell hy2; go_simp; try with_reducible rfl); simp only [Act.put, List.setIfInBounds_toArray, List.getElem_toArray, List.getElem_cons_succ, List.getElem_cons_zero, List.set_cons_succ, List.set_cons_zero])
            (refine HoistK.yes (by rfl) (by kernel_rfl) ⟨?_, fun w hSw => ?_, ?_⟩; rotate_left; (· obtain ⟨hy, hy2⟩ := hSw; have hyc := hy.cell; have hy2c := Blk.cell hy2; go_simp; try with_reducible rfl); simp only [Act.put, List.setIfInBounds_toArray, List.getElem_toArray, List.getElem_cons_succ, List.getElem_cons_zero, List.set_cons_succ, List.set_cons_zero])
            (refine HoistK.yes (by rfl) (by kernel_rfl) ⟨?_, fun w hSw => ?_, ?_⟩; rotate_left; (· obtain ⟨hy, hy2⟩ := hSw; have hyc := hy.cell; have hy2c := Blk.cell hy2; go_simp; try with_reducible rfl); simp only [Act.put, List.setIfInBounds_toArray, List.getElem_toArray, List.getElem_cons_succ, List.getElem_cons_zero, List.set_cons_succ, List.set_cons_zero])
            (refine HoistK.yes (by rfl) (by kernel_rfl) ⟨?_, fun w hSw => ?_, ?_⟩; rotate_left; (· obtain ⟨hy, hy2⟩ := hSw; have hyc := hy.cell; have hy2c := Blk.cell hy2; go_simp; try with_reducible rfl); simp only [Act.put, List.setIfInBounds_toArray, List.getElem_toArray, List.getElem_cons_succ, List.getElem_cons_zero, List.set_cons_succ, List.set_cons_zero])
            (refine HoistK.yes (by rfl) (by kernel_rfl) ⟨?_, fun w hSw => ?_, ?_⟩; rotate_left; (· obtain ⟨hy, hy2⟩ := hSw; have hyc := hy.cell; have hy2c := Blk.cell hy2; go_simp; try with_reducible rfl); simp only [Act.put, List.setIfInBounds_toArray, List.getElem_toArray, List.getElem_cons_succ, List.getElem_cons_zero, List.set_cons_succ, List.set_cons_zero])
            (refine HoistK.yes (by rfl) (by kernel_rfl) ⟨?_, fun w hSw => ?_, ?_⟩; rotate_left; (· obtain ⟨hy, hy2⟩ := hSw; have hyc := hy.cell; have hy2c := Blk.cell hy2; go_simp; try with_reducible rfl); simp only [Act.put, List.setIfInBounds_toArray, List.getElem_toArray, List.getElem_cons_succ, List.getElem_cons_zero, List.set_cons_succ, List.set_cons_zero])
            (refine HoistK.yes (by rfl) (by kernel_rfl) ⟨?_, fun w hSw => ?_, ?_⟩; rotate_left; (· obtain ⟨hy, hy2⟩ := hSw; have hyc := hy.cell; have hy2c := Blk.cell hy2; go_simp; try with_reducible rfl); simp only [Act.put, List.setIfInBounds_toArray, List.getElem_toArray, List.getElem_cons_succ, List.getElem_cons_zero, List.set_cons_succ, List.set_cons_zero])
            (refine HoistK.yes (by rfl) (by kernel_rfl) ⟨?_, fun w hSw => ?_, ?_⟩; rotate_left; (· obtain ⟨hy, hy2⟩ := hSw; have hyc := hy.cell; have hy2c := Blk.cell hy2; go_simp; try with_reducible rfl); simp only [Act.put, List.setIfInBounds_toArray, List.getElem_toArray, List.getElem_cons_succ, List.getElem_cons_zero, List.set_cons_succ, List.set_cons_zero])
            (refine HoistK.yes (by rfl) (by kernel_rfl) ⟨?_, fun w hSw => ?_, ?_⟩; rotate_left; (· obtain ⟨hy, hy2⟩ := hSw; have hyc := hy.cell; have hy2c := Blk.cell hy2; go_simp; try with_reducible rfl); simp only [Act.put, List.setIfInBounds_toArray, List.getElem_toArray, List.getElem_cons_succ, List.getElem_cons_zero, List.set_cons_succ, List.set_cons_zero])
            (refine HoistK.yes (by rfl) (by kernel_rfl) ⟨?_, fun w hSw => ?_, ?_⟩; rotate_left; (· obtain ⟨hy, hy2⟩ := hSw; have hyc := hy.cell; have hy2c := Blk.cell hy2; go_simp; try with_reducible rfl); simp only [Act.put, List.setIfInBounds_toArray, List.getElem_toArray, List.getElem_cons_succ, List.getElem_cons_zero, List.set_cons_succ, List.set_cons_zero])
            (refine HoistK.yes (by rfl) (by kernel_rfl) ⟨?_, fun w hSw => ?_, ?_⟩; rotate_left; (· obtain ⟨hy, hy2⟩ := hSw; have hyc := hy.cell; have hy2c := Blk.cell hy2; go_simp; try with_reducible rfl); simp only [Act.put, List.setIfInBounds_toArray, List.getElem_toArray, List.getElem_cons_succ, List.getElem_cons_zero, List.set_cons_succ, List.set_cons_zero])
            (refine HoistK.yes (by rfl) (by kernel_rfl) ⟨?_, fun w hSw => ?_, ?_⟩; rotate_left; (· obtain ⟨hy, hy2⟩ := hSw; have hyc := hy.cell; have hy2c := Blk.cell hy2; go_simp; try with_reducible rfl); simp only [Act.put, List.setIfInBounds_toArray, List.getElem_toArray, List.getElem_cons_succ, List.getElem_cons_zero, List.set_cons_succ, List.set_cons_zero])
            refine HoistK.nil_ ?_
            simp only [opsAt, List.filterMap_nil]
            refine Effects.nil_ fun _ hQ2 => ?_
            go_wp2_with fail
            have hu : bestAt D first (k + 1) = some a := by rw [HN.out]; unfold upd; rw [HOK.out]; simp [hgt]
            refine ⟨⟨k + 1, by omega, by go_num, by rw [hu] <;> rfl, by rw [hu]; exact hbr4, hbl4.drew⟩, by simp only [intOf]; omega⟩
    · obtain rfl : k = 2 := by omega
      clear hk2 hk
      cases o with
      | none =>
        have HRES := Lib.hid (show openF D first size = none by unfold openF; rw [← HO.out])
        have hbd := hblr.drew
        have hbq : LogB wr.drew g p first size _ _ _ _ := Blk.drew hbr
        go_wp2_with fail
        refine wp_region_hoist [0, 1, 2, 3, 4, 5, 6, 7, 8, 9, 10, 11, 12, 13, 14] [] [] (fun w' => LogB w' g p first size 0 0 0 (.slice none 0 0))
          (by kernel_rfl) (by kernel_rfl) (by kernel_rfl) (by kernel_rfl) (by kernel_rfl) (by kernel_rfl) hbq ?_
        (refine HoistK.yes (by rfl) (by kernel_rfl) ⟨?_, fun w hSw => ?_, ?_⟩; rotate_left; (· have hyc := Blk.cell hSw; go_simp; try with_reducible rfl); simp only [Act.put, List.setIfInBounds_toArray, List.getElem_toArray, List.getElem_cons_zero, List.set_cons_succ, List.set_cons_zero])
        (refine HoistK.yes (by rfl) (by kernel_rfl) ⟨?_, fun w hSw => ?_, ?_⟩; rotate_left; (· have hyc := Blk.cell hSw; go_simp; try with_reducible rfl); simp only [Act.put, List.setIfInBounds_toArray, List.getElem_toArray, List.getElem_cons_succ, List.getElem_cons_zero, List.set_cons_succ, List.set_cons_zero])
        (refine HoistK.yes (by rfl) (by kernel_rfl) ⟨?_, fun w hSw => ?_, ?_⟩; rotate_left; (· have hyc := Blk.cell hSw; go_simp; try with_reducible rfl); simp only [Act.put, List.setIfInBounds_toArray, List.getElem_toArray, List.getElem_cons_succ, List.getElem_cons_zero, List.set_cons_succ, List.set_cons_zero])
        (refine HoistK.no (by rfl) (by kernel_rfl) ?_; simp only [Act.put, List.setIfInBounds_toArray, List.getElem_toArray, List.getElem_cons_succ, List.getElem_cons_zero, List.set_cons_succ, List.set_cons_zero])
        (refine HoistK.no (by rfl) (by kernel_rfl) ?_; simp only [Act.put, List.setIfInBounds_toArray, List.getElem_toArray, List.getElem_cons_succ, List.getElem_cons_zero, List.set_cons_succ, List.set_cons_zero])
        (refine HoistK.no (by rfl) (by kernel_rfl) ?_; simp only [Act.put, List.setIfInBounds_toArray, List.getElem_toArray, List.getElem_cons_succ, List.getElem_cons_zero, List.set_cons_succ, List.set_cons_zero])
        (refine HoistK.no (by rfl) (by kernel_rfl) ?_; simp only [Act.put, List.setIfInBounds_toArray, List.getElem_toArray, List.getElem_cons_succ, List.getElem_cons_zero, List.set_cons_succ, List.set_cons_zero])
        (refine HoistK.no (by rfl) (by kernel_rfl) ?_; simp only [Act.put, List.setIfInBounds_toArray, List.getElem_toArray, List.getElem_cons_succ, List.getElem_cons_zero, List.set_cons_succ, List.set_cons_zero])
        (refine HoistK.no (by rfl) (by kernel_rfl) ?_; simp only [Act.put, List.setIfInBounds_toArray, List.getElem_toArray, List.getElem_cons_succ, List.getElem_cons_zero, List.set_cons_succ, List.set_cons_zero])
        (refine HoistK.no (by rfl) (by kernel_rfl) ?_; simp only [Act.put, List.setIfInBounds_toArray, List.getElem_toArray, List.getElem_cons_succ, List.getElem_cons_zero, List.set_cons_succ, List.set_cons_zero])
        (refine HoistK.no (by rfl) (by kernel_rfl) ?_; simp only [Act.put, List.setIfInBounds_toArray, List.getElem_toArray, List.getElem_cons_succ, List.getElem_cons_zero, List.set_cons_succ, List.set_cons_zero])
        (refine HoistK.no (by rfl) (by kernel_rfl) ?_; simp only [Act.put, List.setIfInBounds_toArray, List.getElem_toArray, List.getElem_cons_succ, List.getElem_cons_zero, List.set_cons_succ, List.set_cons_zero])
        (refine HoistK.no (by rfl) (by kernel_rfl) ?_; simp only [Act.put, List.setIfInBounds_toArray, List.getElem_toArray, List.getElem_cons_succ, List.getElem_cons_zero, List.set_cons_succ, List.set_cons_zero])
        (refine HoistK.no (by rfl) (by kernel_rfl) ?_; simp only [Act.put, List.setIfInBounds_toArray, List.getElem_toArray, List.getElem_cons_succ, List.getElem_cons_zero, List.set_cons_succ, List.set_cons_zero])
        (refine HoistK.yes (by rfl) (by kernel_rfl) ⟨?_, fun w hSw => ?_, ?_⟩; rotate_left; (· have hyc := Blk.cell hSw; go_simp; try with_reducible rfl); simp only [Act.put, List.setIfInBounds_toArray, List.getElem_toArray, List.getElem_cons_succ, List.getElem_cons_zero, List.set_cons_succ, List.set_cons_zero])
        refine HoistK.nil_ ?_
        simp only [opsAt, List.filterMap_nil]
        refine Effects.nil_ fun _ hQ2 => ?_
        go_wp2_with fail
        go_ret3
        exact OpenP.no HRES.out hbd
      | some a =>
        have HRES := Lib.hid (show openF D first size = openWith D first size a by unfold openF; rw [← HO.out])
        have hbr : LogB wr g p first size (num a 0) (num a 8) (num a 16) (.slice none 0 0) := hbr
        have hnum : ∀ k, num a k < 18446744073709551616 := fun k => by
          have h1 := beNat_lt ((a.drop k).take 8)
          have h2 : ((a.drop k).take 8).length ≤ 8 := List.length_take_le _ _
          have h3 := Nat.pow_le_pow_right (n := 256) (by omega) h2
          exact Nat.lt_of_lt_of_le h1 (by simpa using h3)
        have hn16 := hnum 16
        obtain ⟨fin, hfin⟩ : ∃ fin, fin = num a 16 := ⟨_, rfl⟩
        have hcarea := area_any wr.drew g p first size (by have := hbr.reg; exact this) (by omega) (by omega)
        rw [← hfin] at hbr hn16
        have HFIN := Lib.hid hfin; clear hfin hnum
        have HAREA := Lib.hid hcarea; clear hcarea
        have hbd := hblr.drew
        have hbq := Blk.drew hbr
        have e1 : IntKind.u64.wrap ((size - 2) * 256) = (size - 2) * 256 := by simp [IntKind.wrap, IntKind.bits, IntKind.signed]; omega
        by_cases hbig : (size - 2) * 256 < (fin : Int)
        · go_wp2_with fail
          refine wp_region_hoist [0, 1, 2, 3, 4, 5, 6, 7, 8, 9, 10] [11, 12] [13, 14] (fun w' => LogB w' g p first size (num a 0) (num a 8) fin (.slice none 0 0))
            (by kernel_rfl) (by kernel_rfl) (by kernel_rfl) (by kernel_rfl) (by kernel_rfl) (by kernel_rfl) hbq ?_
          (refine HoistK.yes (by rfl) (by kernel_rfl) ⟨?_, fun w hSw => ?_, ?_⟩; rotate_left; (· have hyc := Blk.cell hSw; go_simp; try with_reducible rfl); simp only [Act.put, List.setIfInBounds_toArray, List.getElem_toArray, List.getElem_cons_zero, List.set_cons_succ, List.set_cons_zero])
          (refine HoistK.yes (by rfl) (by kernel_rfl) ⟨?_, fun w hSw => ?_, ?_⟩; rotate_left; (· have hyc := Blk.cell hSw; go_simp; try with_reducible rfl); simp only [Act.put, List.setIfInBounds_toArray, List.getElem_toArray, List.getElem_cons_succ, List.getElem_cons_zero, List.set_cons_succ, List.set_cons_zero])
          (refine HoistK.yes (by rfl) (by kernel_rfl) ⟨?_, fun w hSw => ?_, ?_⟩; rotate_left; (· have hyc := Blk.cell hSw; go_simp; try with_reducible rfl); simp only [Act.put, List.setIfInBounds_toArray, List.getElem_toArray, List.getElem_cons_succ, List.getElem_cons_zero, List.set_cons_succ, List.set_cons_zero])
          (refine HoistK.yes (by rfl) (by kernel_rfl) ⟨?_, fun w hSw => ?_, ?_⟩; rotate_left; (· have hyc := Blk.cell hSw; go_simp; try with_reducible rfl); simp only [Act.put, List.setIfInBounds_toArray, List.getElem_toArray, List.getElem_cons_succ, List.getElem_cons_zero, List.set_cons_succ, List.set_cons_zero])
          (refine HoistK.yes (by rfl) (by kernel_rfl) ⟨?_, fun w hSw => ?_, ?_⟩; rotate_left; (· have hyc := Blk.cell hSw; go_simp; try with_reducible rfl); simp only [Act.put, List.setIfInBounds_toArray, List.getElem_toArray, List.getElem_cons_succ, List.getElem_cons_zero, List.set_cons_succ, List.set_cons_zero])
          (refine HoistK.yes (by rfl) (by kernel_rfl) ⟨?_, fun w hSw => ?_, ?_⟩; rotate_left; (· have hyc := Blk.cell hSw; go_simp; try with_reducible rfl); simp only [Act.put, List.setIfInBounds_toArray, List.getElem_toArray, List.getElem_cons_succ, List.getElem_cons_zero, List.set_cons_succ, List.set_cons_zero])
          (refine HoistK.yes (by rfl) (by kernel_rfl) ⟨?_, fun w hSw => ?_, ?_⟩; rotate_left; (· have hyc := Blk.cell hSw; go_simp; try with_reducible rfl); simp only [Act.put, List.setIfInBounds_toArray, List.getElem_toArray, List.getElem_cons_succ, List.getElem_cons_zero, List.set_cons_succ, List.set_cons_zero])
          (refine HoistK.yes (by rfl) (by kernel_rfl) ⟨?_, fun w hSw => ?_, ?_⟩; rotate_left; (· have hyc := Blk.cell hSw; go_simp; try with_reducible rfl); simp only [Act.put, List.setIfInBounds_toArray, List.getElem_toArray, List.getElem_cons_succ, List.getElem_cons_zero, List.set_cons_succ, List.set_cons_zero])
          (refine HoistK.yes (by rfl) (by kernel_rfl) ⟨?_, fun w hSw => ?_, ?_⟩; rotate_left; (· have hyc := Blk.cell hSw; go_simp; try with_reducible rfl); simp only [Act.put, List.setIfInBounds_toArray, List.getElem_toArray, List.getElem_cons_succ, List.getElem_cons_zero, List.set_cons_succ, List.set_cons_zero])
          (refine HoistK.yes (by rfl) (by kernel_rfl) ⟨?_, fun w hSw => ?_, ?_⟩; rotate_left; (· have hyc := Blk.cell hSw; go_simp; try with_reducible rfl); simp only [Act.put, List.setIfInBounds_toArray, List.getElem_toArray, List.getElem_cons_succ, List.getElem_cons_zero, List.set_cons_succ, List.set_cons_zero])
          (refine HoistK.yes (by rfl) (by kernel_rfl) ⟨?_, fun w hSw => ?_, ?_⟩; rotate_left; (· have hyc := Blk.cell hSw; go_simp; try with_reducible rfl); simp only [Act.put, List.setIfInBounds_toArray, List.getElem_toArray, List.getElem_cons_succ, List.getElem_cons_zero, List.set_cons_succ, List.set_cons_zero])
          refine HoistK.nil_ ?_
          refine Effects.cons_ fun Q2 hQ2 => ?_
          go_wp2_with fail
          refine HAREA.out.mono ?_
          rintro x w3 ⟨rfl, rfl⟩
          go_wp2_with fail
          refine hQ2 _ _ hbq ?_
          clear hQ2
          refine Effects.cons_ fun Q3 hQ3 => ?_
          go_wp2_with fail
          refine hQ3 _ _ hbq ?_
          clear hQ3
          simp only [opsAt, List.filterMap_cons, List.filterMap_nil, List.getElem?_toArray, List.getElem?_cons_succ, List.getElem?_cons_zero]
          refine Effects.nil_ fun _ hQ4 => ?_
          go_wp2_with fail
          go_ret3
          exact OpenP.no (by rw [HRES.out]; unfold openWith; rw [← HFIN.out, if_pos hbig]) hbd
        · go_wp2_with fail
          refine wp_region_hoist [0, 1, 2, 3, 4, 5, 6, 7, 8, 9, 10] [11, 12] [13, 14] (fun w' => LogB w' g p first size (num a 0) (num a 8) fin (.slice none 0 0))
            (by kernel_rfl) (by kernel_rfl) (by kernel_rfl) (by kernel_rfl) (by kernel_rfl) (by kernel_rfl) hbq ?_
          (refine HoistK.yes (by rfl) (by kernel_rfl) ⟨?_, fun w hSw => ?_, ?_⟩; rotate_left; (· have hyc := Blk.cell hSw; go_simp; try with_reducible rfl); simp only [Act.put, List.setIfInBounds_toArray, List.getElem_toArray, List.getElem_cons_zero, List.set_cons_succ, List.set_cons_zero])
          (refine HoistK.yes (by rfl) (by kernel_rfl) ⟨?_, fun w hSw => ?_, ?_⟩; rotate_left; (· have hyc := Blk.cell hSw; go_simp; try with_reducible rfl); simp only [Act.put, List.setIfInBounds_toArray, List.getElem_toArray, List.getElem_cons_succ, List.getElem_cons_zero, List.set_cons_succ, List.set_cons_zero])
          (refine HoistK.yes (by rfl) (by kernel_rfl) ⟨?_, fun w hSw => ?_, ?_⟩; rotate_left; (· have hyc := Blk.cell hSw; go_simp; try with_reducible rfl); simp only [Act.put, List.setIfInBounds_toArray, List.getElem_toArray, List.getElem_cons_succ, List.getElem_cons_zero, List.set_cons_succ, List.set_cons_zero])
          (refine HoistK.yes (by rfl) (by kernel_rfl) ⟨?_, fun w hSw => ?_, ?_⟩; rotate_left; (· have hyc := Blk.cell hSw; go_simp; try with_reducible rfl); simp only [Act.put, List.setIfInBounds_toArray, List.getElem_toArray, List.getElem_cons_succ, List.getElem_cons_zero, List.set_cons_succ, List.set_cons_zero])
          (refine HoistK.yes (by rfl) (by kernel_rfl) ⟨?_, fun w hSw => ?_, ?_⟩; rotate_left; (· have hyc := Blk.cell hSw; go_simp; try with_reducible rfl); simp only [Act.put, List.setIfInBounds_toArray, List.getElem_toArray, List.getElem_cons_succ, List.getElem_cons_zero, List.set_cons_succ, List.set_cons_zero])
          (refine HoistK.yes (by rfl) (by kernel_rfl) ⟨?_, fun w hSw => ?_, ?_⟩; rotate_left; (· have hyc := Blk.cell hSw; go_simp; try with_reducible rfl); simp only [Act.put, List.setIfInBounds_toArray, List.getElem_toArray, List.getElem_cons_succ, List.getElem_cons_zero, List.set_cons_succ, List.set_cons_zero])
          (refine HoistK.yes (by rfl) (by kernel_rfl) ⟨?_, fun w hSw => ?_, ?_⟩; rotate_left; (· have hyc := Blk.cell hSw; go_simp; try with_reducible rfl); simp only [Act.put, List.setIfInBounds_toArray, List.getElem_toArray, List.getElem_cons_succ, List.getElem_cons_zero, List.set_cons_succ, List.set_cons_zero])
          (refine HoistK.yes (by rfl) (by kernel_rfl) ⟨?_, fun w hSw => ?_, ?_⟩; rotate_left; (· have hyc := Blk.cell hSw; go_simp; try with_reducible rfl); simp only [Act.put, List.setIfInBounds_toArray, List.getElem_toArray, List.getElem_cons_succ, List.getElem_cons_zero, List.set_cons_succ, List.set_cons_zero])
          (refine HoistK.yes (by rfl) (by kernel_rfl) ⟨?_, fun w hSw => ?_, ?_⟩; rotate_left; (· have hyc := Blk.cell hSw; go_simp; try with_reducible rfl); simp only [Act.put, List.setIfInBounds_toArray, List.getElem_toArray, List.getElem_cons_succ, List.getElem_cons_zero, List.set_cons_succ, List.set_cons_zero])
          (refine HoistK.yes (by rfl) (by kernel_rfl) ⟨?_, fun w hSw => ?_, ?_⟩; rotate_left; (· have hyc := Blk.cell hSw; go_simp; try with_reducible rfl); simp only [Act.put, List.setIfInBounds_toArray, List.getElem_toArray, List.getElem_cons_succ, List.getElem_cons_zero, List.set_cons_succ, List.set_cons_zero])
          (refine HoistK.yes (by rfl) (by kernel_rfl) ⟨?_, fun w hSw => ?_, ?_⟩; rotate_left; (· have hyc := Blk.cell hSw; go_simp; try with_reducible rfl); simp only [Act.put, List.setIfInBounds_toArray, List.getElem_toArray, List.getElem_cons_succ, List.getElem_cons_zero, List.set_cons_succ, List.set_cons_zero])
          refine HoistK.nil_ ?_
          refine Effects.cons_ fun Q2 hQ2 => ?_
          go_wp2_with fail
          refine HAREA.out.mono ?_
          rintro x w3 ⟨rfl, rfl⟩
          go_wp2_with fail
          refine hQ2 _ _ hbq ?_
          clear hQ2
          refine Effects.cons_ fun Q3 hQ3 => ?_
          go_wp2_with fail
          refine hQ3 _ _ hbq ?_
          clear hQ3
          simp only [opsAt, List.filterMap_cons, List.filterMap_nil, List.getElem?_toArray, List.getElem?_cons_succ, List.getElem?_cons_zero]
          refine Effects.nil_ fun _ hQ4 => ?_
          clear e1
          go_wp2_with fail
          have hfs : (fin : Int) ≤ (size - 2) * 256 := by omega
          obtain ⟨K, hK⟩ : ∃ K, K = (fin + 255) / 256 := ⟨_, rfl⟩
          have hK1 : fin ≤ 256 * K := by omega
          have hK2 : 256 * K < fin + 256 := by omega
          have HK := Lib.hid hK; clear hK
          obtain ⟨Z, hZ⟩ : ∃ Z, Z = (cu8 noughts).toArray := ⟨_, rfl⟩
          have hzv := (zero_of_info info_block).1
          have hzs := (zero_of_info info_block).2
          rw [← hZ] at hzv
          have HZ := Lib.hid hZ; clear hZ
          go_loopw [15] (fun n wq => ∃ (j : Nat) (bv : Value), j ≤ K ∧ n = .int .i64 (first + 2 + j) ∧ LogB wq g p first size (num a 0) (num a 8) fin bv ∧ Own wq 5 1 bv (256 * j) (u8s (catAt D first j)) ∧
            (∀ b, bv.ownBlock = some b → w.heap.size ≤ b ∧ b ≠ g) ∧ Below w.heap.size w wq) (fun n _ => (size + first - intOf n).toNat)
          case atStart => exact ⟨0, _, Nat.zero_le _, by go_num, hbq, Own.nil_ _ _ _, fun b h => by simp [Value.ownBlock] at h, hbd⟩
          case round =>
            clear hbq hbd hbr hblr hbig
            obtain ⟨j, bv, hj, hn, hbr, hob, hbn, hblr⟩ := hrel
            subst hn
            obtain ⟨A, cap, rfl⟩ := hob.form
            have hfb : fin ≤ 1048576 := by omega
            by_cases hlt : 256 * j < fin
            · have hltI : 256 * (j : Int) < (fin : Int) := by omega
              have hjs : (j : Int) < size - 2 := by omega
              have hwf : (Lit.int .i64 (first + 2 + (j : Int))).wf = true := wf64 _ (by omega) (by omega)
              have HWF := Lib.hid hwf; clear hwf
              have e2 : IntKind.i64.wrap (fin : Int) = fin := wrap64 _ (by omega) (by omega)
              go_wp2_with fail
              refine wp_region_hoist [0, 1, 2, 3, 4, 5, 6, 7, 8, 9, 10, 11] [] [] (fun w' => LogB w' g p first size (num a 0) (num a 8) fin (.slice A (256 * j) cap))
                (by kernel_rfl) (by kernel_rfl) (by kernel_rfl) (by kernel_rfl) (by kernel_rfl) (by kernel_rfl) (Blk.drew hbr) ?_
              (refine HoistK.yes (by rfl) (by kernel_rfl) ⟨?_, fun w hSw => ?_, ?_⟩; rotate_left; (· have hyc := Blk.cell hSw; go_simp; try with_reducible rfl); simp only [Act.put, List.setIfInBounds_toArray, List.getElem_toArray, List.getElem_cons_zero, List.set_cons_succ, List.set_cons_zero])
              (refine HoistK.yes (by rfl) (by kernel_rfl) ⟨?_, fun w hSw => ?_, ?_⟩; rotate_left; (· have hyc := Blk.cell hSw; go_simp; try with_reducible rfl); simp only [Act.put, List.setIfInBounds_toArray, List.getElem_toArray, List.getElem_cons_succ, List.getElem_cons_zero, List.set_cons_succ, List.set_cons_zero])
              (refine HoistK.yes (by rfl) (by kernel_rfl) ⟨?_, fun w hSw => ?_, ?_⟩; rotate_left; (· have hyc := Blk.cell hSw; go_simp; try with_reducible rfl); simp only [Act.put, List.setIfInBounds_toArray, List.getElem_toArray, List.getElem_cons_succ, List.getElem_cons_zero, List.set_cons_succ, List.set_cons_zero])
              (refine HoistK.yes (by rfl) (by kernel_rfl) ⟨?_, fun w hSw => ?_, ?_⟩; rotate_left; (· have hyc := Blk.cell hSw; go_simp; try with_reducible rfl); simp only [Act.put, List.setIfInBounds_toArray, List.getElem_toArray, List.getElem_cons_succ, List.getElem_cons_zero, List.set_cons_succ, List.set_cons_zero])
              (refine HoistK.yes (by rfl) (by kernel_rfl) ⟨?_, fun w hSw => ?_, ?_⟩; rotate_left; (· have hyc := Blk.cell hSw; go_simp; try with_reducible rfl); simp only [Act.put, List.setIfInBounds_toArray, List.getElem_toArray, List.getElem_cons_succ, List.getElem_cons_zero, List.set_cons_succ, List.set_cons_zero])
              (refine HoistK.yes (by rfl) (by kernel_rfl) ⟨?_, fun w hSw => ?_, ?_⟩; rotate_left; (· have hyc := Blk.cell hSw; go_simp; try with_reducible rfl); simp only [Act.put, List.setIfInBounds_toArray, List.getElem_toArray, List.getElem_cons_succ, List.getElem_cons_zero, List.set_cons_succ, List.set_cons_zero])
              (refine HoistK.yes (by rfl) (by kernel_rfl) ⟨?_, fun w hSw => ?_, ?_⟩; rotate_left; (· have hyc := Blk.cell hSw; go_simp; try with_reducible rfl); simp only [Act.put, List.setIfInBounds_toArray, List.getElem_toArray, List.getElem_cons_succ, List.getElem_cons_zero, List.set_cons_succ, List.set_cons_zero])
              (refine HoistK.yes (by rfl) (by kernel_rfl) ⟨?_, fun w hSw => ?_, ?_⟩; rotate_left; (· have hyc := Blk.cell hSw; go_simp; try with_reducible rfl); simp only [Act.put, List.setIfInBounds_toArray, List.getElem_toArray, List.getElem_cons_succ, List.getElem_cons_zero, List.set_cons_succ, List.set_cons_zero])
              (refine HoistK.yes (by rfl) (by kernel_rfl) ⟨?_, fun w hSw => ?_, ?_⟩; rotate_left; (· have hyc := Blk.cell hSw; go_simp; try with_reducible rfl); simp only [Act.put, List.setIfInBounds_toArray, List.getElem_toArray, List.getElem_cons_succ, List.getElem_cons_zero, List.set_cons_succ, List.set_cons_zero])
              (refine HoistK.yes (by rfl) (by kernel_rfl) ⟨?_, fun w hSw => ?_, ?_⟩; rotate_left; (· have hyc := Blk.cell hSw; go_simp; try with_reducible rfl); simp only [Act.put, List.setIfInBounds_toArray, List.getElem_toArray, List.getElem_cons_succ, List.getElem_cons_zero, List.set_cons_succ, List.set_cons_zero])
              (refine HoistK.yes (by rfl) (by kernel_rfl) ⟨?_, fun w hSw => ?_, ?_⟩; rotate_left; (· have hyc := Blk.cell hSw; go_simp; try with_reducible rfl); simp only [Act.put, List.setIfInBounds_toArray, List.getElem_toArray, List.getElem_cons_succ, List.getElem_cons_zero, List.set_cons_succ, List.set_cons_zero])
              (refine HoistK.yes (by rfl) (by kernel_rfl) ⟨?_, fun w hSw => ?_, ?_⟩; rotate_left; (· have hyc := Blk.cell hSw; go_simp; try with_reducible rfl); simp only [Act.put, List.setIfInBounds_toArray, List.getElem_toArray, List.getElem_cons_succ, List.getElem_cons_zero, List.set_cons_succ, List.set_cons_zero])
              refine HoistK.nil_ ?_
              simp only [opsAt, List.filterMap_cons, List.filterMap_nil, List.getElem?_toArray, List.getElem?_cons_succ, List.getElem?_cons_zero]
              refine Effects.nil_ fun _ hQ2 => ?_
              go_wp2_with fail
              clear e2
              have hd4 := (h.below hblr).drew
              refine (read_dk hd4 HWF.out hB1).mono ?_
              rintro x w3 ⟨rfl, hb3⟩
              have hrd : (D.read (first + 2 + j)).2 = 0 := DS.read_ok HDN.out (by omega) (by omega)
              rw [hrd, hby.read]
              clear hrd
              obtain ⟨b, hb⟩ : ∃ b, b = D.bytes (first + 2 + j) := ⟨_, rfl⟩
              have hbl : b.length = 256 := by rw [hb]; exact D.bytes_length h.fine _
              have hnext : catAt D first (j + 1) = catAt D first j ++ b := by rw [hb]; rfl
              rw [← hb, cu8_ints]
              clear hb
              have HN := Lib.hid hnext; clear hnext
              have HBL := Lib.hid hbl
              have hbr3 : LogB w3 g p first size (num a 0) (num a 8) fin (.slice A (256 * j) cap) := Blk.below (Blk.drew hbr) hb3 (Blk.lt hbr)
              have hob3 : Own w3 5 1 (.slice A (256 * j) cap) (256 * j) (u8s (catAt D first j)) := own_keep hob fun k hk => hb3.block k (own_lt hob hk)
              have hbl3 : Below w.heap.size w w3 := hblr.drew.trans (hb3.mono hblr.size)
              have hX : Blk (w3.alloc (.cells Z 37)) w3.heap.size 37 (cu8 noughts).toArray := by rw [← HZ.out]; exact Blk.new w3 _ _
              have hxl : (cu8 noughts).length = (u8s b).length := by rw [cu8_length, u8s_length, hbl]; simp only [noughts, List.length_replicate]
              have hinfo : (Try.prog.info? 37).map (·.size) = some (u8s b).length := by rw [u8s_length, hbl]; exact hzs
              clear hbl hb3 hbr hob hblr hd4
              go_wp2_with (refine wpList_store_blk rfl _ _ _ rfl hX rfl rfl hxl hinfo (u8s_one _) (fun w5 hb5 hc5 => ?_))
              have hgl3 : g < w3.heap.size := Blk.lt hbr3
              have hbr5 : LogB w5 g p first size (num a 0) (num a 8) fin (.slice A (256 * j) cap) := Blk.chg (Blk.alloc hbr3 _) hc5 (by omega)
              have hob5 : Own w5 5 1 (.slice A (256 * j) cap) (256 * j) (u8s (catAt D first j)) := own_keep hob3 fun k hk => (hc5.block k (Nat.lt_of_lt_of_le (own_lt hob3 hk) (by simp)) (by have := own_lt hob3 hk; omega)).trans (Below.heap_alloc w3 _ k (own_lt hob3 hk))
              have hbl5 : Below w.heap.size w w5 := (hbl3.alloc hbl3.size _).trans (hc5.below (Nat.le_trans hbl3.size (by simp)) fun k hk => hk ▸ hbl3.size)
              have hsrc : Cs w5 (fun b => b = w3.heap.size) 1 (.slice (some ⟨w3.heap.size, 0, none⟩) 256 256) 256 (u8s b) := by
                have := hb5.from 0 HBL.out (by omega)
                rwa [List.drop_zero, HBL.out] at this
              generalize w3.heap.size = X at *
              clear hbr3 hob3 hbl3 hX hc5 hxl hinfo hgl3
              go_wp2_with fail
              refine wp_region_hoist [0, 1, 2, 3, 4, 5] [6] [7, 8, 9] (fun w' => LogB w' g p first size (num a 0) (num a 8) fin (.slice A (256 * j) cap))
                (by kernel_rfl) (by kernel_rfl) (by kernel_rfl) (by kernel_rfl) (by kernel_rfl) (by kernel_rfl) (Blk.drew hbr5) ?_
              (refine HoistK.yes (by rfl) (by kernel_rfl) ⟨?_, fun w hSw => ?_, ?_⟩; rotate_left; (· have hyc := Blk.cell hSw; go_simp; try with_reducible rfl); simp only [Act.put, List.setIfInBounds_toArray, List.getElem_toArray, List.getElem_cons_zero, List.set_cons_succ, List.set_cons_zero])
              (refine HoistK.yes (by rfl) (by kernel_rfl) ⟨?_, fun w hSw => ?_, ?_⟩; rotate_left; (· have hyc := Blk.cell hSw; go_simp; try with_reducible rfl); simp only [Act.put, List.setIfInBounds_toArray, List.getElem_toArray, List.getElem_cons_succ, List.getElem_cons_zero, List.set_cons_succ, List.set_cons_zero])
              (refine HoistK.yes (by rfl) (by kernel_rfl) ⟨?_, fun w hSw => ?_, ?_⟩; rotate_left; (· have hyc := Blk.cell hSw; go_simp; try with_reducible rfl); simp only [Act.put, List.setIfInBounds_toArray, List.getElem_toArray, List.getElem_cons_succ, List.getElem_cons_zero, List.set_cons_succ, List.set_cons_zero])
              (refine HoistK.yes (by rfl) (by kernel_rfl) ⟨?_, fun w hSw => ?_, ?_⟩; rotate_left; (· have hyc := Blk.cell hSw; go_simp; try with_reducible rfl); simp only [Act.put, List.setIfInBounds_toArray, List.getElem_toArray, List.getElem_cons_succ, List.getElem_cons_zero, List.set_cons_succ, List.set_cons_zero])
              (refine HoistK.yes (by rfl) (by kernel_rfl) ⟨?_, fun w hSw => ?_, ?_⟩; rotate_left; (· have hyc := Blk.cell hSw; go_simp; try with_reducible rfl); simp only [Act.put, List.setIfInBounds_toArray, List.getElem_toArray, List.getElem_cons_succ, List.getElem_cons_zero, List.set_cons_succ, List.set_cons_zero])
              (refine HoistK.yes (by rfl) (by kernel_rfl) ⟨?_, fun w hSw => ?_, ?_⟩; rotate_left; (· have hyc := Blk.cell hSw; have e1 := run_whole_block; go_simp; try with_reducible rfl); simp only [Act.put, List.setIfInBounds_toArray, List.getElem_toArray, List.getElem_cons_succ, List.getElem_cons_zero, List.set_cons_succ, List.set_cons_zero])
              refine HoistK.nil_ ?_
              refine Effects.cons_ fun Q2 hQ2 => ?_
              refine wpList_app _ rfl _ _ _ rfl Try.underlying32 info_u8 rfl (by decide) hob5.drew rfl hsrc.drew rfl (u8s_one _) (by simp only [maxLen]; omega) (by omega) ?_
              intro v6 w6 ho6 hc6 hnil6 hat6
              clear hnil6
              have hng : (Value.slice A (256 * j) cap).ownBlock ≠ some g := fun e => (hbn g e).2 rfl
              have hbr6 : LogB w6 g p first size (num a 0) (num a 8) fin (.slice A (256 * j) cap) := Blk.chg (Blk.drew hbr5) hc6 hng
              have hgl5 : g < w5.heap.size := Blk.lt hbr5
              have hbl6 : Below w.heap.size w w6 := hbl5.drew.trans (hc6.below hbl5.size fun k hk => (hbn k hk).1)
              have hown6 : ∀ b, v6.ownBlock = some b → w.heap.size ≤ b ∧ b ≠ g := fun b hb => by
                rcases hat6 with e | e
                · exact hbn b (e ▸ hb)
                · rw [e] at hb
                  injection hb with hb
                  have hb : w5.heap.size = b := hb
                  exact ⟨hb ▸ hbl5.size, by omega⟩
              rw [show 256 * j + 256 = 256 * (j + 1) by omega, show u8s (catAt D first j) ++ u8s b = u8s (catAt D first (j + 1)) by rw [HN.out]; simp [u8s]] at ho6
              obtain ⟨A6, cap6, rfl⟩ := ho6.form
              have HO6 := Lib.hid ho6; clear ho6
              have HOW := Lib.hid hown6; clear hown6
              clear hat6 hc6
              go_wp2_with fail
              refine hQ2 _ _ hbr6 ?_
              clear hQ2
              simp only [opsAt, List.filterMap_cons, List.filterMap_nil, List.getElem?_toArray, List.getElem?_cons_succ, List.getElem?_cons_zero]
              refine Effects.nil_ fun _ hQ3 => ?_
              have hc := Blk.cell hbr6
              have hf := Blk.frozen hbr6
              clear hbr5 hob5 hsrc hb5
              go_wp2_with fail
              refine ⟨⟨j + 1, .slice A6 (256 * (j + 1)) cap6, by omega, by go_num, Blk.set_ hbr6 6 _, own_keep HO6.out fun k hk => Below.heap_setCell w6 ⟨g, 6, none⟩ _ k (fun e => (HOW.out k hk).2 e), HOW.out, hbl6.setCell (p := ⟨g, 6, none⟩) hgn _⟩, ?_⟩
              simp only [intOf]; omega
            · have hx : catAt D first j = catAt D first j := rfl
              clear hx hzv hzs HZ
              have hjK : j = K := by omega
              have hge : ¬ 256 * (j : Int) < (fin : Int) := by omega
              have hfc : fin ≤ cap := by
                rcases hob.2 with ⟨e, h0⟩ | ⟨_, _, _, e, _, _, h1, _⟩
                · omega
                · injection e with _ e1 e2; omega
              obtain ⟨bs, hbs⟩ : ∃ bs, bs = (catAt D first ((num a 16 + 255) / 256)).take (num a 16) := ⟨_, rfl⟩
              have hbl : bs.length = fin := by rw [hbs, List.length_take, catAt_length h.fine, ← HFIN.out, ← HK.out]; omega
              have hcs : Cs wr (fun b => w.heap.size ≤ b ∧ b ≠ g) 1 (.slice A fin fin) fin (u8s bs) := by
                have h1 := (Cs.of_own hob (S := fun b => w.heap.size ≤ b ∧ b ≠ g) hbn).pre fin (by omega)
                rw [show (u8s (catAt D first j)).take fin = u8s bs by rw [hbs, ← HFIN.out, ← HK.out, ← hjK]; simp [u8s, List.map_take]] at h1
                exact h1
              have HBS := Lib.hid hbs; clear hbs
              have HCS := Lib.hid hcs; clear hcs
              have e2 : IntKind.i64.wrap (fin : Int) = fin := wrap64 _ (by omega) (by omega)
              clear hob hbn
              go_wp2_with fail
              refine wp_region_hoist [0, 1, 2, 3, 4, 5, 6, 7, 8, 9, 10, 11] [] [] (fun w' => LogB w' g p first size (num a 0) (num a 8) fin (.slice A (256 * j) cap))
                (by kernel_rfl) (by kernel_rfl) (by kernel_rfl) (by kernel_rfl) (by kernel_rfl) (by kernel_rfl) (Blk.drew hbr) ?_
              (refine HoistK.yes (by rfl) (by kernel_rfl) ⟨?_, fun w hSw => ?_, ?_⟩; rotate_left; (· have hyc := Blk.cell hSw; go_simp; try with_reducible rfl); simp only [Act.put, List.setIfInBounds_toArray, List.getElem_toArray, List.getElem_cons_zero, List.set_cons_succ, List.set_cons_zero])
              (refine HoistK.yes (by rfl) (by kernel_rfl) ⟨?_, fun w hSw => ?_, ?_⟩; rotate_left; (· have hyc := Blk.cell hSw; go_simp; try with_reducible rfl); simp only [Act.put, List.setIfInBounds_toArray, List.getElem_toArray, List.getElem_cons_succ, List.getElem_cons_zero, List.set_cons_succ, List.set_cons_zero])
              (refine HoistK.yes (by rfl) (by kernel_rfl) ⟨?_, fun w hSw => ?_, ?_⟩; rotate_left; (· have hyc := Blk.cell hSw; go_simp; try with_reducible rfl); simp only [Act.put, List.setIfInBounds_toArray, List.getElem_toArray, List.getElem_cons_succ, List.getElem_cons_zero, List.set_cons_succ, List.set_cons_zero])
              (refine HoistK.yes (by rfl) (by kernel_rfl) ⟨?_, fun w hSw => ?_, ?_⟩; rotate_left; (· have hyc := Blk.cell hSw; go_simp; try with_reducible rfl); simp only [Act.put, List.setIfInBounds_toArray, List.getElem_toArray, List.getElem_cons_succ, List.getElem_cons_zero, List.set_cons_succ, List.set_cons_zero])
              (refine HoistK.yes (by rfl) (by kernel_rfl) ⟨?_, fun w hSw => ?_, ?_⟩; rotate_left; (· have hyc := Blk.cell hSw; go_simp; try with_reducible rfl); simp only [Act.put, List.setIfInBounds_toArray, List.getElem_toArray, List.getElem_cons_succ, List.getElem_cons_zero, List.set_cons_succ, List.set_cons_zero])
              (refine HoistK.yes (by rfl) (by kernel_rfl) ⟨?_, fun w hSw => ?_, ?_⟩; rotate_left; (· have hyc := Blk.cell hSw; go_simp; try with_reducible rfl); simp only [Act.put, List.setIfInBounds_toArray, List.getElem_toArray, List.getElem_cons_succ, List.getElem_cons_zero, List.set_cons_succ, List.set_cons_zero])
              (refine HoistK.yes (by rfl) (by kernel_rfl) ⟨?_, fun w hSw => ?_, ?_⟩; rotate_left; (· have hyc := Blk.cell hSw; go_simp; try with_reducible rfl); simp only [Act.put, List.setIfInBounds_toArray, List.getElem_toArray, List.getElem_cons_succ, List.getElem_cons_zero, List.set_cons_succ, List.set_cons_zero])
              (refine HoistK.yes (by rfl) (by kernel_rfl) ⟨?_, fun w hSw => ?_, ?_⟩; rotate_left; (· have hyc := Blk.cell hSw; go_simp; try with_reducible rfl); simp only [Act.put, List.setIfInBounds_toArray, List.getElem_toArray, List.getElem_cons_succ, List.getElem_cons_zero, List.set_cons_succ, List.set_cons_zero])
              (refine HoistK.yes (by rfl) (by kernel_rfl) ⟨?_, fun w hSw => ?_, ?_⟩; rotate_left; (· have hyc := Blk.cell hSw; go_simp; try with_reducible rfl); simp only [Act.put, List.setIfInBounds_toArray, List.getElem_toArray, List.getElem_cons_succ, List.getElem_cons_zero, List.set_cons_succ, List.set_cons_zero])
              (refine HoistK.yes (by rfl) (by kernel_rfl) ⟨?_, fun w hSw => ?_, ?_⟩; rotate_left; (· have hyc := Blk.cell hSw; go_simp; try with_reducible rfl); simp only [Act.put, List.setIfInBounds_toArray, List.getElem_toArray, List.getElem_cons_succ, List.getElem_cons_zero, List.set_cons_succ, List.set_cons_zero])
              (refine HoistK.yes (by rfl) (by kernel_rfl) ⟨?_, fun w hSw => ?_, ?_⟩; rotate_left; (· have hyc := Blk.cell hSw; go_simp; try with_reducible rfl); simp only [Act.put, List.setIfInBounds_toArray, List.getElem_toArray, List.getElem_cons_succ, List.getElem_cons_zero, List.set_cons_succ, List.set_cons_zero])
              (refine HoistK.yes (by rfl) (by kernel_rfl) ⟨?_, fun w hSw => ?_, ?_⟩; rotate_left; (· have hyc := Blk.cell hSw; go_simp; try with_reducible rfl); simp only [Act.put, List.setIfInBounds_toArray, List.getElem_toArray, List.getElem_cons_succ, List.getElem_cons_zero, List.set_cons_succ, List.set_cons_zero])
              refine HoistK.nil_ ?_
              simp only [opsAt, List.filterMap_cons, List.filterMap_nil, List.getElem?_toArray, List.getElem?_cons_succ, List.getElem?_cons_zero]
              refine Effects.nil_ fun _ hQ2 => ?_
              go_wp2_with fail
              clear e2
              have hcutI : (fin : Int) ≤ (cap : Int) := by omega
              have hcc := Blk.cell hbr
              have hcf := Blk.frozen hbr
              refine wp_region_hoist [0, 1, 2, 3, 4, 5, 6, 7, 8, 9, 10, 11, 12, 13, 14, 15] [] [16, 17, 18] (fun w' => LogB w' g p first size (num a 0) (num a 8) fin (.slice A (256 * j) cap))
                (by kernel_rfl) (by kernel_rfl) (by kernel_rfl) (by kernel_rfl) (by kernel_rfl) (by kernel_rfl) (Blk.drew (Blk.drew hbr)) ?_
              (refine HoistK.yes (by rfl) (by kernel_rfl) ⟨?_, fun w hSw => ?_, ?_⟩; rotate_left; (· have hyc := Blk.cell hSw; go_simp; try with_reducible rfl); simp only [Act.put, List.setIfInBounds_toArray, List.getElem_toArray, List.getElem_cons_zero, List.set_cons_succ, List.set_cons_zero])
              (refine HoistK.yes (by rfl) (by kernel_rfl) ⟨?_, fun w hSw => ?_, ?_⟩; rotate_left; (· have hyc := Blk.cell hSw; go_simp; try with_reducible rfl); simp only [Act.put, List.setIfInBounds_toArray, List.getElem_toArray, List.getElem_cons_succ, List.getElem_cons_zero, List.set_cons_succ, List.set_cons_zero])
              (refine HoistK.yes (by rfl) (by kernel_rfl) ⟨?_, fun w hSw => ?_, ?_⟩; rotate_left; (· have hyc := Blk.cell hSw; go_simp; try with_reducible rfl); simp only [Act.put, List.setIfInBounds_toArray, List.getElem_toArray, List.getElem_cons_succ, List.getElem_cons_zero, List.set_cons_succ, List.set_cons_zero])
              (refine HoistK.yes (by rfl) (by kernel_rfl) ⟨?_, fun w hSw => ?_, ?_⟩; rotate_left; (· have hyc := Blk.cell hSw; go_simp; try with_reducible rfl); simp only [Act.put, List.setIfInBounds_toArray, List.getElem_toArray, List.getElem_cons_succ, List.getElem_cons_zero, List.set_cons_succ, List.set_cons_zero])
              (refine HoistK.yes (by rfl) (by kernel_rfl) ⟨?_, fun w hSw => ?_, ?_⟩; rotate_left; (· have hyc := Blk.cell hSw; go_simp; try with_reducible rfl); simp only [Act.put, List.setIfInBounds_toArray, List.getElem_toArray, List.getElem_cons_succ, List.getElem_cons_zero, List.set_cons_succ, List.set_cons_zero])
              (refine HoistK.yes (by rfl) (by kernel_rfl) ⟨?_, fun w hSw => ?_, ?_⟩; rotate_left; (· have hyc := Blk.cell hSw; go_simp; try with_reducible rfl); simp only [Act.put, List.setIfInBounds_toArray, List.getElem_toArray, List.getElem_cons_succ, List.getElem_cons_zero, List.set_cons_succ, List.set_cons_zero])
              (refine HoistK.yes (by rfl) (by kernel_rfl) ⟨?_, fun w hSw => ?_, ?_⟩; rotate_left; (· have hyc := Blk.cell hSw; go_simp; try with_reducible rfl); simp only [Act.put, List.setIfInBounds_toArray, List.getElem_toArray, List.getElem_cons_succ, List.getElem_cons_zero, List.set_cons_succ, List.set_cons_zero])
              (refine HoistK.yes (by rfl) (by kernel_rfl) ⟨?_, fun w hSw => ?_, ?_⟩; rotate_left; (· have hyc := Blk.cell hSw; go_simp; try with_reducible rfl); simp only [Act.put, List.setIfInBounds_toArray, List.getElem_toArray, List.getElem_cons_succ, List.getElem_cons_zero, List.set_cons_succ, List.set_cons_zero])
              (refine HoistK.yes (by rfl) (by kernel_rfl) ⟨?_, fun w hSw => ?_, ?_⟩; rotate_left; (· have hyc := Blk.cell hSw; go_simp; try with_reducible rfl); simp only [Act.put, List.setIfInBounds_toArray, List.getElem_toArray, List.getElem_cons_succ, List.getElem_cons_zero, List.set_cons_succ, List.set_cons_zero])
              (refine HoistK.yes (by rfl) (by kernel_rfl) ⟨?_, fun w hSw => ?_, ?_⟩; rotate_left; (· have hyc := Blk.cell hSw; go_simp; try with_reducible rfl); simp only [Act.put, List.setIfInBounds_toArray, List.getElem_toArray, List.getElem_cons_succ, List.getElem_cons_zero, List.set_cons_succ, List.set_cons_zero])
              (refine HoistK.yes (by rfl) (by kernel_rfl) ⟨?_, fun w hSw => ?_, ?_⟩; rotate_left; (· have hyc := Blk.cell hSw; go_simp; try with_reducible rfl); simp only [Act.put, List.setIfInBounds_toArray, List.getElem_toArray, List.getElem_cons_succ, List.getElem_cons_zero, List.set_cons_succ, List.set_cons_zero])
              (refine HoistK.yes (by rfl) (by kernel_rfl) ⟨?_, fun w hSw => ?_, ?_⟩; rotate_left; (· have hyc := Blk.cell hSw; go_simp; try with_reducible rfl); simp only [Act.put, List.setIfInBounds_toArray, List.getElem_toArray, List.getElem_cons_succ, List.getElem_cons_zero, List.set_cons_succ, List.set_cons_zero])
              (refine HoistK.yes (by rfl) (by kernel_rfl) ⟨?_, fun w hSw => ?_, ?_⟩; rotate_left; (· have hyc := Blk.cell hSw; go_simp; try with_reducible rfl); simp only [Act.put, List.setIfInBounds_toArray, List.getElem_toArray, List.getElem_cons_succ, List.getElem_cons_zero, List.set_cons_succ, List.set_cons_zero])
              (refine HoistK.yes (by rfl) (by kernel_rfl) ⟨?_, fun w hSw => ?_, ?_⟩; rotate_left; (· have hyc := Blk.cell hSw; go_simp; try with_reducible rfl); simp only [Act.put, List.setIfInBounds_toArray, List.getElem_toArray, List.getElem_cons_succ, List.getElem_cons_zero, List.set_cons_succ, List.set_cons_zero])
              (refine HoistK.yes (by rfl) (by kernel_rfl) ⟨?_, fun w hSw => ?_, ?_⟩; rotate_left; (· have hyc := Blk.cell hSw; go_simp; try with_reducible rfl); simp only [Act.put, List.setIfInBounds_toArray, List.getElem_toArray, List.getElem_cons_succ, List.getElem_cons_zero, List.set_cons_succ, List.set_cons_zero])
              (refine HoistK.yes (by rfl) (by kernel_rfl) ⟨?_, fun w hSw => ?_, ?_⟩; rotate_left; (· have hyc := Blk.cell hSw; go_simp; try with_reducible rfl); simp only [Act.put, List.setIfInBounds_toArray, List.getElem_toArray, List.getElem_cons_succ, List.getElem_cons_zero, List.set_cons_succ, List.set_cons_zero])
              refine HoistK.nil_ ?_
              simp only [opsAt, List.filterMap_cons, List.filterMap_nil, List.getElem?_toArray, List.getElem?_cons_succ, List.getElem?_cons_zero]
              refine Effects.nil_ fun _ hQ2 => ?_
              go_wp2_with fail
              obtain ⟨wM, hwM⟩ : ∃ wM, wM = (wr.setCell ⟨g, 6, none⟩ (.slice A fin fin)).drew.drew := ⟨_, rfl⟩
              rw [← hwM]
              have hbrM : LogB wM g p first size (num a 0) (num a 8) fin (.slice A fin fin) := by rw [hwM]; exact Blk.set_ hbr 6 _
              have hblM : Below w.heap.size w wM := by rw [hwM]; exact (hblr.setCell (p := ⟨g, 6, none⟩) hgn _).drew.drew
              have hcsM : Cs wM (fun b => w.heap.size ≤ b ∧ b ≠ g) 1 (.slice A fin fin) fin (u8s bs) := by
                rw [hwM]
                exact (HCS.out.chg ((Chg.refl (fun b => b = g) wr).setOf rfl 6 _) fun b hb e => hb.2 e).drew.drew
              clear hwM hcc hcf hbr hblr HCS hcutI hfc hge hlt
              have hres : openF D first size = (parse fin bs).map fun rows => (⟨first, size, num a 0, num a 8, fin, bs, []⟩, rows) := by
                rw [HRES.out, openWith, if_neg (by rw [← HFIN.out]; omega), ← HBS.out, ← HFIN.out]
              have HRES2 := Lib.hid hres; clear hres HRES
              go_loopw [18, 19] (fun out rest wq => ∃ (done : List (List UInt8)) (o m : Nat) (A3 : Option Addr), o + m = fin ∧ m ≤ fin ∧ rest = .slice A3 m m ∧ Cs wM (fun b => w.heap.size ≤ b ∧ b ≠ g) 1 rest m (u8s (bs.drop o)) ∧ Bss wq (New wM) (New wM) out done ∧ Below wM.heap.size wM wq ∧ done.length ≤ o ∧
                parse fin bs = (parse m (bs.drop o)).map (done ++ ·)) (fun _ rest _ => lenV rest)
              case atStart => exact ⟨[], 0, fin, A, Nat.zero_add _, Nat.le_refl _, rfl, hcsM, Bss.nil_ _ _ _, Below.refl _ _, by simp, by simp⟩
              case round =>
                obtain ⟨done, o, m, A3, hom, hmf, hrest, hcr, hbss, hbq, hdn, hps⟩ := hrel
                subst hrest
                have HOM := Lib.hid hom; clear hom
                have HPS := Lib.hid hps; clear hps
                have hbl' : (bs.drop o).length = m := by rw [List.length_drop, hbl]; have := HOM.out; omega
                by_cases hm : m = 0
                · subst hm
                  have HBL' := Lib.hid hbl'; clear hbl'
                  have HBSS := Lib.hid hbss
                  obtain ⟨Ao, co, rfl⟩ := hbss.form
                  clear hbss
                  go_wp2_with fail
                  go_ret3
                  have hrows : openF D first size = some (⟨first, size, num a 0, num a 8, fin, bs, []⟩, done) := by
                    rw [HRES2.out, HPS.out, List.eq_nil_of_length_eq_zero HBL'.out]
                    simp [parse]
                  rw [hrows]
                  have hgM := Blk.lt hbrM
                  refine ⟨g, fun b => w.heap.size ≤ b ∧ b < wM.heap.size, New wM, _, rfl, ⟨.slice A fin fin, .slice none 0 0, ⟨hgn, hgM⟩, fun b hb => Nat.lt_of_lt_of_le hb.2 hbq.size, Blk.below hbrM hbq hgM, ?_, Own.nil_ _ _ _, fun k hk => by simp [Value.ownBlock] at hk⟩, HBSS.out, fun b hb => hb.1, fun b hb => Nat.le_trans hblM.size hb, fun b hb hb2 => Nat.not_le.2 hb.2 hb2, hblM.trans (hbq.mono hblM.size)⟩
                  have hb4 : bs.length = fin := hbl
                  show Cs _ _ 1 (.slice A fin fin) bs.length (u8s bs)
                  rw [hb4]
                  exact (hcsM.below hbq).sub' hcsM fun b hb hlt => ⟨⟨hb.1, hlt⟩, hb.2, by simp [Value.ownBlock]⟩
                · have hmp : 0 < m := by omega
                  by_cases h8 : m < 8
                  · have hno := Lib.hid (parse_no m (bs.drop o) hbl' hmp (.inl h8))
                    have h8I : (m : Int) < 8 := by omega
                    have hmI : (0 : Int) < (m : Int) := by omega
                    have HBL' := Lib.hid hbl'; clear hbl'
                    clear hbss hdn
                    go_wp2_with fail
                    go_ret3
                    exact OpenP.no (by rw [HRES2.out, HPS.out, hno.out]; rfl) (hblM.trans (hbq.mono hblM.size))
                  · have h8' : 8 ≤ m := by omega
                    have h8I : ¬ (m : Int) < 8 := by omega
                    have hmI : (0 : Int) < (m : Int) := by omega
                    have hu := u64_any wr (bs := bs.drop o) (by rw [hbl']; exact hcr.below hbq) (by omega)
                    obtain ⟨n, hn⟩ : ∃ n, n = num (bs.drop o) 0 := ⟨_, rfl⟩
                    have hn2 : Lib.beNat ((bs.drop o).take 8) = n := hn.symm
                    rw [hn2] at hu
                    have hnl : n < 18446744073709551616 := by
                      rw [← hn2]
                      have h1 := beNat_lt ((bs.drop o).take 8)
                      have h2 : ((bs.drop o).take 8).length ≤ 8 := List.length_take_le _ _
                      have h3 := Nat.pow_le_pow_right (n := 256) (by omega) h2
                      exact Nat.lt_of_lt_of_le h1 (by simpa using h3)
                    have HN := Lib.hid hn; clear hn hn2
                    have e1 : IntKind.i64.wrap ((m : Int) - 8) = (m : Int) - 8 := wrap64 _ (by omega) (by omega)
                    have e2 : IntKind.u64.wrap ((m : Int) - 8) = (m : Int) - 8 := by simp [IntKind.wrap, IntKind.bits, IntKind.signed]; omega
                    by_cases hbig : m - 8 < n
                    · have hno := Lib.hid (parse_no m (bs.drop o) hbl' hmp (.inr (by rw [← HN.out]; exact hbig)))
                      have hbigI : (m : Int) - 8 < (n : Int) := by omega
                      have HBL' := Lib.hid hbl'; clear hbl'
                      clear hbss hdn
                      go_wp2_with fail
                      refine hu.mono ?_
                      rintro x w3 ⟨rfl, rfl⟩
                      go_wp2_with fail
                      go_ret3
                      exact OpenP.no (by rw [HRES2.out, HPS.out, hno.out]; rfl) (hblM.trans (hbq.mono hblM.size))
                    · have hbigI : ¬ (m : Int) - 8 < (n : Int) := by omega
                      have hstep := Lib.hid (parse_step m (bs.drop o) hbl' h8' (by rw [← HN.out]; omega))
                      have HBL' := Lib.hid hbl'; clear hbl'
                      go_wp2_with fail
                      refine hu.mono ?_
                      rintro x w3 ⟨rfl, rfl⟩
                      have hu := u64_any w3 (bs := bs.drop o) (by rw [HBL'.out]; exact hcr.below hbq) (by rw [HBL'.out]; omega)
                      rw [show Lib.beNat ((bs.drop o).take 8) = n from HN.out.symm] at hu
                      have hnm : n ≤ m - 8 := by omega
                      have hnm2 : 8 + n ≤ m := by omega
                      obtain ⟨A4, hr4, hc4⟩ := hcr.cut 8 (8 + n) (by omega) hnm2 hmp
                      obtain ⟨A5, hr5, hc5⟩ := hcr.tail (8 + n) hnm2 hmp
                      have ec : ((8 + n : Nat) : Int) = 8 + (n : Int) := by push_cast; rfl
                      rw [ec] at hr4 hr5
                      rw [show ((8 : Nat) : Int) = 8 from rfl] at hr4
                      rw [show 8 + n - 8 = n by omega] at hr4 hc4
                      have HC4 := Lib.hid (hc4.below hbq); clear hc4
                      have HC5 := Lib.hid hc5; clear hc5 ec
                      obtain ⟨x, hx⟩ : ∃ x, x = ((bs.drop o).drop 8).take n := ⟨_, rfl⟩
                      have hxl : x.length = n := by rw [hx, List.length_take, List.length_drop, HBL'.out]; omega
                      have hxc : ((u8s (bs.drop o)).drop 8).take n = u8s x := by rw [hx]; simp [u8s, List.map_take, List.map_drop]
                      rw [hxc] at HC4
                      have HX := Lib.hid hx; clear hx
                      have HXL := Lib.hid hxl; clear hxl hxc
                      have HU := Lib.hid hu; clear hu
                      have HBSS := Lib.hid hbss
                      obtain ⟨vs, hoo, hoS, hoR⟩ := hbss
                      obtain ⟨Ao, co, rfl⟩ := hoo.form
                      have hdl : done.length ≤ 1048576 := by have := HOM.out; omega
                      have h63 : 0 + n ≤ maxLen := by simp only [maxLen]; omega
                      have hby1 : (0 + n) * 1 ≤ 140737488355328 := by omega
                      have h63b : done.length + 1 ≤ maxLen := by simp only [maxLen]; omega
                      have hby2 : (done.length + 1) * 24 ≤ 140737488355328 := by omega
                      have H63 := Lib.hid (And.intro h63 (And.intro hby1 (And.intro h63b hby2))); clear h63 hby1 h63b hby2
                      have e3 : IntKind.i64.wrap (n : Int) = n := wrap64 _ (by omega) (by omega)
                      have e4 : IntKind.i64.wrap (8 + (n : Int)) = 8 + (n : Int) := wrap64 _ (by omega) (by omega)
                      have HOO := Lib.hid hoo; clear hoo
                      have HOR := Lib.hid hoR; clear hoR
                      have HOS := Lib.hid hoS; clear hoS
                      go_wp2_with fail
                      refine HU.out.mono ?_
                      rintro x1 w4 ⟨rfl, rfl⟩
                      clear e1 e2
                      go_wp2_with (first
                        | (at_builtin; refine wpList_app _ rfl _ _ _ rfl Try.underlying32 info_u8 rfl (by decide) (Own.nil_ _ _ _) rfl HC4.out rfl (u8s_one _) H63.out.1 H63.out.2.1 ?_; intro v1 w5 ho5 hc5 hnil5 hat5; clear hnil5
                           have hb5 : Below w4.heap.size w4 w5 := hc5.below (Nat.le_refl _) fun b hb => by simp [Value.ownBlock] at hb
                           rw [Nat.zero_add, List.nil_append] at ho5
                           have ho5' : Own w5 5 1 v1 n (u8s x) := ho5
                           clear ho5 hc5
                           obtain ⟨A6, cap6, rfl⟩ := ho5'.form
                           have HO5 := Lib.hid ho5'; clear ho5'
                           have HAT5 := Lib.hid hat5; clear hat5
                           have HO2 := Lib.hid (show ∀ ob, Own (w5.alloc ob) 32 1 (.slice Ao done.length co) done.length vs from fun ob => own_keep HOO.out fun k hk => (Below.heap_alloc w5 ob k (Nat.lt_of_lt_of_le (own_lt HOO.out hk) hb5.size)).trans (hb5.block k (own_lt HOO.out hk)))
                           have HS2 := Lib.hid (Cs.of_new w5 32 (size := 1) 1 (cs := [.slice A6 n cap6]) rfl (by simp only [maxLen]; decide))
                           have HB5 := Lib.hid hb5; clear hb5)
                        | (at_builtin; refine wpList_app _ rfl _ _ _ rfl Try.underlying22 info_row rfl (by decide) (HO2.out _) rfl HS2.out rfl (by simp [Value.oneCell']) H63.out.2.2.1 H63.out.2.2.2 ?_; intro v2 w6 ho6 hc6 hnil6 hat6; clear hnil6
                           obtain ⟨A7, cap7, rfl⟩ := ho6.form
                           have HO6 := Lib.hid ho6; clear ho6
                           have HC6 := Lib.hid hc6; clear hc6
                           have HAT6 := Lib.hid hat6; clear hat6))
                      have hs5 := HB5.out.size
                      have hsM := hbq.size
                      have hown5 : ∀ k, (Value.slice A6 n cap6).ownBlock = some k → k = w4.heap.size := fun k hk => by
                        rcases HAT5.out with e | e
                        · rw [e] at hk; simp [Value.ownBlock] at hk
                        · rw [e] at hk; injection hk with hk; exact hk.symm
                      have hox : ∀ k, (Value.slice Ao done.length co).ownBlock = some k → k < w4.heap.size := fun k hk => own_lt HOO.out hk
                      have hal : w5.heap.size ≤ (w5.alloc (.cells #[.slice A6 n cap6] 32)).heap.size := by simp
                      have hbX : Below w4.heap.size w4 (w5.alloc (.cells #[.slice A6 n cap6] 32)) := HB5.out.alloc hs5 _
                      have hxv : Cs (w5.alloc (.cells #[.slice A6 n cap6] 32)) (fun b => New wM b ∧ (Value.slice Ao done.length co).ownBlock ≠ some b) 1 (.slice A6 n cap6) x.length (u8s x) := by
                        rw [HXL.out]
                        exact (Cs.of_own HO5.out (S := fun b => New wM b ∧ (Value.slice Ao done.length co).ownBlock ≠ some b) fun k hk => by
                          have := hown5 k hk
                          subst this
                          exact ⟨hsM, fun e => by have := hox _ e; omega⟩).below ((Below.refl _ w5).alloc (Nat.le_refl _) _)
                      have hpush := Bss.push (S := New wM) (T := New wM) (HO2.out _) HOS.out (fun i y u h1 h2 => (HOR.out i y u h1 h2).below hbX) hxv HO6.out HC6.out HAT6.out (Nat.le_trans hsM (Nat.le_trans hs5 hal))
                      have hdl2 : (done ++ [x]).length = done.length + 1 := by simp
                      refine ⟨⟨done ++ [x], o + (8 + n), m - (8 + n), A5, ?_, ?_, rfl, ?_, hpush, ?_, ?_, ?_⟩, ?_⟩
                      · have := HOM.out; omega
                      · omega
                      · have := HC5.out
                        rw [show (u8s (bs.drop o)).drop (8 + n) = u8s (bs.drop (o + (8 + n))) by simp [u8s, List.map_drop, List.drop_drop]] at this
                        exact this
                      · have h1 : Below wM.heap.size wM (w5.alloc (.cells #[.slice A6 n cap6] 32)) := hbq.trans (hbX.mono hsM)
                        exact h1.trans (HC6.out.below h1.size fun k hk => HOS.out k hk)
                      · rw [hdl2]; omega
                      · rw [HPS.out, hstep.out, ← HN.out, ← HX.out, List.drop_drop, Option.map_map]
                        congr 1
                        funext l
                        simp
                      · simp only [lenV]; omega

end Go.Proofs.Ytcgokafhkkmaoaa
