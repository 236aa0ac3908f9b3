/- Wal: Format. -/
import Derived.Test.YtcgokafhkkmaoaaWkJ
namespace Go.Proofs.Ytcgokafhkkmaoaa
open Go.RowKit Go.Maps

attribute [-simp] Try.isAgg37 Try.sizeOf37 Try.typeInfo37

def formatF (D : DS) (first size : Int) : DS × Int :=
  if fitsB D.blocks first size then
    let x := D.write (first + 1) (markL 1 1 0)
    if x.2 = 0 then
      let y := x.1.write first noughts
      if y.2 = 0 then y.1.sync else y
    else x
  else (D, 1)

/-- A disk moved. -/
def DkP (w0 w : World) (p : Nat) (T : Nat → Prop) (r : DS × Int) (B : Nat) (e : Ending) (w' : World) : Prop :=
  e = .returned (.int .i64 r.2) ∧ ∃ T', Dk w0 w' p T' r.1 B ∧ Mv T w w' T'
theorem DkP.mk {w0 w w' : World} {p : Nat} {T T' : Nat → Prop} {r : DS × Int} {x : DS} {i : Int} {B C : Nat} (hr : r = (x, i)) (hd : Dk w0 w' p T' x C) (hC : C ≤ B) (hm : Mv T w w' T') : DkP w0 w p T r B (.returned (.int .i64 i)) w' := by
  subst hr; exact ⟨rfl, T', hd.more hC, hm⟩

set_option maxHeartbeats 1000000 in
set_option maxRecDepth 100000 in
theorem format_dk {first size : Int} {w0 w : World} {p : Nat} {T : Nat → Prop} {D : DS} {B : Nat} (h : Dk w0 w p T D B) (hz : w0.heap.size ≤ w.heap.size)
    (hf0 : 0 ≤ first) (hf1 : first ≤ 4096) (hs0 : 0 ≤ size) (hs1 : size ≤ 4096) (hb0 : 0 ≤ D.blocks) (hb1 : D.blocks ≤ 4096) (hB : (B + 4) * 264 ≤ 140737488355328) :
    Calls Try.prog 8 #[.pointer (some ⟨p, 0, none⟩), .int .i64 first, .int .i64 size] w (DkP w0 w p T (formatF D first size) (B + 2)) := by
  have hwr : IntKind.i64.wrap (D.blocks - size) = D.blocks - size := wrap64 _ (by omega) (by omega)
  have HWR := Lib.hid hwr; clear hwr
  have hb3 : (B + 3) * 264 ≤ 140737488355328 := by omega
  have hb2 : (B + 2) * 264 ≤ 140737488355328 := by omega
  have hwf : (Lit.int .i64 first).wf = true := wf64 _ (by omega) (by omega)
  have HWF := Lib.hid hwf; clear hwf hB
  go_enter Try.func8, Try.ntmps8
  go_wp2_with fail
  obtain ⟨w1, hw1⟩ : ∃ w1, w1 = w.alloc (.cells #[.pointer (some ⟨p, 0, none⟩), .int .i64 first, .int .i64 size] 54) := ⟨_, rfl⟩
  rw [← hw1]
  have hbr : Blk w1 w.heap.size 54 #[.pointer (some ⟨p, 0, none⟩), .int .i64 first, .int .i64 size] := by rw [hw1]; exact Blk.new w _ _
  have hbl : Below w.heap.size w w1 := by rw [hw1]; exact (Below.refl _ w).alloc (Nat.le_refl _) _
  clear hw1
  have hd1 := h.below hbl
  have hreg : ∀ {w'}, Blk w' w.heap.size 54 #[.pointer (some ⟨p, 0, none⟩), .int .i64 first, .int .i64 size] → RegI w' w.heap.size p first size := fun hb => ⟨by rw [hb.cell]; rfl, by rw [hb.cell]; rfl, by rw [hb.cell]; rfl⟩
  have hnT : ¬ T w.heap.size := fun hT => by have := h.lt _ hT; omega
  refine (fits_any w1 w.heap.size p T D first size hd1.is (hreg hbr) HWR.out).mono ?_
  rintro e w2 ⟨rfl, nq, rfl⟩
  have hbl2 : Below w.heap.size w (w1.drewN nq) := below_drewN hbl nq
  have hbr2 := hbr.drewN nq
  generalize hw2 : w1.drewN nq = w2 at *
  clear hw2 hbr hbl hd1 w1
  have hd2 := h.below hbl2
  by_cases hfit : fitsB D.blocks first size = true
  · go_wp2_with fail
    refine (lay_dk hd2 (hreg hbr2) hbr2.lt (Nat.le_trans hz hbl2.size) 1 1 0 hf0 hf1 (by omega) (by omega)).mono ?_
    rw [show first + ((1 : Nat) : Int) % 2 = first + 1 from rfl]
    rintro x w3 ⟨rfl, T3, hd3, hc3, hT3⟩
    have hm3 : Mv T w w3 T3 := (Mv.below hbl2).trans ⟨hc3, hT3⟩
    clear hT3
    obtain ⟨x1, hx1⟩ : ∃ x1, x1 = (D.write (first + 1) (markL 1 1 0)).1 := ⟨_, rfl⟩
    obtain ⟨r1, hr1⟩ : ∃ r1, r1 = (D.write (first + 1) (markL 1 1 0)).2 := ⟨_, rfl⟩
    have HX1 := Lib.hid (show D.write (first + 1) (markL 1 1 0) = (x1, r1) by rw [hx1, hr1])
    rw [← hx1] at hd3
    rw [← hr1]
    clear hx1 hr1
    by_cases h1 : r1 = 0
    · subst h1
      obtain ⟨Z, hZ⟩ : ∃ Z, Z = (cu8 noughts).toArray := ⟨_, rfl⟩
      have hzv := (zero_of_info info_block).1
      rw [← hZ] at hzv
      have HZ := Lib.hid hZ; clear hZ
      go_wp2_with fail
      rw [HZ.out]
      have hz3 : w0.heap.size ≤ w3.heap.size := Nat.le_trans hz hm3.1.size
      refine (write_dk hd3 hz3 HWF.out (by simp only [noughts, List.length_replicate]) hb2).mono ?_
      rintro x w4 ⟨rfl, T4, hd4, hc4, hT4⟩
      have hm4 : Mv T w w4 T4 := hm3.trans ⟨hc4, hT4⟩
      clear hT4
      obtain ⟨x2, hx2⟩ : ∃ x2, x2 = (x1.write first noughts).1 := ⟨_, rfl⟩
      obtain ⟨r2, hr2⟩ : ∃ r2, r2 = (x1.write first noughts).2 := ⟨_, rfl⟩
      have HX2 := Lib.hid (show x1.write first noughts = (x2, r2) by rw [hx2, hr2])
      rw [← hx2] at hd4
      rw [← hr2]
      clear hx2 hr2
      by_cases h2 : r2 = 0
      · subst h2
        go_wp2_with fail
        refine (sync_dk hd4 hb3).mono ?_
        rintro x w5 ⟨rfl, hd5, hc5⟩
        go_wp2_with fail
        go_ret
        refine DkP.mk ?_ hd5 (Nat.le_refl _) (hm4.trans ⟨hc5, fun _ h => .inl h⟩)
        unfold formatF; rw [if_pos hfit, HX1.out]; simp only [↓reduceIte]; rw [HX2.out]; simp only [↓reduceIte]
      · have hne : (r2 != 0) = true := by simpa using h2
        have H2 := Lib.hid h2; clear h2
        go_wp2_with fail
        go_ret
        refine DkP.mk ?_ hd4 (Nat.le_refl _) hm4
        unfold formatF; rw [if_pos hfit, HX1.out]; simp only [↓reduceIte]; rw [HX2.out]; simp only; rw [if_neg H2.out]
    · have hne : (r1 != 0) = true := by simpa using h1
      have H1 := Lib.hid h1; clear h1
      go_wp2_with fail
      go_ret
      refine DkP.mk ?_ hd3 (by omega) hm3
      unfold formatF; rw [if_pos hfit, HX1.out]; simp only; rw [if_neg H1.out]
  · have hff : fitsB D.blocks first size = false := by simpa using hfit
    have HF := Lib.hid (show formatF D first size = (D, 1) by unfold formatF; rw [if_neg hfit])
    clear hfit
    go_wp2_with fail
    go_ret
    exact DkP.mk HF.out hd2 (by omega) (Mv.below hbl2)

end Go.Proofs.Ytcgokafhkkmaoaa
