/- Wal: a mark is laid. -/
import Derived.Test.YtcgokafhkkmaoaaWkF
namespace Go.Proofs.Ytcgokafhkkmaoaa
open Go.RowKit Go.Maps

attribute [-simp] Try.isAgg37 Try.sizeOf37 Try.typeInfo37

/-- The bytes as the disk's numbers. -/
def ints (bs : List UInt8) : List Int := bs.map fun b => (b.toNat : Int)
theorem ints_length (bs : List UInt8) : (ints bs).length = bs.length := by simp [ints]
theorem cu8_ints (bs : List UInt8) : cu8 (ints bs) = u8s bs := by simp [cu8, ints, u8s]
theorem ints_append (a b : List UInt8) : ints (a ++ b) = ints a ++ ints b := by simp [ints]
/-- Eight bytes laid into a block. -/
def put8 (l : List Int) (o v : Nat) : List Int := l.take o ++ ints (Lib.beBytes 8 v) ++ l.drop (o + 8)
theorem put8_length (l : List Int) (o v : Nat) (h : o + 8 ≤ l.length) : (put8 l o v).length = l.length := by
  simp only [put8, List.length_append, List.length_take, List.length_drop, ints_length, Lib.beBytes_length]; omega
theorem Blk.put8 {w : World} {b : Nat} {t : TypeId} {l : List Int} (h : Blk w b t (cu8 l).toArray) (o v : Nat) (ho : o + 8 ≤ l.length) : Blk (w.setCells b o (u8s (Lib.beBytes 8 v))) b t (cu8 (put8 l o v)).toArray := by
  have := Blk.setCells (u8s (Lib.beBytes 8 v)) o w (cu8 l) h (by rw [u8s_length, Lib.beBytes_length, cu8_length]; exact ho)
  rw [u8s_length, Lib.beBytes_length] at this
  have e : (cu8 l).take o ++ u8s (Lib.beBytes 8 v) ++ (cu8 l).drop (o + 8) = cu8 (Go.Proofs.Ytcgokafhkkmaoaa.put8 l o v) := by
    rw [Go.Proofs.Ytcgokafhkkmaoaa.put8]
    simp only [cu8, List.map_append, List.map_take, List.map_drop]
    rw [← cu8_ints]; rfl
  rw [e] at this
  exact this
def markAt (m : Nat → Nat) : Nat → List Int
  | 0 => noughts
  | k + 1 => put8 (put8 (markAt m k) (8 * k) (m k)) (40 - 8 * k) (m k)
def mark3 (n e f : Nat) : Nat → Nat := fun k => if k = 0 then n else if k = 1 then e else f
/-- A mark's block. -/
def markL (n e f : Nat) : List Int := markAt (mark3 n e f) 3
theorem markAt_length (m : Nat → Nat) : ∀ k, k ≤ 3 → (markAt m k).length = 256
  | 0, _ => by simp only [markAt, noughts, List.length_replicate]
  | k + 1, h => by
    have := markAt_length m k (by omega)
    rw [markAt, put8_length _ _ _ (by rw [put8_length _ _ _ (by omega)]; omega), put8_length _ _ _ (by omega), this]

theorem noughts_parts : ∃ Z : List Int, Z.length = 8 ∧ noughts = Z ++ (Z ++ (Z ++ (Z ++ (Z ++ (Z ++ List.replicate 208 0))))) :=
  ⟨List.replicate 8 0, by rw [List.length_replicate], by simp only [noughts, List.replicate_append_replicate, Nat.reduceAdd]⟩
theorem markL_eq (n e f : Nat) : markL n e f = ints (Lib.beBytes 8 n) ++ ints (Lib.beBytes 8 e) ++ ints (Lib.beBytes 8 f) ++ ints (Lib.beBytes 8 f) ++ ints (Lib.beBytes 8 e) ++ ints (Lib.beBytes 8 n) ++ List.replicate 208 0 := by
  have hN := Lib.beBytes_length 8 n
  have hE := Lib.beBytes_length 8 e
  have hF := Lib.beBytes_length 8 f
  obtain ⟨Z, hZ, hz⟩ := noughts_parts
  generalize List.replicate 208 (0 : Int) = R at *
  simp only [markL, markAt, mark3, put8, hz]
  simp only [↓reduceIte, Nat.reduceMul, Nat.reduceSub, Nat.reduceAdd, Nat.reduceEqDiff]
  generalize Lib.beBytes 8 n = N at *
  generalize Lib.beBytes 8 e = E at *
  generalize Lib.beBytes 8 f = F at *
  rw [← ints_length] at hN hE hF
  generalize ints N = N at *
  generalize ints E = E at *
  generalize ints F = F at *
  simp [List.take_append, List.drop_append, hN, hE, hF, hZ, List.take_of_length_le, List.drop_of_length_le]

theorem wf64 (x : Int) (h0 : -9223372036854775808 ≤ x) (h1 : x ≤ 9223372036854775807) : (Lit.int .i64 x).wf = true := by
  simp only [Lit.wf, IntKind.min, IntKind.max, IntKind.signed, IntKind.bits, Bool.and_eq_true]
  simp
  omega
theorem run_from_block (w : World) (b off : Nat) (i : Int) (k : Nat) (hi : i = k) (h : k < 256) : (Instr.sliceAt 37 (.pointer (some ⟨b, off, none⟩)) (some (.int .i64 i)) none none).run Try.prog w = .ok (.slice (some ⟨b, off + k, none⟩) (256 - k) (256 - k)) w := by
  subst hi
  rw [run_sliceAt_array_l w _ _ und_block .i64 k (by omega) (by rw [alen_block]; omega), alen_block, elem_block]
  simp [Try.sizeOf5, Result.andThen, slicedAt, Addr.add]
  rw [if_neg (by omega)]
  split
  · next h => subst h; rfl
  · rfl

set_option maxHeartbeats 1000000 in
set_option maxRecDepth 100000 in
theorem lay_dk {first size : Int} {w0 w : World} {p g : Nat} {S : Nat → Prop} {D : DS} {B : Nat} (h : Dk w0 w p S D B) (hr : RegI w g p first size) (hgl : g < w.heap.size) (hb : w0.heap.size ≤ w.heap.size) (n e f : Nat)
    (hf0 : 0 ≤ first) (hf1 : first ≤ 4096) (hn : n < 18446744073709551616) (hB : (B + 1) * 264 ≤ 140737488355328) :
    Calls Try.prog 23 #[.pointer (some ⟨g, 0, none⟩), .agg #[.int .u64 n, .int .u64 e, .int .u64 f]] w fun x w' => x = .returned (.int .i64 (D.write (first + (n : Int) % 2) (markL n e f)).2) ∧
      ∃ S', Dk w0 w' p S' (D.write (first + (n : Int) % 2) (markL n e f)).1 (B + 1) ∧ Chg S w w' ∧ ∀ b, S' b → S b ∨ w.heap.size ≤ b := by
  obtain ⟨Z, hZ⟩ : ∃ Z, Z = (cu8 noughts).toArray := ⟨_, rfl⟩
  have hz := (zero_of_info info_block).1
  have hzs := (zero_of_info info_block).2
  rw [← hZ] at hz
  have HZ := Lib.hid hZ; clear hZ
  obtain ⟨hr0, hr1, hr2⟩ := hr
  go_enter Try.func23, Try.ntmps23
  go_wp2
  go_loopw [6, 7, 15] (fun _ _ i wr => ∃ k : Nat, k ≤ 3 ∧ i = .int .i64 k ∧ Blk wr w.heap.size 57 #[.int .u64 n, .int .u64 e, .int .u64 f] ∧ Blk wr (w.heap.size + 1) 37 (cu8 (markAt (mark3 n e f) k)).toArray ∧ Chg (fun _ => False) w wr) (fun _ _ i _ => 3 - (intOf i).toNat)
  case atStart =>
    refine ⟨0, by omega, rfl, (Blk.new w _ _).alloc _, ?_, ((Chg.refl _ w).alloc _).alloc _⟩
    have := Blk.new (w.alloc (.cells #[.int .u64 n, .int .u64 e, .int .u64 f] 57)) 37 Z
    show Blk _ _ _ (cu8 noughts).toArray
    rw [← HZ.out]
    simpa using this
  case round =>
    obtain ⟨k, hk, rfl, hb1, hb2, hch⟩ := hrel
    by_cases hlt3 : k < 3
    · have hl := markAt_length (mark3 n e f) k hk
      have hv : mark3 n e f k = if k = 0 then n else if k = 1 then e else f := rfl
      have hcut1 := fun (w : World) (b : Nat) => run_from_block w b 0 (8 * (k : Int)) (8 * k) (by omega) (by omega)
      have hcut2 := fun (w : World) (b : Nat) => run_from_block w b 0 (40 - 8 * (k : Int)) (40 - 8 * k) (by omega) (by omega)
      have hix : ∀ w, (Instr.index 68 (.agg #[.int .u64 n, .int .u64 e, .int .u64 f]) (.int .i64 k)).run Try.prog w = .ok (.int .u64 (mark3 n e f k)) w := fun w => by
        obtain rfl | rfl | rfl : k = 0 ∨ k = 1 ∨ k = 2 := by omega
        · simp [Instr.index, run_underlying Try.underlying68, asIntOf, go_sem, mark3]
        · simp [Instr.index, run_underlying Try.underlying68, asIntOf, go_sem, mark3]
        · simp [Instr.index, run_underlying Try.underlying68, asIntOf, go_sem, mark3]
      obtain ⟨v, hv'⟩ : ∃ v, v = mark3 n e f k := ⟨_, rfl⟩
      have hnext : put8 (put8 (markAt (mark3 n e f) k) (8 * k) v) (40 - 8 * k) v = markAt (mark3 n e f) (k + 1) := by rw [hv']; rfl
      rw [← hv'] at hix
      clear hv hv'
      generalize markAt (mark3 n e f) k = l at *
      have HN := Lib.hid hnext; clear hnext
      go_wp2_with fail
      refine (put64_any wr (w.heap.size + 1) (8 * k) (256 - 8 * k) (256 - 8 * k) _ (cu8 l) v hb2 (by omega) (by rw [cu8_length]; omega)).mono ?_
      rintro x w1 ⟨rfl, hw1⟩
      have hb3 := Blk.put8 hb2 (8 * k) v (by omega)
      have hl3 := put8_length l (8 * k) v (by omega)
      have hch1 := Chg.setCells (.inr (Nat.le_succ _)) (u8s (Lib.beBytes 8 v)) (8 * k) wr hch
      have hm3 : Blk w1 w.heap.size 57 #[.int .u64 n, .int .u64 e, .int .u64 f] := hb1.chg (M := fun b => b = w.heap.size + 1) (by rw [hw1]; exact Chg.setCells (M := fun b => b = w.heap.size + 1) (.inl rfl) _ _ _ (Chg.refl _ wr)) (by omega)
      rw [← hw1] at hb3 hch1
      clear hw1 hb1 hb2 hch
      go_wp2_with fail
      refine (put64_any w1 (w.heap.size + 1) (40 - 8 * k) (256 - (40 - 8 * k)) (256 - (40 - 8 * k)) _ (cu8 (put8 l (8 * k) v)) v hb3 (by omega) (by rw [cu8_length]; omega)).mono ?_
      rintro x w2 ⟨rfl, hw2⟩
      have hb4 := Blk.put8 hb3 (40 - 8 * k) v (by omega)
      have hch2 := Chg.setCells (.inr (Nat.le_succ _)) (u8s (Lib.beBytes 8 v)) (40 - 8 * k) w1 hch1
      have hm4 : Blk w2 w.heap.size 57 #[.int .u64 n, .int .u64 e, .int .u64 f] := hm3.chg (M := fun b => b = w.heap.size + 1) (by rw [hw2]; exact Chg.setCells (M := fun b => b = w.heap.size + 1) (.inl rfl) _ _ _ (Chg.refl _ w1)) (by omega)
      rw [← hw2] at hb4 hch2
      rw [HN.out] at hb4
      clear hw2 hm3 hb3 hch1
      go_wp2_with fail
      go_roundw
      case rel => exact ⟨k + 1, by omega, by push_cast; rfl, hm4, hb4, hch2⟩
      case measure => simp only [intOf]; omega
    · obtain rfl : k = 3 := by omega
      have hml : (markAt (mark3 n e f) 3).length = 256 := markAt_length _ 3 (by omega)
      obtain ⟨l, hle⟩ : ∃ l, l = markAt (mark3 n e f) 3 := ⟨_, rfl⟩
      have HM := Lib.hid (show l = markL n e f from hle)
      rw [← hle] at hb2 hml
      clear hle
      have hbl : Below w.heap.size w wr := hch.below (Nat.le_refl _) (fun _ h => h.elim)
      have hinfo : (Try.prog.info? 37).map (·.size) = some (cu8 l).length := by rw [cu8_length, hml]; exact hzs
      have c0 : wr.cell? ⟨g, 0, none⟩ = some (.pointer (some ⟨p, 0, none⟩)) := (World.cell?_of_block (a := ⟨g, 0, none⟩) (hbl.block g hgl)).trans hr0
      have c1 : wr.cell? ⟨g, 1, none⟩ = some (.int .i64 first) := (World.cell?_of_block (a := ⟨g, 1, none⟩) (hbl.block g hgl)).trans hr1
      have hd := h.below hbl
      have hw0 : w0.heap.size ≤ wr.heap.size := Nat.le_trans hb hbl.size
      have e1 : IntKind.i64.wrap (first + (n : Int) % 2) = first + (n : Int) % 2 := wrap64 _ (by omega) (by omega)
      go_wp2_with fail
      refine wp_region_hoist [0, 1, 2, 3, 4, 5, 6, 7, 8, 9, 10, 11, 12, 13] [] [14, 15] (fun w' => w'.cell? ⟨g, 0, none⟩ = some (.pointer (some ⟨p, 0, none⟩)) ∧ w'.cell? ⟨g, 1, none⟩ = some (.int .i64 first) ∧ w'.cell? ⟨w.heap.size, 0, none⟩ = some (.int .u64 n) ∧ w'.rangeAt (w.heap.size + 1) 0 (cu8 l))
        (by kernel_rfl) (by kernel_rfl) (by kernel_rfl) (by kernel_rfl) (by kernel_rfl) (by kernel_rfl) ⟨c0, c1, by rw [World.cell?_drew, hb1.cell]; rfl, hb2.drew.range⟩ ?_
      (refine HoistK.yes (by rfl) (by kernel_rfl) ⟨?_, fun w hSw => ?_, ?_⟩; rotate_left; (· obtain ⟨s0, s1, s2, s3⟩ := hSw; clear s3; go_simp; try with_reducible rfl); simp only [Act.put, List.setIfInBounds_toArray, List.getElem_toArray, List.getElem_cons_zero, List.set_cons_succ, List.set_cons_zero])
      (iterate 12 (refine HoistK.yes (by rfl) (by kernel_rfl) ⟨?_, fun w hSw => ?_, ?_⟩; rotate_left; (· obtain ⟨s0, s1, s2, s3⟩ := hSw; clear s3; go_simp; try with_reducible rfl); simp only [Act.put, List.setIfInBounds_toArray, List.getElem_toArray, List.getElem_cons_succ, List.getElem_cons_zero, List.set_cons_succ, List.set_cons_zero]))
      refine HoistK.load (by rfl) (by kernel_rfl) 37 _ rfl (w.heap.size + 1) 0 rfl (cu8 l) _ (fun w hw => hw.2.2.2) Try.underlying37 rfl hinfo ?_
      simp only [Act.put, List.setIfInBounds_toArray, List.getElem_toArray, List.getElem_cons_succ, List.getElem_cons_zero, List.set_cons_succ, List.set_cons_zero]
      refine HoistK.nil_ ?_
      simp only [opsAt, List.filterMap_cons, List.filterMap_nil, List.getElem?_toArray, List.getElem?_cons_succ, List.getElem?_cons_zero]
      refine Effects.nil_ fun _ hQ2 => ?_
      go_wp2_with fail
      refine (write_dk hd.drew hw0 (wf64 _ (by omega) (by omega)) hml hB).mono ?_
      rintro x w2 ⟨rfl, S', hd2, hc2, hS2⟩
      go_wp2_with fail
      have hl := HM.out
      subst hl
      go_ret
      exact ⟨rfl, S', hd2, (Chg.of_below hbl S).drew.trans hc2 (fun _ h => .inl h), fun b hb => (hS2 b hb).imp id fun h => Nat.le_trans hbl.size h⟩

end Go.Proofs.Ytcgokafhkkmaoaa
