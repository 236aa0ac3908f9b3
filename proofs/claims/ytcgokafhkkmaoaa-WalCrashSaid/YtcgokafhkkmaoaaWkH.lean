/- Wal: a mark is read. -/
import Derived.Test.YtcgokafhkkmaoaaWkG
import Derived.Test.YtcgokafhkkmaoaaHoist6
import Derived.Test.YtcgokafhkkmaoaaWhole
import Derived.Deep.DeepCutAuto
import Derived.Deep.CutBlock
namespace Go.Proofs.Ytcgokafhkkmaoaa
open Go.RowKit Go.Maps

attribute [-simp] Try.isAgg37 Try.sizeOf37 Try.typeInfo37

def num (bs : List UInt8) (o : Nat) : Nat := Lib.beNat ((bs.drop o).take 8)
/-- Is it a mark, of number odd or even? -/
def lookB (bs : List UInt8) (n : Nat) : Bool := decide (num bs 0 = num bs 40 ∧ num bs 8 = num bs 32 ∧ num bs 16 = num bs 24) && decide (0 < num bs 0) && decide (num bs 0 % 2 = n)

theorem run_whole_block (w : World) (b : Nat) : (Instr.sliceAt 37 (.pointer (some ⟨b, 0, none⟩)) none none none).run Try.prog w = .ok (.slice (some ⟨b, 0, none⟩) 256 256) w := by
  simp [Instr.sliceAt, Instr.sureAddr, und_block, alen_block, elem_block, go_sem, Try.sizeOf5, Result.andThen, slicedAt, Addr.add]
theorem Blk.from {w : World} {X : Nat} {t : TypeId} {bs : List UInt8} (h : Blk w X t (u8s bs).toArray) (k : Nat) (hl : bs.length = 256) (hk : k < 256) :
    Cs w (fun b => b = X) 1 (.slice (some ⟨X, k, none⟩) (256 - k) (256 - k)) (bs.drop k).length (u8s (bs.drop k)) := by
  have e : (bs.drop k).length = 256 - k := by rw [List.length_drop, hl]
  rw [e]
  refine ⟨by rw [u8s_length, e, Nat.mul_one], _, _, rfl, Nat.le_refl _, by simp only [maxLen]; omega, fun _ => ⟨X, k, rfl, rfl, h.lt, fun j u hu => ?_⟩⟩
  rw [h.cell]
  simpa [u8s] using hu
theorem size_mark : (Try.prog.info? 57).map (·.size) = some 3 := by kernel_rfl
theorem u64_at {w : World} {X : Nat} {t : TypeId} {bs : List UInt8} (h : Blk w X t (u8s bs).toArray) (k : Nat) (hl : bs.length = 256) (hk : k + 8 ≤ 256) :
    Calls Try.prog 28 #[.slice (some ⟨X, k, none⟩) (256 - k) (256 - k)] w fun e w' => e = .returned (.int .u64 (num bs k)) ∧ w' = w :=
  u64_any w (h.from k hl (by omega)) (by rw [List.length_drop, hl]; omega)
theorem ifs3 {α : Type} (a b c d e f : Int) (x y : α) : (if a = b then (if c = d then (if e = f then x else y) else y) else y) = if (a = b ∧ c = d ∧ e = f) then x else y := by
  by_cases h1 : a = b <;> by_cases h2 : c = d <;> by_cases h3 : e = f <;> simp [h1, h2, h3]
/-- What look answers. -/
def lookV (bs : List UInt8) (n : Nat) (ee : Int) : Array Value :=
  if ee = 0 then #[.agg #[.int .u64 (num bs 0), .int .u64 (num bs 8), .int .u64 (num bs 16)], .bool (lookB bs n), .int .i64 0] else #[.agg #[.int .u64 0, .int .u64 0, .int .u64 0], .bool false, .int .i64 ee]
/-- A float's block, at C or above. -/
def At (C : Nat) (o : Option Nat) (w : World) (t : TypeId) (cs : Array Value) : Prop := C ≤ w.heap.size ∧ ∀ X, o = some X → C ≤ X ∧ Blk w X t cs
theorem At.below {C : Nat} {o : Option Nat} {w w' : World} {t : TypeId} {cs : Array Value} (h : At C o w t cs) (hb : Below w.heap.size w w') : At C o w' t cs :=
  ⟨Nat.le_trans h.1 hb.size, fun X e => ⟨(h.2 X e).1, (h.2 X e).2.below hb (h.2 X e).2.lt⟩⟩
theorem At.none_ {C : Nat} {w : World} (h : C ≤ w.heap.size) (t : TypeId) (cs : Array Value) : At C none w t cs := ⟨h, fun _ e => by cases e⟩
theorem At.new {C : Nat} {w : World} {t : TypeId} {cs : Array Value} (h : At C none w t cs) : At C (some w.heap.size) (w.alloc (.cells cs t)) t cs := ⟨Nat.le_trans h.1 (by simp), fun X e => by
  injection e with e; subst e; exact ⟨h.1, Blk.new w t cs⟩⟩

set_option maxHeartbeats 1000000 in
set_option maxRecDepth 100000 in
theorem look_dk {first size : Int} {w0 w : World} {p g : Nat} {S : Nat → Prop} {D : DS} {B : Nat} (h : Dk w0 w p S D B) (hr : RegI w g p first size) (hgl : g < w.heap.size) (n : Nat) (hn : n < 2)
    (hf0 : 0 ≤ first) (hf1 : first ≤ 4096) (bs : List UInt8) (hbs : (D.read (first + n)).1 = ints bs) (hB : (B + 1) * 264 ≤ 140737488355328) :
    Calls Try.prog 25 #[.pointer (some ⟨g, 0, none⟩), .int .i64 n] w fun x w' => Below w.heap.size w w' ∧
      x = .returned (.tuple (lookV bs n (D.read (first + n)).2)) := by
  obtain ⟨hr0, hr1, hr2⟩ := hr
  go_enter Try.func25, Try.ntmps25
  obtain ⟨l, hl⟩ : ∃ l, l = (D.read (first + n)).1 := ⟨_, rfl⟩
  obtain ⟨ee, hee⟩ : ∃ ee, ee = (D.read (first + n)).2 := ⟨_, rfl⟩
  have hll : l.length = 256 := by rw [hl]; exact h.fine.read_length _
  have HR := Lib.hid (show (D.read (first + n)) = (l, ee) by rw [hl, hee])
  have HL := Lib.hid (show l = ints bs by rw [hl, hbs])
  rw [← hee]
  clear hl hee hbs
  go_upto_region 1 with fail
  go_cut [7, 8] (fun v7 v8 wx => ∃ X, v7 = .pointer (some ⟨X, 0, none⟩) ∧ v8 = .int .i64 ee ∧ Blk wx w.heap.size 57 #[.int .u64 0, .int .u64 0, .int .u64 0] ∧ Blk wx X 37 (cu8 l).toArray ∧ Below w.heap.size w wx)
  case first =>
    obtain ⟨wc, hwc⟩ : ∃ wc, wc = w.alloc (.cells #[.int .u64 0, .int .u64 0, .int .u64 0] 57) := ⟨_, rfl⟩
    rw [← hwc]
    have hbm : Blk wc w.heap.size 57 #[.int .u64 0, .int .u64 0, .int .u64 0] := by rw [hwc]; exact Blk.new w _ _
    have hbl : Below w.heap.size w wc := by rw [hwc]; exact (Below.refl _ w).alloc (Nat.le_refl _) _
    have hd : Dk w0 wc p S D B := h.below hbl
    clear hwc
    have hc0 : ∀ w', Below wc.heap.size wc w' → w'.cell? ⟨g, 0, none⟩ = some (.pointer (some ⟨p, 0, none⟩)) := fun w' hb => (World.cell?_of_block (a := ⟨g, 0, none⟩) ((hb.block g (Nat.lt_of_lt_of_le hgl hbl.size)).trans (hbl.block g hgl))).trans hr0
    have hc1 : ∀ w', Below wc.heap.size wc w' → w'.cell? ⟨g, 1, none⟩ = some (.int .i64 first) := fun w' hb => (World.cell?_of_block (a := ⟨g, 1, none⟩) ((hb.block g (Nat.lt_of_lt_of_le hgl hbl.size)).trans (hbl.block g hgl))).trans hr1
    have e1 : IntKind.i64.wrap (first + (n : Int)) = first + n := wrap64 _ (by omega) (by omega)
    have hB0 : Below wc.heap.size wc wc.drew := (Below.refl _ _).drew
    obtain ⟨Z, hZ⟩ : ∃ Z, Z = (cu8 noughts).toArray := ⟨_, rfl⟩
    have hz := (zero_of_info info_block).1
    have hzs := (zero_of_info info_block).2
    rw [← hZ] at hz
    have HZ := Lib.hid hZ; clear hZ
    refine wp_region_float [0, 1, 2, 3, 4, 5, 6, 7, 8, 9] [(10, [11, 12, 13])] 14 7 [15, 16] undef (.cells Z 37) (fun w' => Below wc.heap.size wc w') (by kernel_rfl) (by kernel_rfl) (by kernel_rfl) (by kernel_rfl) (by kernel_rfl) (by kernel_rfl) (by kernel_rfl)
      rfl rfl rfl (fun a w => ?_) (fun w hw => hw.alloc hw.size _) hB0 ?_
    · go_simp
    (refine HoistK.yes (by rfl) (by kernel_rfl) ⟨?_, fun w hSw => ?_, ?_⟩; rotate_left; (· have s0 := hc0 w hSw; have s1 := hc1 w hSw; go_simp; try with_reducible rfl); simp only [Act.put, List.setIfInBounds_toArray, List.getElem_toArray, List.getElem_cons_zero, List.set_cons_succ, List.set_cons_zero])
    (iterate 9 (refine HoistK.yes (by rfl) (by kernel_rfl) ⟨?_, fun w hSw => ?_, ?_⟩; rotate_left; (· have s0 := hc0 w hSw; have s1 := hc1 w hSw; go_simp; try with_reducible rfl); simp only [Act.put, List.setIfInBounds_toArray, List.getElem_toArray, List.getElem_cons_succ, List.getElem_cons_zero, List.set_cons_succ, List.set_cons_zero]))
    refine HoistK.nil_ ?_
    refine FloatI.mk (fun o w' => At wc.heap.size o w' 37 Z) (fun w' h => h.new) (At.none_ (Nat.le_refl _) _ _) rfl (fun o w1 ho hb1 => ?_)
    refine FloatK.cons_ rfl fun Q' hQ => ?_
    simp only [Act.put, List.setIfInBounds_toArray, List.getElem_toArray, List.getElem_cons_succ, List.getElem_cons_zero, List.set_cons_succ, List.set_cons_zero]
    go_wp2_with fail
    refine (read_dk (hd.below hb1) (wf64 _ (by omega) (by omega)) hB).mono ?_
    rintro x w2 ⟨rfl, hb2⟩
    rw [HR.out]
    go_wp2_with fail
    refine hQ _ _ (hb1.trans (hb2.mono hb1.size)) ?_
    (iterate 3 (refine HoistK.yes (by rfl) (by kernel_rfl) ⟨?_, fun w hSw => ?_, ?_⟩; rotate_left; (· go_simp; try with_reducible rfl); simp only [Act.put, List.setIfInBounds_toArray, List.getElem_toArray, List.getElem_cons_succ, List.getElem_cons_zero, List.set_cons_succ, List.set_cons_zero]))
    refine HoistK.nil_ ?_
    refine FloatI.end_ (fun o w' => At wc.heap.size o w' 37 Z) (fun w' h => h.new) (fun w hw => hw.alloc hw.size _) (ho.below hb2) (by rfl) (fun X w3 hX hb3 => ?_)
    simp only [Act.put, List.setIfInBounds_toArray, List.getElem_toArray, List.getElem_cons_succ, List.getElem_cons_zero, List.set_cons_succ, List.set_cons_zero]
    obtain ⟨hXn, hX1⟩ := hX.2 X rfl
    rw [HZ.out] at hX1
    have hinfo : (Try.prog.info? 37).map (·.size) = some (cu8 l).length := by rw [cu8_length, hll]; exact hzs
    refine Effects.cons_ fun Q2 hQ2 => ?_
    refine wpList_store_blk rfl _ _ _ rfl hX1 rfl rfl (by rw [cu8_length, cu8_length, hll]; simp only [noughts, List.length_replicate]) hinfo (cu8_one l) (fun w4 hb4 hc4 => ?_)
    have hb5 : Below wc.heap.size wc w4 := hb3.trans (hc4.below hb3.size fun b e => e ▸ hXn)
    refine hQ2 _ _ hb5 ?_
    refine Effects.cons_ fun Q3 hQ3 => ?_
    go_wp2_with fail
    refine hQ3 _ _ hb5 ?_
    refine Effects.nil_ fun Q4 hQ4 => ?_
    go_wp2_with fail
    go_meet
    exact ⟨X, rfl, rfl, hbm.below hb5 hbm.lt, hb4, hbl.trans (hb5.mono hbl.size)⟩
  case rest =>
    obtain ⟨X, rfl, rfl, hbm, hbX, hbl⟩ := hcut
    by_cases h0 : ee = 0
    · have hv : lookV bs n ee = #[.agg #[.int .u64 (num bs 0), .int .u64 (num bs 8), .int .u64 (num bs 16)], .bool (lookB bs n), .int .i64 0] := if_pos h0
      subst h0
      have HV := Lib.hid hv; clear hv
      have hl := HL.out
      subst hl
      rw [cu8_ints] at hbX
      have hbl' : bs.length = 256 := by rw [ints_length] at hll; exact hll
      clear HL hr0 hr1 hr2 h hll
      go_wp2_with fail
      refine wp_region_float [0, 2, 4] [(1, []), (3, []), (5, [6])] 7 9 [8] undef (.cells #[.int .u64 0, .int .u64 0, .int .u64 0] 57) (fun w' => Below wc.heap.size wc w') (by kernel_rfl) (by kernel_rfl) (by kernel_rfl) (by kernel_rfl) (by kernel_rfl) (by kernel_rfl) (by kernel_rfl)
        rfl rfl rfl (fun a w => ?_) (fun w hw => hw.alloc hw.size _) (Below.refl _ _).drew ?_
      · go_simp
      (refine HoistK.yes (by rfl) (by kernel_rfl) ⟨?_, fun w hSw => ?_, ?_⟩; rotate_left; (· have e1 := run_whole_block; go_simp; try with_reducible rfl); simp only [Act.put, List.setIfInBounds_toArray, List.getElem_toArray, List.getElem_cons_zero, List.set_cons_succ, List.set_cons_zero])
      (refine HoistK.yes (by rfl) (by kernel_rfl) ⟨?_, fun w hSw => ?_, ?_⟩; rotate_left; (· have e1 := fun w => run_from_block w X 0 8 8 (by omega) (by omega); go_simp; try with_reducible rfl); simp only [Act.put, List.setIfInBounds_toArray, List.getElem_toArray, List.getElem_cons_succ, List.getElem_cons_zero, List.set_cons_succ, List.set_cons_zero])
      (refine HoistK.yes (by rfl) (by kernel_rfl) ⟨?_, fun w hSw => ?_, ?_⟩; rotate_left; (· have e1 := fun w => run_from_block w X 0 16 16 (by omega) (by omega); go_simp; try with_reducible rfl); simp only [Act.put, List.setIfInBounds_toArray, List.getElem_toArray, List.getElem_cons_succ, List.getElem_cons_zero, List.set_cons_succ, List.set_cons_zero])
      refine HoistK.nil_ ?_
      refine FloatI.mk (fun o w' => At wc.heap.size o w' 57 #[.int .u64 0, .int .u64 0, .int .u64 0]) (fun w' h => h.new) (At.none_ (Nat.le_refl _) _ _) rfl (fun o w1 ho hb1 => ?_)
      refine FloatK.cons_ rfl fun Q' hQ => ?_
      simp only [Act.put, List.setIfInBounds_toArray, List.set_cons_succ, List.set_cons_zero]
      go_wp2_with fail
      refine (u64_at (hbX.below hb1 hbX.lt) 0 hbl' (by omega)).mono ?_
      rintro x w2 ⟨rfl, rfl⟩
      go_wp2_with fail
      refine hQ _ _ hb1 ?_
      clear hQ
      refine HoistK.nil_ ?_
      refine FloatI.mk (fun o w' => At wc.heap.size o w' 57 #[.int .u64 0, .int .u64 0, .int .u64 0]) (fun w' h => h.new) ho rfl (fun o w1 ho hb1 => ?_)
      refine FloatK.cons_ rfl fun Q' hQ => ?_
      simp only [Act.put, List.setIfInBounds_toArray, List.set_cons_succ, List.set_cons_zero]
      go_wp2_with fail
      refine (u64_at (hbX.below hb1 hbX.lt) 8 hbl' (by omega)).mono ?_
      rintro x w2 ⟨rfl, rfl⟩
      go_wp2_with fail
      refine hQ _ _ hb1 ?_
      clear hQ
      refine HoistK.nil_ ?_
      refine FloatI.mk (fun o w' => At wc.heap.size o w' 57 #[.int .u64 0, .int .u64 0, .int .u64 0]) (fun w' h => h.new) ho rfl (fun o w1 ho hb1 => ?_)
      refine FloatK.cons_ rfl fun Q' hQ => ?_
      simp only [Act.put, List.setIfInBounds_toArray, List.set_cons_succ, List.set_cons_zero]
      go_wp2_with fail
      refine (u64_at (hbX.below hb1 hbX.lt) 16 hbl' (by omega)).mono ?_
      rintro x w2 ⟨rfl, rfl⟩
      go_wp2_with fail
      refine hQ _ _ hb1 ?_
      clear hQ
      (refine HoistK.yes (by rfl) (by kernel_rfl) ⟨?_, fun w hSw => ?_, ?_⟩; rotate_left; (· go_simp; try with_reducible rfl); simp only [Act.put, List.setIfInBounds_toArray, List.getElem_toArray, List.getElem_cons_succ, List.getElem_cons_zero, List.set_cons_succ, List.set_cons_zero])
      refine HoistK.nil_ ?_
      refine FloatI.end_ (fun o w' => At wc.heap.size o w' 57 #[.int .u64 0, .int .u64 0, .int .u64 0]) (fun w' h => h.new) (fun w hw => hw.alloc hw.size _) ho (by rfl) (fun Y w3 hX hb3 => ?_)
      simp only [Act.put, List.setIfInBounds_toArray, List.set_cons_succ, List.set_cons_zero]
      obtain ⟨hXn, hX1⟩ := hX.2 Y rfl
      refine Effects.cons_ fun Q2 hQ2 => ?_
      refine wpList_store_blk (cs0 := [.int .u64 0, .int .u64 0, .int .u64 0]) (cs := [.int .u64 (num bs 0), .int .u64 (num bs 8), .int .u64 (num bs 16)]) rfl _ _ _ rfl hX1 rfl rfl rfl size_mark (by simp [Value.oneCell']) (fun wd hb4 hc4 => ?_)
      have hb5 : Below wc.heap.size wc wd := hb3.trans (hc4.below hb3.size fun b e => e ▸ hXn)
      refine hQ2 _ _ hb5 ?_
      refine Effects.nil_ fun Q4 hQ4 => ?_
      have hYn : Y ≠ w.heap.size := Nat.ne_of_gt (Nat.lt_of_lt_of_le hbm.lt hXn)
      have hbX := hbX.below hb5 hbX.lt
      have hbm := hbm.below hb5 hbm.lt
      have hbl := hbl.trans (hb5.mono hbl.size)
      have hbY := hb4
      clear hQ2 hb5 hc4 hX1 hX hb3 hb4 ho hXn
      go_wp2_with fail
      refine wp_region_float [0, 2, 4] [(1, []), (3, []), (5, [6])] 7 10 [8] undef (.cells #[.int .u64 0, .int .u64 0, .int .u64 0] 57) (fun w' => Below wd.heap.size wd w') (by kernel_rfl) (by kernel_rfl) (by kernel_rfl) (by kernel_rfl) (by kernel_rfl) (by kernel_rfl) (by kernel_rfl)
        rfl rfl rfl (fun a w => ?_) (fun w hw => hw.alloc hw.size _) (Below.refl _ _).drew ?_
      · go_simp
      (refine HoistK.yes (by rfl) (by kernel_rfl) ⟨?_, fun w hSw => ?_, ?_⟩; rotate_left; (· have e1 := fun w => run_from_block w X 0 40 40 (by omega) (by omega); go_simp; try with_reducible rfl); simp only [Act.put, List.setIfInBounds_toArray, List.getElem_toArray, List.getElem_cons_zero, List.set_cons_succ, List.set_cons_zero])
      (refine HoistK.yes (by rfl) (by kernel_rfl) ⟨?_, fun w hSw => ?_, ?_⟩; rotate_left; (· have e1 := fun w => run_from_block w X 0 32 32 (by omega) (by omega); go_simp; try with_reducible rfl); simp only [Act.put, List.setIfInBounds_toArray, List.getElem_toArray, List.getElem_cons_succ, List.getElem_cons_zero, List.set_cons_succ, List.set_cons_zero])
      (refine HoistK.yes (by rfl) (by kernel_rfl) ⟨?_, fun w hSw => ?_, ?_⟩; rotate_left; (· have e1 := fun w => run_from_block w X 0 24 24 (by omega) (by omega); go_simp; try with_reducible rfl); simp only [Act.put, List.setIfInBounds_toArray, List.getElem_toArray, List.getElem_cons_succ, List.getElem_cons_zero, List.set_cons_succ, List.set_cons_zero])
      refine HoistK.nil_ ?_
      refine FloatI.mk (fun o w' => At wd.heap.size o w' 57 #[.int .u64 0, .int .u64 0, .int .u64 0]) (fun w' h => h.new) (At.none_ (Nat.le_refl _) _ _) rfl (fun o w1 ho hb1 => ?_)
      refine FloatK.cons_ rfl fun Q' hQ => ?_
      simp only [Act.put, List.setIfInBounds_toArray, List.set_cons_succ, List.set_cons_zero]
      go_wp2_with fail
      refine (u64_at (hbX.below hb1 hbX.lt) 40 hbl' (by omega)).mono ?_
      rintro x w2 ⟨rfl, rfl⟩
      go_wp2_with fail
      refine hQ _ _ hb1 ?_
      clear hQ
      refine HoistK.nil_ ?_
      refine FloatI.mk (fun o w' => At wd.heap.size o w' 57 #[.int .u64 0, .int .u64 0, .int .u64 0]) (fun w' h => h.new) ho rfl (fun o w1 ho hb1 => ?_)
      refine FloatK.cons_ rfl fun Q' hQ => ?_
      simp only [Act.put, List.setIfInBounds_toArray, List.set_cons_succ, List.set_cons_zero]
      go_wp2_with fail
      refine (u64_at (hbX.below hb1 hbX.lt) 32 hbl' (by omega)).mono ?_
      rintro x w2 ⟨rfl, rfl⟩
      go_wp2_with fail
      refine hQ _ _ hb1 ?_
      clear hQ
      refine HoistK.nil_ ?_
      refine FloatI.mk (fun o w' => At wd.heap.size o w' 57 #[.int .u64 0, .int .u64 0, .int .u64 0]) (fun w' h => h.new) ho rfl (fun o w1 ho hb1 => ?_)
      refine FloatK.cons_ rfl fun Q' hQ => ?_
      simp only [Act.put, List.setIfInBounds_toArray, List.set_cons_succ, List.set_cons_zero]
      go_wp2_with fail
      refine (u64_at (hbX.below hb1 hbX.lt) 24 hbl' (by omega)).mono ?_
      rintro x w2 ⟨rfl, rfl⟩
      go_wp2_with fail
      refine hQ _ _ hb1 ?_
      clear hQ
      (refine HoistK.yes (by rfl) (by kernel_rfl) ⟨?_, fun w hSw => ?_, ?_⟩; rotate_left; (· go_simp; try with_reducible rfl); simp only [Act.put, List.setIfInBounds_toArray, List.getElem_toArray, List.getElem_cons_succ, List.getElem_cons_zero, List.set_cons_succ, List.set_cons_zero])
      refine HoistK.nil_ ?_
      refine FloatI.end_ (fun o w' => At wd.heap.size o w' 57 #[.int .u64 0, .int .u64 0, .int .u64 0]) (fun w' h => h.new) (fun w hw => hw.alloc hw.size _) ho (by rfl) (fun Y2 w3 hX hb3 => ?_)
      simp only [Act.put, List.setIfInBounds_toArray, List.set_cons_succ, List.set_cons_zero]
      obtain ⟨hXn, hX1⟩ := hX.2 Y2 rfl
      refine Effects.cons_ fun Q2 hQ2 => ?_
      refine wpList_store_blk (cs0 := [.int .u64 0, .int .u64 0, .int .u64 0]) (cs := [.int .u64 (num bs 40), .int .u64 (num bs 32), .int .u64 (num bs 24)]) rfl _ _ _ rfl hX1 rfl rfl rfl size_mark (by simp [Value.oneCell']) (fun we hb4 hc4 => ?_)
      have hb5 : Below wd.heap.size wd we := hb3.trans (hc4.below hb3.size fun b e => e ▸ hXn)
      refine hQ2 _ _ hb5 ?_
      refine Effects.nil_ fun Q4 hQ4 => ?_
      have hY2n : Y2 ≠ w.heap.size := Nat.ne_of_gt (Nat.lt_of_lt_of_le hbm.lt hXn)
      have hbX := hbX.below hb5 hbX.lt
      have hbm := hbm.below hb5 hbm.lt
      have hbY := hbY.below hb5 hbY.lt
      have hbl := hbl.trans (hb5.mono hbl.size)
      have hbY2 := hb4
      clear hQ2 hb5 hc4 hX1 hX hb3 hb4 ho hXn
      go_wp2_with fail
      by_cases hE : (num bs 0 : Int) = num bs 40 ∧ (num bs 8 : Int) = num bs 32 ∧ (num bs 16 : Int) = num bs 24
      · by_cases hp : 0 < num bs 0
        · obtain ⟨q, hq⟩ : ∃ q, q = decide (num bs 0 % 2 = n) := ⟨_, rfl⟩
          have HB := Lib.hid (show lookB bs n = q by unfold lookB; rw [hq, decide_eq_true (by omega), decide_eq_true hp]; simp)
          have HM := Lib.hid hq; clear hq
          have HE := Lib.hid hE; clear hE
          have HP := Lib.hid hp; clear hp
          refine wp_region_hoist [0, 1, 2, 3, 4, 5, 6, 7, 8, 9, 10, 11, 12, 13, 14, 15, 16] [17] [18, 19] (fun w' => Blk w' Y 57 #[.int .u64 (num bs 0), .int .u64 (num bs 8), .int .u64 (num bs 16)] ∧ Blk w' Y2 57 #[.int .u64 (num bs 40), .int .u64 (num bs 32), .int .u64 (num bs 24)])
            (by kernel_rfl) (by kernel_rfl) (by kernel_rfl) (by kernel_rfl) (by kernel_rfl) (by kernel_rfl) ⟨hbY.drew, hbY2.drew⟩ ?_
          (refine HoistK.yes (by rfl) (by kernel_rfl) ⟨?_, fun w hSw => ?_, ?_⟩; rotate_left; (· obtain ⟨hy, hy2⟩ := hSw; have hyc := hy.cell; have hy2c := hy2.cell; go_simp; try with_reducible rfl); simp only [Act.put, List.setIfInBounds_toArray, List.getElem_toArray, List.getElem_cons_zero, List.set_cons_succ, List.set_cons_zero])
          (refine HoistK.yes (by rfl) (by kernel_rfl) ⟨?_, fun w hSw => ?_, ?_⟩; rotate_left; (· obtain ⟨hy, hy2⟩ := hSw; have hyc := hy.cell; have hy2c := hy2.cell; go_simp; try with_reducible rfl); simp only [Act.put, List.setIfInBounds_toArray, List.getElem_toArray, List.getElem_cons_succ, List.getElem_cons_zero, List.set_cons_succ, List.set_cons_zero])
          (refine HoistK.yes (by rfl) (by kernel_rfl) ⟨?_, fun w hSw => ?_, ?_⟩; rotate_left; (· obtain ⟨hy, hy2⟩ := hSw; have hyc := hy.cell; have hy2c := hy2.cell; go_simp; try with_reducible rfl); simp only [Act.put, List.setIfInBounds_toArray, List.getElem_toArray, List.getElem_cons_succ, List.getElem_cons_zero, List.set_cons_succ, List.set_cons_zero])
          (refine HoistK.yes (by rfl) (by kernel_rfl) ⟨?_, fun w hSw => ?_, ?_⟩; rotate_left; (· obtain ⟨hy, hy2⟩ := hSw; have hyc := hy.cell; have hy2c := hy2.cell; go_simp; rw [ifs3, if_pos HE.out]; try with_reducible rfl); simp only [Act.put, List.setIfInBounds_toArray, List.getElem_toArray, List.getElem_cons_succ, List.getElem_cons_zero, List.set_cons_succ, List.set_cons_zero])
          (refine HoistK.yes (by rfl) (by kernel_rfl) ⟨?_, fun w hSw => ?_, ?_⟩; rotate_left; (· obtain ⟨hy, hy2⟩ := hSw; have hyc := hy.cell; have hy2c := hy2.cell; go_simp; try with_reducible rfl); simp only [Act.put, List.setIfInBounds_toArray, List.getElem_toArray, List.getElem_cons_succ, List.getElem_cons_zero, List.set_cons_succ, List.set_cons_zero])
          (refine HoistK.yes (by rfl) (by kernel_rfl) ⟨?_, fun w hSw => ?_, ?_⟩; rotate_left; (· obtain ⟨hy, hy2⟩ := hSw; have hyc := hy.cell; have hy2c := hy2.cell; go_simp; try with_reducible rfl); simp only [Act.put, List.setIfInBounds_toArray, List.getElem_toArray, List.getElem_cons_succ, List.getElem_cons_zero, List.set_cons_succ, List.set_cons_zero])
          (refine HoistK.yes (by rfl) (by kernel_rfl) ⟨?_, fun w hSw => ?_, ?_⟩; rotate_left; (· obtain ⟨hy, hy2⟩ := hSw; have hyc := hy.cell; have hy2c := hy2.cell; go_simp; try with_reducible rfl); simp only [Act.put, List.setIfInBounds_toArray, List.getElem_toArray, List.getElem_cons_succ, List.getElem_cons_zero, List.set_cons_succ, List.set_cons_zero])
          (refine HoistK.yes (by rfl) (by kernel_rfl) ⟨?_, fun w hSw => ?_, ?_⟩; rotate_left; (· obtain ⟨hy, hy2⟩ := hSw; have hyc := hy.cell; have hy2c := hy2.cell; have hp := HP.out; go_simp; try with_reducible rfl); simp only [Act.put, List.setIfInBounds_toArray, List.getElem_toArray, List.getElem_cons_succ, List.getElem_cons_zero, List.set_cons_succ, List.set_cons_zero])
          (refine HoistK.yes (by rfl) (by kernel_rfl) ⟨?_, fun w hSw => ?_, ?_⟩; rotate_left; (· obtain ⟨hy, hy2⟩ := hSw; have hyc := hy.cell; have hy2c := hy2.cell; go_simp; try with_reducible rfl); simp only [Act.put, List.setIfInBounds_toArray, List.getElem_toArray, List.getElem_cons_succ, List.getElem_cons_zero, List.set_cons_succ, List.set_cons_zero])
          (refine HoistK.yes (by rfl) (by kernel_rfl) ⟨?_, fun w hSw => ?_, ?_⟩; rotate_left; (· obtain ⟨hy, hy2⟩ := hSw; have hyc := hy.cell; have hy2c := hy2.cell; go_simp; try with_reducible rfl); simp only [Act.put, List.setIfInBounds_toArray, List.getElem_toArray, List.getElem_cons_succ, List.getElem_cons_zero, List.set_cons_succ, List.set_cons_zero])
          (refine HoistK.yes (by rfl) (by kernel_rfl) ⟨?_, fun w hSw => ?_, ?_⟩; rotate_left; (· obtain ⟨hy, hy2⟩ := hSw; have hyc := hy.cell; have hy2c := hy2.cell; go_simp; try with_reducible rfl); simp only [Act.put, List.setIfInBounds_toArray, List.getElem_toArray, List.getElem_cons_succ, List.getElem_cons_zero, List.set_cons_succ, List.set_cons_zero])
          (refine HoistK.yes (by rfl) (by kernel_rfl) ⟨?_, fun w hSw => ?_, ?_⟩; rotate_left; (· obtain ⟨hy, hy2⟩ := hSw; have hyc := hy.cell; have hy2c := hy2.cell; go_simp; try with_reducible rfl); simp only [Act.put, List.setIfInBounds_toArray, List.getElem_toArray, List.getElem_cons_succ, List.getElem_cons_zero, List.set_cons_succ, List.set_cons_zero])
          (refine HoistK.yes (by rfl) (by kernel_rfl) ⟨?_, fun w hSw => ?_, ?_⟩; rotate_left; (· obtain ⟨hy, hy2⟩ := hSw; have hyc := hy.cell; have hy2c := hy2.cell; go_simp; try with_reducible rfl); simp only [Act.put, List.setIfInBounds_toArray, List.getElem_toArray, List.getElem_cons_succ, List.getElem_cons_zero, List.set_cons_succ, List.set_cons_zero])
          (refine HoistK.yes (by rfl) (by kernel_rfl) ⟨?_, fun w hSw => ?_, ?_⟩; rotate_left; (· obtain ⟨hy, hy2⟩ := hSw; have hyc := hy.cell; have hy2c := hy2.cell; go_simp; try with_reducible rfl); simp only [Act.put, List.setIfInBounds_toArray, List.getElem_toArray, List.getElem_cons_succ, List.getElem_cons_zero, List.set_cons_succ, List.set_cons_zero])
          (refine HoistK.yes (by rfl) (by kernel_rfl) ⟨?_, fun w hSw => ?_, ?_⟩; rotate_left; (· obtain ⟨hy, hy2⟩ := hSw; have hyc := hy.cell; have hy2c := hy2.cell; go_simp; try with_reducible rfl); simp only [Act.put, List.setIfInBounds_toArray, List.getElem_toArray, List.getElem_cons_succ, List.getElem_cons_zero, List.set_cons_succ, List.set_cons_zero])
          (refine HoistK.yes (by rfl) (by kernel_rfl) ⟨?_, fun w hSw => ?_, ?_⟩; rotate_left; (· obtain ⟨hy, hy2⟩ := hSw; have hyc := hy.cell; have hy2c := hy2.cell; have hm := HM.out; go_simp; try with_reducible rfl); simp only [Act.put, List.setIfInBounds_toArray, List.getElem_toArray, List.getElem_cons_succ, List.getElem_cons_zero, List.set_cons_succ, List.set_cons_zero])
          (refine HoistK.yes (by rfl) (by kernel_rfl) ⟨?_, fun w hSw => ?_, ?_⟩; rotate_left; (· obtain ⟨hy, hy2⟩ := hSw; have hyc := hy.cell; have hy2c := hy2.cell; go_simp; try with_reducible rfl); simp only [Act.put, List.setIfInBounds_toArray, List.getElem_toArray, List.getElem_cons_succ, List.getElem_cons_zero, List.set_cons_succ, List.set_cons_zero])
          refine HoistK.nil_ ?_
          refine Effects.cons_ fun Q2 hQ2 => ?_
          refine wpList_store_blk (cs0 := [.int .u64 0, .int .u64 0, .int .u64 0]) (cs := [.int .u64 (num bs 0), .int .u64 (num bs 8), .int .u64 (num bs 16)]) rfl _ _ _ rfl hbm.drew rfl rfl rfl size_mark (by simp [Value.oneCell']) (fun wf hb4 hc4 => ?_)
          refine hQ2 _ _ ⟨hbY.drew.chg hc4 hYn, hbY2.drew.chg hc4 hY2n⟩ ?_
          simp only [opsAt, List.filterMap_cons, List.filterMap_nil, List.getElem?_toArray, List.getElem?_cons_succ, List.getElem?_cons_zero]
          refine Effects.nil_ fun Q4 hQ4 => ?_
          go_wp2
          have hc := hb4.cell
          refine bodyPost_ret (v := .tuple (lookV bs n 0)) ?_ rfl ⟨?_, rfl⟩
          · rw [HV.out, HB.out]
            simp [results, Try.results25, Act.put, asAddr, go_sem, hc]
            rw [HM.out, Bool.eq_iff_iff, beq_iff_eq, decide_eq_true_iff]; omega
          · exact hbl.trans (((Chg.refl (fun b => b = w.heap.size) we).drew.trans hc4 fun _ h => .inl h).below hbl.size fun b e => Nat.le_of_eq e.symm)
        · have HB := Lib.hid (show lookB bs n = false by unfold lookB; rw [decide_eq_false hp]; simp)
          have HE := Lib.hid hE; clear hE
          have HP := Lib.hid hp; clear hp
          refine wp_region_hoist [0, 1, 2, 3, 4, 5, 6, 7, 8, 9, 10, 11, 12, 13, 14, 15, 16] [17] [18, 19] (fun w' => Blk w' Y 57 #[.int .u64 (num bs 0), .int .u64 (num bs 8), .int .u64 (num bs 16)] ∧ Blk w' Y2 57 #[.int .u64 (num bs 40), .int .u64 (num bs 32), .int .u64 (num bs 24)])
            (by kernel_rfl) (by kernel_rfl) (by kernel_rfl) (by kernel_rfl) (by kernel_rfl) (by kernel_rfl) ⟨hbY.drew, hbY2.drew⟩ ?_
          (refine HoistK.yes (by rfl) (by kernel_rfl) ⟨?_, fun w hSw => ?_, ?_⟩; rotate_left; (· obtain ⟨hy, hy2⟩ := hSw; have hyc := hy.cell; have hy2c := hy2.cell; go_simp; try with_reducible rfl); simp only [Act.put, List.setIfInBounds_toArray, List.getElem_toArray, List.getElem_cons_zero, List.set_cons_succ, List.set_cons_zero])
          (refine HoistK.yes (by rfl) (by kernel_rfl) ⟨?_, fun w hSw => ?_, ?_⟩; rotate_left; (· obtain ⟨hy, hy2⟩ := hSw; have hyc := hy.cell; have hy2c := hy2.cell; go_simp; try with_reducible rfl); simp only [Act.put, List.setIfInBounds_toArray, List.getElem_toArray, List.getElem_cons_succ, List.getElem_cons_zero, List.set_cons_succ, List.set_cons_zero])
          (refine HoistK.yes (by rfl) (by kernel_rfl) ⟨?_, fun w hSw => ?_, ?_⟩; rotate_left; (· obtain ⟨hy, hy2⟩ := hSw; have hyc := hy.cell; have hy2c := hy2.cell; go_simp; try with_reducible rfl); simp only [Act.put, List.setIfInBounds_toArray, List.getElem_toArray, List.getElem_cons_succ, List.getElem_cons_zero, List.set_cons_succ, List.set_cons_zero])
          (refine HoistK.yes (by rfl) (by kernel_rfl) ⟨?_, fun w hSw => ?_, ?_⟩; rotate_left; (· obtain ⟨hy, hy2⟩ := hSw; have hyc := hy.cell; have hy2c := hy2.cell; go_simp; rw [ifs3, if_pos HE.out]; try with_reducible rfl); simp only [Act.put, List.setIfInBounds_toArray, List.getElem_toArray, List.getElem_cons_succ, List.getElem_cons_zero, List.set_cons_succ, List.set_cons_zero])
          (refine HoistK.yes (by rfl) (by kernel_rfl) ⟨?_, fun w hSw => ?_, ?_⟩; rotate_left; (· obtain ⟨hy, hy2⟩ := hSw; have hyc := hy.cell; have hy2c := hy2.cell; go_simp; try with_reducible rfl); simp only [Act.put, List.setIfInBounds_toArray, List.getElem_toArray, List.getElem_cons_succ, List.getElem_cons_zero, List.set_cons_succ, List.set_cons_zero])
          (refine HoistK.yes (by rfl) (by kernel_rfl) ⟨?_, fun w hSw => ?_, ?_⟩; rotate_left; (· obtain ⟨hy, hy2⟩ := hSw; have hyc := hy.cell; have hy2c := hy2.cell; go_simp; try with_reducible rfl); simp only [Act.put, List.setIfInBounds_toArray, List.getElem_toArray, List.getElem_cons_succ, List.getElem_cons_zero, List.set_cons_succ, List.set_cons_zero])
          (refine HoistK.yes (by rfl) (by kernel_rfl) ⟨?_, fun w hSw => ?_, ?_⟩; rotate_left; (· obtain ⟨hy, hy2⟩ := hSw; have hyc := hy.cell; have hy2c := hy2.cell; go_simp; try with_reducible rfl); simp only [Act.put, List.setIfInBounds_toArray, List.getElem_toArray, List.getElem_cons_succ, List.getElem_cons_zero, List.set_cons_succ, List.set_cons_zero])
          (refine HoistK.yes (by rfl) (by kernel_rfl) ⟨?_, fun w hSw => ?_, ?_⟩; rotate_left; (· obtain ⟨hy, hy2⟩ := hSw; have hyc := hy.cell; have hy2c := hy2.cell; have hp := HP.out; go_simp; try with_reducible rfl); simp only [Act.put, List.setIfInBounds_toArray, List.getElem_toArray, List.getElem_cons_succ, List.getElem_cons_zero, List.set_cons_succ, List.set_cons_zero])
          (refine HoistK.yes (by rfl) (by kernel_rfl) ⟨?_, fun w hSw => ?_, ?_⟩; rotate_left; (· obtain ⟨hy, hy2⟩ := hSw; have hyc := hy.cell; have hy2c := hy2.cell; go_simp; try with_reducible rfl); simp only [Act.put, List.setIfInBounds_toArray, List.getElem_toArray, List.getElem_cons_succ, List.getElem_cons_zero, List.set_cons_succ, List.set_cons_zero])
          (refine HoistK.yes (by rfl) (by kernel_rfl) ⟨?_, fun w hSw => ?_, ?_⟩; rotate_left; (· obtain ⟨hy, hy2⟩ := hSw; have hyc := hy.cell; have hy2c := hy2.cell; go_simp; try with_reducible rfl); simp only [Act.put, List.setIfInBounds_toArray, List.getElem_toArray, List.getElem_cons_succ, List.getElem_cons_zero, List.set_cons_succ, List.set_cons_zero])
          (refine HoistK.no (by rfl) (by kernel_rfl) ?_; simp only [Act.put, List.setIfInBounds_toArray, List.getElem_toArray, List.getElem_cons_succ, List.getElem_cons_zero, List.set_cons_succ, List.set_cons_zero])
          (refine HoistK.no (by rfl) (by kernel_rfl) ?_; simp only [Act.put, List.setIfInBounds_toArray, List.getElem_toArray, List.getElem_cons_succ, List.getElem_cons_zero, List.set_cons_succ, List.set_cons_zero])
          (refine HoistK.no (by rfl) (by kernel_rfl) ?_; simp only [Act.put, List.setIfInBounds_toArray, List.getElem_toArray, List.getElem_cons_succ, List.getElem_cons_zero, List.set_cons_succ, List.set_cons_zero])
          (refine HoistK.no (by rfl) (by kernel_rfl) ?_; simp only [Act.put, List.setIfInBounds_toArray, List.getElem_toArray, List.getElem_cons_succ, List.getElem_cons_zero, List.set_cons_succ, List.set_cons_zero])
          (refine HoistK.no (by rfl) (by kernel_rfl) ?_; simp only [Act.put, List.setIfInBounds_toArray, List.getElem_toArray, List.getElem_cons_succ, List.getElem_cons_zero, List.set_cons_succ, List.set_cons_zero])
          (refine HoistK.no (by rfl) (by kernel_rfl) ?_; simp only [Act.put, List.setIfInBounds_toArray, List.getElem_toArray, List.getElem_cons_succ, List.getElem_cons_zero, List.set_cons_succ, List.set_cons_zero])
          (refine HoistK.yes (by rfl) (by kernel_rfl) ⟨?_, fun w hSw => ?_, ?_⟩; rotate_left; (· obtain ⟨hy, hy2⟩ := hSw; have hyc := hy.cell; have hy2c := hy2.cell; go_simp; try with_reducible rfl); simp only [Act.put, List.setIfInBounds_toArray, List.getElem_toArray, List.getElem_cons_succ, List.getElem_cons_zero, List.set_cons_succ, List.set_cons_zero])
          refine HoistK.nil_ ?_
          refine Effects.cons_ fun Q2 hQ2 => ?_
          refine wpList_store_blk (cs0 := [.int .u64 0, .int .u64 0, .int .u64 0]) (cs := [.int .u64 (num bs 0), .int .u64 (num bs 8), .int .u64 (num bs 16)]) rfl _ _ _ rfl hbm.drew rfl rfl rfl size_mark (by simp [Value.oneCell']) (fun wf hb4 hc4 => ?_)
          refine hQ2 _ _ ⟨hbY.drew.chg hc4 hYn, hbY2.drew.chg hc4 hY2n⟩ ?_
          simp only [opsAt, List.filterMap_cons, List.filterMap_nil, List.getElem?_toArray, List.getElem?_cons_succ, List.getElem?_cons_zero]
          refine Effects.nil_ fun Q4 hQ4 => ?_
          go_wp2
          have hc := hb4.cell
          refine bodyPost_ret (v := .tuple (lookV bs n 0)) ?_ rfl ⟨?_, rfl⟩
          · rw [HV.out, HB.out]
            simp [results, Try.results25, Act.put, asAddr, go_sem, hc]
          · exact hbl.trans (((Chg.refl (fun b => b = w.heap.size) we).drew.trans hc4 fun _ h => .inl h).below hbl.size fun b e => Nat.le_of_eq e.symm)
      · have HB := Lib.hid (show lookB bs n = false by unfold lookB; rw [decide_eq_false (by omega)]; simp)
        have HE := Lib.hid hE; clear hE
        refine wp_region_hoist [0, 1, 2, 3, 4, 5, 6, 7, 8, 9, 10, 11, 12, 13, 14, 15, 16] [17] [18, 19] (fun w' => Blk w' Y 57 #[.int .u64 (num bs 0), .int .u64 (num bs 8), .int .u64 (num bs 16)] ∧ Blk w' Y2 57 #[.int .u64 (num bs 40), .int .u64 (num bs 32), .int .u64 (num bs 24)])
          (by kernel_rfl) (by kernel_rfl) (by kernel_rfl) (by kernel_rfl) (by kernel_rfl) (by kernel_rfl) ⟨hbY.drew, hbY2.drew⟩ ?_
        (refine HoistK.yes (by rfl) (by kernel_rfl) ⟨?_, fun w hSw => ?_, ?_⟩; rotate_left; (· obtain ⟨hy, hy2⟩ := hSw; have hyc := hy.cell; have hy2c := hy2.cell; go_simp; try with_reducible rfl); simp only [Act.put, List.setIfInBounds_toArray, List.getElem_toArray, List.getElem_cons_zero, List.set_cons_succ, List.set_cons_zero])
        (refine HoistK.yes (by rfl) (by kernel_rfl) ⟨?_, fun w hSw => ?_, ?_⟩; rotate_left; (· obtain ⟨hy, hy2⟩ := hSw; have hyc := hy.cell; have hy2c := hy2.cell; go_simp; try with_reducible rfl); simp only [Act.put, List.setIfInBounds_toArray, List.getElem_toArray, List.getElem_cons_succ, List.getElem_cons_zero, List.set_cons_succ, List.set_cons_zero])
        (refine HoistK.yes (by rfl) (by kernel_rfl) ⟨?_, fun w hSw => ?_, ?_⟩; rotate_left; (· obtain ⟨hy, hy2⟩ := hSw; have hyc := hy.cell; have hy2c := hy2.cell; go_simp; try with_reducible rfl); simp only [Act.put, List.setIfInBounds_toArray, List.getElem_toArray, List.getElem_cons_succ, List.getElem_cons_zero, List.set_cons_succ, List.set_cons_zero])
        (refine HoistK.yes (by rfl) (by kernel_rfl) ⟨?_, fun w hSw => ?_, ?_⟩; rotate_left; (· obtain ⟨hy, hy2⟩ := hSw; have hyc := hy.cell; have hy2c := hy2.cell; go_simp; rw [ifs3, if_neg HE.out]; try with_reducible rfl); simp only [Act.put, List.setIfInBounds_toArray, List.getElem_toArray, List.getElem_cons_succ, List.getElem_cons_zero, List.set_cons_succ, List.set_cons_zero])
        (refine HoistK.yes (by rfl) (by kernel_rfl) ⟨?_, fun w hSw => ?_, ?_⟩; rotate_left; (· obtain ⟨hy, hy2⟩ := hSw; have hyc := hy.cell; have hy2c := hy2.cell; go_simp; try with_reducible rfl); simp only [Act.put, List.setIfInBounds_toArray, List.getElem_toArray, List.getElem_cons_succ, List.getElem_cons_zero, List.set_cons_succ, List.set_cons_zero])
        (refine HoistK.no (by rfl) (by kernel_rfl) ?_; simp only [Act.put, List.setIfInBounds_toArray, List.getElem_toArray, List.getElem_cons_succ, List.getElem_cons_zero, List.set_cons_succ, List.set_cons_zero])
        (refine HoistK.no (by rfl) (by kernel_rfl) ?_; simp only [Act.put, List.setIfInBounds_toArray, List.getElem_toArray, List.getElem_cons_succ, List.getElem_cons_zero, List.set_cons_succ, List.set_cons_zero])
        (refine HoistK.no (by rfl) (by kernel_rfl) ?_; simp only [Act.put, List.setIfInBounds_toArray, List.getElem_toArray, List.getElem_cons_succ, List.getElem_cons_zero, List.set_cons_succ, List.set_cons_zero])
        (refine HoistK.yes (by rfl) (by kernel_rfl) ⟨?_, fun w hSw => ?_, ?_⟩; rotate_left; (· obtain ⟨hy, hy2⟩ := hSw; have hyc := hy.cell; have hy2c := hy2.cell; go_simp; try with_reducible rfl); simp only [Act.put, List.setIfInBounds_toArray, List.getElem_toArray, List.getElem_cons_succ, List.getElem_cons_zero, List.set_cons_succ, List.set_cons_zero])
        (refine HoistK.yes (by rfl) (by kernel_rfl) ⟨?_, fun w hSw => ?_, ?_⟩; rotate_left; (· obtain ⟨hy, hy2⟩ := hSw; have hyc := hy.cell; have hy2c := hy2.cell; go_simp; try with_reducible rfl); simp only [Act.put, List.setIfInBounds_toArray, List.getElem_toArray, List.getElem_cons_succ, List.getElem_cons_zero, List.set_cons_succ, List.set_cons_zero])
        (refine HoistK.no (by rfl) (by kernel_rfl) ?_; simp only [Act.put, List.setIfInBounds_toArray, List.getElem_toArray, List.getElem_cons_succ, List.getElem_cons_zero, List.set_cons_succ, List.set_cons_zero])
        (refine HoistK.no (by rfl) (by kernel_rfl) ?_; simp only [Act.put, List.setIfInBounds_toArray, List.getElem_toArray, List.getElem_cons_succ, List.getElem_cons_zero, List.set_cons_succ, List.set_cons_zero])
        (refine HoistK.no (by rfl) (by kernel_rfl) ?_; simp only [Act.put, List.setIfInBounds_toArray, List.getElem_toArray, List.getElem_cons_succ, List.getElem_cons_zero, List.set_cons_succ, List.set_cons_zero])
        (refine HoistK.no (by rfl) (by kernel_rfl) ?_; simp only [Act.put, List.setIfInBounds_toArray, List.getElem_toArray, List.getElem_cons_succ, List.getElem_cons_zero, List.set_cons_succ, List.set_cons_zero])
        (refine HoistK.no (by rfl) (by kernel_rfl) ?_; simp only [Act.put, List.setIfInBounds_toArray, List.getElem_toArray, List.getElem_cons_succ, List.getElem_cons_zero, List.set_cons_succ, List.set_cons_zero])
        (refine HoistK.no (by rfl) (by kernel_rfl) ?_; simp only [Act.put, List.setIfInBounds_toArray, List.getElem_toArray, List.getElem_cons_succ, List.getElem_cons_zero, List.set_cons_succ, List.set_cons_zero])
        (refine HoistK.yes (by rfl) (by kernel_rfl) ⟨?_, fun w hSw => ?_, ?_⟩; rotate_left; (· obtain ⟨hy, hy2⟩ := hSw; have hyc := hy.cell; have hy2c := hy2.cell; go_simp; try with_reducible rfl); simp only [Act.put, List.setIfInBounds_toArray, List.getElem_toArray, List.getElem_cons_succ, List.getElem_cons_zero, List.set_cons_succ, List.set_cons_zero])
        refine HoistK.nil_ ?_
        refine Effects.cons_ fun Q2 hQ2 => ?_
        refine wpList_store_blk (cs0 := [.int .u64 0, .int .u64 0, .int .u64 0]) (cs := [.int .u64 (num bs 0), .int .u64 (num bs 8), .int .u64 (num bs 16)]) rfl _ _ _ rfl hbm.drew rfl rfl rfl size_mark (by simp [Value.oneCell']) (fun wf hb4 hc4 => ?_)
        refine hQ2 _ _ ⟨hbY.drew.chg hc4 hYn, hbY2.drew.chg hc4 hY2n⟩ ?_
        simp only [opsAt, List.filterMap_cons, List.filterMap_nil, List.getElem?_toArray, List.getElem?_cons_succ, List.getElem?_cons_zero]
        refine Effects.nil_ fun Q4 hQ4 => ?_
        go_wp2
        have hc := hb4.cell
        refine bodyPost_ret (v := .tuple (lookV bs n 0)) ?_ rfl ⟨?_, rfl⟩
        · rw [HV.out, HB.out]
          simp [results, Try.results25, Act.put, asAddr, go_sem, hc]
        · exact hbl.trans (((Chg.refl (fun b => b = w.heap.size) we).drew.trans hc4 fun _ h => .inl h).below hbl.size fun b e => Nat.le_of_eq e.symm)
    · have hv : lookV bs n ee = #[.agg #[.int .u64 0, .int .u64 0, .int .u64 0], .bool false, .int .i64 ee] := if_neg h0
      have HV := Lib.hid hv; clear hv
      have hne : (ee != 0) = true := by simpa using h0
      have hmc := hbm.cell
      have hmf := hbm.frozen
      have hz := ((hbm.set_ 0 (.int .u64 0)).set_ 1 (.int .u64 0)).set_ 2 (.int .u64 0)
      have HZ := Lib.hid hz; clear hz
      clear h0
      go_wp2
      have hc := HZ.out.cell
      refine bodyPost_ret (v := .tuple (lookV bs n ee)) ?_ rfl ⟨?_, rfl⟩
      · rw [HV.out]
        simp [results, Try.results25, Act.put, asAddr, go_sem, hc]
      · exact ((hbl.setCell (by simp) _).setCell (by simp) _).setCell (by simp) _

end Go.Proofs.Ytcgokafhkkmaoaa
