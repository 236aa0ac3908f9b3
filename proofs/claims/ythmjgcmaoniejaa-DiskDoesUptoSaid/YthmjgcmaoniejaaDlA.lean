/- Both disks side by side: play. -/
import Derived.Test.YthmjgcmaoniejaaDkZ
import Derived.Test.YthmjgcmaoniejaaDkN
import Derived.Deep.CutBlock
namespace Go.Proofs.Ythmjgcmaoniejaa
open Go.RowKit Go.Maps

attribute [-simp] Try.isAgg35 Try.sizeOf35 Try.typeInfo35 Try.isAgg61 Try.sizeOf61 Try.typeInfo61 Try.isAgg58 Try.sizeOf58 Try.typeInfo58

/-- The program's disk and the document's, apart in memory, alike. -/
structure Pair (w0 w : World) (p : Nat) (S : Nat → Prop) (D : DS) (q : Nat) (T : Nat → Prop) (R : RS) (B : Nat) : Prop where
  d : Dk w0 w p S D B
  r : RefI w q T R
  rnew : ∀ b, T b → w0.heap.size ≤ b
  tie : Tie D R
  firm : ∀ x ∈ R.firm, x.length = 256
  apart : ∀ b, S b → ¬ T b

section
variable {w0 w w' : World} {p q : Nat} {S T : Nat → Prop} {D : DS} {R : RS} {B : Nat}
theorem Pair.below (h : Pair w0 w p S D q T R B) (hb : Below w.heap.size w w') : Pair w0 w' p S D q T R B := ⟨h.d.below hb, h.r.below hb, h.rnew, h.tie, h.firm, h.apart⟩
theorem Pair.alloc (h : Pair w0 w p S D q T R B) (o : Obj) : Pair w0 (w.alloc o) p S D q T R B := h.below ((Below.refl _ w).alloc (Nat.le_refl _) o)
theorem Pair.rok (h : Pair w0 w p S D q T R B) : R.Ok := ⟨h.firm, by rw [h.tie.loose]; exact h.d.fine.ok.1⟩
theorem Pair.rlen (h : Pair w0 w p S D q T R B) : R.loose.length ≤ B := by have := h.d.fine.size; rw [h.tie.loose]; omega
theorem RS.write_firm (R : RS) (n : Int) (l : List Int) : (R.write n l).1.firm = R.firm := by
  have e := R.begins_same.1
  unfold RS.write
  split
  · exact e
  · split
    · exact e
    · split
      · exact e
      · exact e
theorem RS.sync_firm {R : RS} (hok : R.Ok) : ∀ x ∈ R.sync.1.firm, x.length = 256 := by
  obtain ⟨e1, e2, _⟩ := R.begins_same
  unfold RS.sync
  split
  · rw [e1]; exact hok.1
  · show ∀ x ∈ R.begins.loose.foldl setF R.begins.firm, x.length = 256
    rw [e1, e2]
    exact setF_ok _ _ hok.1 hok.2
theorem RS.up_firm {D : DS} {R : RS} (h : Tie D R) (hl : ∀ x ∈ D.loose, x.2.length = 256) (hf : ∀ x ∈ R.firm, x.length = 256) (keep : List Bool) (torn : Int) : ∀ x ∈ (R.up keep torn).firm, x.length = 256 := by
  obtain ⟨_, _, h3⟩ := up_tie (keep := keep) (torn := torn) h.firm hl hf h.names (min D.loose.length keep.length) (Nat.le_refl _)
  unfold RS.up
  rw [h.loose]
  exact h3

/-- The document's calls, in a pair. -/
theorem pair_dk (h : Pair w0 w p S D q T R B) {S' : Nat → Prop} (hc : Chg S w w') (hs : ∀ b, S' b → S b ∨ w.heap.size ≤ b) : RefI w' q T R ∧ ∀ b, S' b → ¬ T b :=
  ⟨h.r.chg hc (fun b hb hs' => h.apart b hs' hb), fun b hb ht => (hs b hb).elim (fun k => h.apart b k ht) (fun k => by have := h.r.2.1 b ht; omega)⟩
end

set_option maxHeartbeats 4000000 in
set_option maxRecDepth 100000 in
theorem play_any (w0 w : World) (p q : Nat) (S T : Nat → Prop) (D : DS) (R : RS) (B : Nat) (h : Pair w0 w p S D q T R B) (hb : Below w0.heap.size w0 w) (g : KSt) (hg : g.Ok w0) (hB : (B + 2) * 264 ≤ 140737488355328) :
    Calls Try.prog 15 #[.pointer (some ⟨p, 0, none⟩), .pointer (some ⟨q, 0, none⟩), .agg #[.int .i64 g.kind, .int .i64 g.n, .int .u8 g.b, g.kv]] w fun e w' => e = .returned (.bool true) ∧ Below w0.heap.size w0 w' ∧
      ∃ S' T' D' R', Pair w0 w' p S' D' q T' R' (B + 1) := by
  obtain ⟨Ak, capk, hkv⟩ := hg.keep.form
  rw [hkv]
  have hX := Blk.new w 30 #[.int .i64 g.kind, .int .i64 g.n, .int .u8 g.b, .slice Ak g.keep.length capk]
  have h1 := h.alloc (.cells #[.int .i64 g.kind, .int .i64 g.n, .int .u8 g.b, .slice Ak g.keep.length capk] 30)
  have hb1 := hb.alloc hb.size (.cells #[.int .i64 g.kind, .int .i64 g.n, .int .u8 g.b, .slice Ak g.keep.length capk] 30)
  have hlS := h.d.lt
  have hlT := h.r.2.1
  by_cases k0 : g.kind = 0
  · rw [k0]
    rw [k0] at hX h1 hb1
    clear k0
    go_enter Try.func15, Try.ntmps15
    have hc := hX.cell
    go_upto_region 3 with fail
    generalize hW : w.alloc (.cells #[.int .i64 0, .int .i64 g.n, .int .u8 g.b, .slice Ak g.keep.length capk] 30) = W at *
    have hWs : W.heap.size = w.heap.size + 1 := by rw [← hW, World.size_alloc]
    clear hW
    refine wp_region_hoist [0, 1, 2, 3, 4, 7, 8, 9, 10, 11] [5, 6, 12, 13] [14, 15] (fun w' => w'.cell? ⟨w.heap.size, 1, none⟩ = some (.int .i64 g.n) ∧ w'.cell? ⟨w.heap.size, 2, none⟩ = some (.int .u8 g.b))
      (by kernel_rfl) (by kernel_rfl) (by kernel_rfl) (by kernel_rfl) (by kernel_rfl) (by kernel_rfl) ⟨hX.cell 1, hX.cell 2⟩ ?_
    (refine HoistK.yes (by rfl) (by kernel_rfl) ⟨?_, fun w hSw => ?_, ?_⟩; rotate_left; (· go_simp; try with_reducible rfl); simp only [Act.put, List.setIfInBounds_toArray, List.getElem_toArray, List.getElem_cons_zero, List.set_cons_succ, List.set_cons_zero])
    (refine HoistK.yes (by rfl) (by kernel_rfl) ⟨?_, fun w hSw => ?_, ?_⟩; rotate_left; (· go_simp; try with_reducible rfl); simp only [Act.put, List.setIfInBounds_toArray, List.getElem_toArray, List.getElem_cons_succ, List.getElem_cons_zero, List.set_cons_succ, List.set_cons_zero])
    (refine HoistK.yes (by rfl) (by kernel_rfl) ⟨?_, fun w hSw => ?_, ?_⟩; rotate_left; (· go_simp; try with_reducible rfl); simp only [Act.put, List.setIfInBounds_toArray, List.getElem_toArray, List.getElem_cons_succ, List.getElem_cons_zero, List.set_cons_succ, List.set_cons_zero])
    (refine HoistK.yes (by rfl) (by kernel_rfl) ⟨?_, fun w hSw => ?_, ?_⟩; rotate_left; (· go_simp; try with_reducible rfl); simp only [Act.put, List.setIfInBounds_toArray, List.getElem_toArray, List.getElem_cons_succ, List.getElem_cons_zero, List.set_cons_succ, List.set_cons_zero])
    (refine HoistK.yes (by rfl) (by kernel_rfl) ⟨?_, fun w hSw => ?_, ?_⟩; rotate_left; (· go_simp; try with_reducible rfl); simp only [Act.put, List.setIfInBounds_toArray, List.getElem_toArray, List.getElem_cons_succ, List.getElem_cons_zero, List.set_cons_succ, List.set_cons_zero])
    (refine HoistK.yes (by rfl) (by kernel_rfl) ⟨?_, fun w hSw => ?_, ?_⟩; rotate_left; (· go_simp; try with_reducible rfl); simp only [Act.put, List.setIfInBounds_toArray, List.getElem_toArray, List.getElem_cons_succ, List.getElem_cons_zero, List.set_cons_succ, List.set_cons_zero])
    (refine HoistK.yes (by rfl) (by kernel_rfl) ⟨?_, fun w hSw => ?_, ?_⟩; rotate_left; (· go_simp; try with_reducible rfl); simp only [Act.put, List.setIfInBounds_toArray, List.getElem_toArray, List.getElem_cons_succ, List.getElem_cons_zero, List.set_cons_succ, List.set_cons_zero])
    (refine HoistK.yes (by rfl) (by kernel_rfl) ⟨?_, fun w hSw => ?_, ?_⟩; rotate_left; (· go_simp; try with_reducible rfl); simp only [Act.put, List.setIfInBounds_toArray, List.getElem_toArray, List.getElem_cons_succ, List.getElem_cons_zero, List.set_cons_succ, List.set_cons_zero])
    (refine HoistK.yes (by rfl) (by kernel_rfl) ⟨?_, fun w hSw => ?_, ?_⟩; rotate_left; (· go_simp; try with_reducible rfl); simp only [Act.put, List.setIfInBounds_toArray, List.getElem_toArray, List.getElem_cons_succ, List.getElem_cons_zero, List.set_cons_succ, List.set_cons_zero])
    (refine HoistK.yes (by rfl) (by kernel_rfl) ⟨?_, fun w hSw => ?_, ?_⟩; rotate_left; (· go_simp; try with_reducible rfl); simp only [Act.put, List.setIfInBounds_toArray, List.getElem_toArray, List.getElem_cons_succ, List.getElem_cons_zero, List.set_cons_succ, List.set_cons_zero])
    refine HoistK.nil_ ?_
    simp only [opsAt, List.filterMap_cons, List.filterMap_nil, List.getElem?_toArray, List.getElem?_cons_succ, List.getElem?_cons_zero]
    refine Effects.cons_ fun _ hQ => ?_
    go_wp2_with fail
    refine (block_any g.b _).mono ?_
    rintro e w2 ⟨rfl, b2⟩
    go_wp2_with fail
    have b2' : Below W.heap.size W w2 := (Below.refl _ W).drew.trans b2
    have hX2 := hX.below b2' hX.lt
    have h2 := h1.below b2'
    have hb2 := hb1.trans (b2'.mono hb1.size)
    refine hQ _ _ ⟨hX2.cell 1, hX2.cell 2⟩ (Effects.cons_ fun _ hQ => ?_)
    clear hX h1 hb1 b2 b2'
    go_wp2_with fail
    refine (write_dk h2.d hb2.size hg.n (blk_length g.b) (by omega)).mono ?_
    rintro e w3 ⟨rfl, S3, d3, c3, s3⟩
    go_wp2_with fail
    obtain ⟨r3, a3⟩ := pair_dk h2 c3 s3
    have hb3 := h2.d.out c3 hb2
    have hX3 := hX2.chg c3 (fun hs => by have := hlS _ hs; omega)
    have hT3 := h2.r.2.1
    refine hQ _ _ ⟨hX3.cell 1, hX3.cell 2⟩ (Effects.cons_ fun _ hQ => ?_)
    go_wp2_with fail
    refine (block_any g.b _).mono ?_
    rintro e w4 ⟨rfl, b4⟩
    go_wp2_with fail
    have hX4 := hX3.below b4 hX3.lt
    have d4 := d3.below b4
    have r4 := r3.below b4
    have hb4 := hb3.trans (b4.mono hb3.size)
    refine hQ _ _ ⟨hX4.cell 1, hX4.cell 2⟩ (Effects.cons_ fun _ hQ => ?_)
    go_wp2_with fail
    have hf1 := h2.d.fine.fuse1
    have hf2 := h2.d.fine.fuse2
    have hfu := h2.tie.fuse
    have hrl := h2.rlen
    refine (rwrite_any q T R g.n (blk g.b) (blk_length g.b) _ r4 (by omega) (by omega) (by omega)).mono ?_
    rintro e w5 ⟨rfl, T5, r5, c5, t5⟩
    go_wp2_with fail
    have hT4 := r4.2.1
    have hX5 := hX4.chg c5 (fun hs => by have := hlT _ hs; omega)
    obtain ⟨te, tt⟩ := h2.tie.write g.n (blk g.b)
    have d5 := d4.chg c5 a3
    have hb5 : Below w0.heap.size w0 w5 := hb4.trans (c5.below hb4.size h2.rnew)
    have hl4 := d4.lt
    have hP : Pair w0 w5 p S3 (D.write g.n (blk g.b)).1 q T5 (R.write g.n (blk g.b)).1 (B + 1) := ⟨d5, r5, fun b hb => (t5 b hb).elim (h2.rnew b) (fun hk => Nat.le_trans hb4.size hk), tt, by rw [RS.write_firm]; exact h2.firm, fun b hs ht => (t5 b ht).elim (a3 b hs) (fun hk => by have := hl4 b hs; omega)⟩
    rw [← te]
    refine hQ _ _ ⟨hX5.cell 1, hX5.cell 2⟩ (Effects.nil_ fun _ hQ' => ?_)
    clear hQ
    go_wp2_with fail
    go_ret
    exact ⟨rfl, hb5, _, _, _, _, hP⟩
  by_cases k1 : g.kind = 1
  · rw [k1]
    rw [k1] at hX h1 hb1
    clear k1 k0
    have hc := hX.cell
    have hz := (zero_of_info info_block).1
    have hys := (zero_of_info info_block).2
    obtain ⟨Z, hZ⟩ : ∃ Z, Z = (cu8 noughts).toArray := ⟨_, rfl⟩
    rw [← hZ] at hz
    have hZs : Z.size = 256 := by rw [hZ, List.size_toArray, cu8_length, noughts, List.length_replicate]
    clear hZ
    generalize hW : w.alloc (.cells #[.int .i64 1, .int .i64 g.n, .int .u8 g.b, .slice Ak g.keep.length capk] 30) = W at *
    go_enter Try.func15, Try.ntmps15
    go_wp2_with fail
    refine (read_dk h1.d hg.n (by omega)).mono ?_
    rintro e w2 ⟨rfl, b2⟩
    have hrl := h1.d.fine.read_length g.n
    have htr0 := h1.tie.read g.n
    obtain ⟨l, hl0⟩ : ∃ l, l = (D.read g.n).1 := ⟨_, rfl⟩
    obtain ⟨rr, hrr0⟩ : ∃ rr, rr = (D.read g.n).2 := ⟨_, rfl⟩
    rw [← hl0, ← hrr0]
    rw [← hl0] at hrl
    have hl := Lib.hid hl0
    have hrr := Lib.hid hrr0
    have htr := Lib.hid htr0
    clear hl0 hrr0 htr0
    have h2 := h1.below b2
    have hb2 := hb1.trans (b2.mono hb1.size)
    have hX2 := hX.below b2 hX.lt
    have hst := fun w => run_storeCells_new (P := Try.prog) w 35 Z (cu8 l).toArray (by rw [List.size_toArray, cu8_length, hrl]; exact hys) (by rw [hZs, List.size_toArray, cu8_length, hrl]) (all_oneCell_toArray (cu8_one _))
    have hls : (cu8 l).toArray.size = 256 := by rw [List.size_toArray, cu8_length, hrl]
    have heq := fun w => run_equal_block w l l hrl hrl
    simp only [decide_true] at heq
    clear h1 hb1 b2 hX hys hc
    go_wp2_with fail
    simp only [Try.sizeOf35, Result.andThen, ↓reduceIte, hst]
    rw [Oper.upon_skip]
    have k2 := Blk.new w2 35 (cu8 l).toArray
    have h3 := h2.alloc (.cells (cu8 l).toArray 35)
    have hb3 := hb2.alloc hb2.size (.cells (cu8 l).toArray 35)
    have hX3 := hX2.alloc (.cells (cu8 l).toArray 35)
    generalize w2.alloc (.cells (cu8 l).toArray 35) = w3 at *
    generalize w2.heap.size = X1 at *
    clear h2 hb2 hX2
    have hc := hX3.cell
    go_wp2_with fail
    clear hc
    have hrl2 := h3.rlen
    refine (rread_any q T R g.n _ h3.r h3.rok (by omega) h3.tie.len).mono ?_
    rintro e w4 ⟨rfl, b4⟩
    rw [← htr.out, ← hl.out, ← hrr.out]
    have h4 := h3.below b4
    have hb4 := hb3.trans (b4.mono hb3.size)
    have k4 := k2.below b4 k2.lt
    clear h3 hb3 hX3 b4 k2
    go_wp2_with fail
    simp only [Try.sizeOf35, Result.andThen, ↓reduceIte, hst]
    rw [Oper.upon_skip]
    go_wp2_with fail
    have hlc : ∀ (X : Nat) (W : World), Blk W X 35 (cu8 l).toArray → (loadCellsFrom ⟨X, 0, none⟩ 0 256 #[]).run Try.prog W = .ok (cu8 l).toArray W := fun X W hb => by
      have := run_loadCells_list (P := Try.prog) W ⟨X, 0, none⟩ (cu8 l) (fun i v hv => by rw [Addr.add_mid]; exact hb.range i v hv)
      rw [cu8_length, hrl] at this
      exact this
    have hl1 := hlc _ _ (k4.alloc (.cells (cu8 l).toArray 35))
    have hl2 := hlc _ _ (Blk.new w4 35 (cu8 l).toArray)
    simp only [Try.isAgg35, Try.sizeOf35, Result.andThen, ↓reduceIte, hl1]
    rw [Oper.upon_value]
    go_wp2_with fail
    simp only [Try.isAgg35, Try.sizeOf35, Result.andThen, ↓reduceIte, hl2]
    rw [Oper.upon_value]
    go_wp2_with fail
    go_ret
    have h5 := h4.alloc (.cells (cu8 l).toArray 35)
    exact ⟨rfl, hb4.alloc hb4.size _, S, T, D, R, h5.d.more (by omega), h5.r, h5.rnew, h5.tie, h5.firm, h5.apart⟩
  by_cases k2 : g.kind = 2
  · rw [k2]
    rw [k2] at hX h1 hb1
    clear k2 k1 k0
    have hc := hX.cell
    generalize hW : w.alloc (.cells #[.int .i64 2, .int .i64 g.n, .int .u8 g.b, .slice Ak g.keep.length capk] 30) = W at *
    go_enter Try.func15, Try.ntmps15
    go_wp2_with fail
    refine (sync_dk h1.d (by omega)).mono ?_
    rintro e w2 ⟨rfl, d2, c2⟩
    obtain ⟨r2, a2⟩ := pair_dk h1 c2 (fun _ h => .inl h)
    have hb2 := h1.d.out c2 hb1
    go_wp2_with fail
    have hf1 := h1.d.fine.fuse1
    have hf2 := h1.d.fine.fuse2
    have hfu := h1.tie.fuse
    have hrl := h1.rlen
    refine (rsync_any q T R _ r2 (by omega) (by omega) h1.rok (by rw [h1.tie.loose]; exact h1.tie.names) h1.tie.len (by omega)).mono ?_
    rintro e w3 ⟨rfl, r3, c3⟩
    obtain ⟨te, tt⟩ := h1.tie.sync
    have d3 := d2.chg c3 a2
    have hb3 : Below w0.heap.size w0 w3 := hb2.trans (c3.below hb2.size h1.rnew)
    rw [← te]
    go_wp2_with fail
    go_ret
    exact ⟨rfl, hb3, S, T, _, _, d3.more (by omega), r3, h1.rnew, tt, RS.sync_firm h1.rok, a2⟩
  have t0 : (g.kind == 0) = false := by simpa using k0
  have t1 : (g.kind == 1) = false := by simpa using k1
  have t2 : (g.kind == 2) = false := by simpa using k2
  clear k0 k1 k2
  go_enter Try.func15, Try.ntmps15
  go_upto_block 0 with fail
  go_cut [] (fun wx => ∃ D' R', Pair w0 wx p S D' q T R' (B + 1) ∧ Below w0.heap.size w0 wx)
  case first =>
    have hc := hX.cell
    generalize hW : w.alloc (.cells #[.int .i64 g.kind, .int .i64 g.n, .int .u8 g.b, .slice Ak g.keep.length capk] 30) = W at *
    have hWs : W.heap.size = w.heap.size + 1 := by rw [← hW, World.size_alloc]
    clear hW
    have hXS : ¬ S w.heap.size := fun hs => by have := hlS _ hs; omega
    by_cases k3 : g.kind = 3
    · have t3 : (g.kind == 3) = true := by rw [k3]; rfl
      clear k3
      go_wp2_with fail
      refine (room_dk h1.d g.n).mono ?_
      rintro e w2 ⟨rfl, d2, c2⟩
      obtain ⟨r2, a2⟩ := pair_dk h1 c2 (fun _ h => .inl h)
      have hb2 := h1.d.out c2 hb1
      have hc2 := (hX.chg c2 hXS).cell
      clear hc
      go_wp2_with fail
      refine (rroom_any q T R g.n _ r2).mono ?_
      rintro e w3 ⟨rfl, r3, c3⟩
      go_wp2_with fail
      go_meet
      exact ⟨_, _, ⟨(d2.chg c3 a2).more (by omega), r3, h1.rnew, h1.tie.setRoom g.n, h1.firm, a2⟩, hb2.trans (c3.below hb2.size h1.rnew)⟩
    have t3 : (g.kind == 3) = false := by simpa using k3
    clear k3
    by_cases k4 : g.kind = 4
    · have t4 : (g.kind == 4) = true := by rw [k4]; rfl
      clear k4
      go_wp2_with fail
      refine (arm_dk h1.d hg.n).mono ?_
      rintro e w2 ⟨rfl, d2, c2⟩
      obtain ⟨r2, a2⟩ := pair_dk h1 c2 (fun _ h => .inl h)
      have hb2 := h1.d.out c2 hb1
      have hc2 := (hX.chg c2 hXS).cell
      clear hc
      go_wp2_with fail
      refine (rarm_any q T R g.n _ r2).mono ?_
      rintro e w3 ⟨rfl, r3, c3⟩
      go_wp2_with fail
      go_meet
      exact ⟨_, _, ⟨(d2.chg c3 a2).more (by omega), r3, h1.rnew, h1.tie.setFuse g.n, h1.firm, a2⟩, hb2.trans (c3.below hb2.size h1.rnew)⟩
    have t4 : (g.kind == 4) = false := by simpa using k4
    clear k4
    by_cases k5 : g.kind = 5
    · have t5 : (g.kind == 5) = true := by rw [k5]; rfl
      clear k5
      have hkp := hg.keep
      rw [hkv] at hkp
      go_wp2_with fail
      refine (up_dk h1.d (hkp.below hb1) g.n (by omega)).mono ?_
      rintro e w2 ⟨rfl, d2, c2⟩
      obtain ⟨r2, a2⟩ := pair_dk h1 c2 (fun _ h => .inl h)
      have hb2 := h1.d.out c2 hb1
      have hc2 := (hX.chg c2 hXS).cell
      have hrl := h1.rlen
      clear hc
      go_wp2_with fail
      refine (rup_any q T (fun b => b < w0.heap.size) R g.keep g.n _ _ r2 h1.rok (hkp.below hb2) (fun b hb ht => by have := h1.rnew b ht; omega) (by rw [h1.tie.loose]; exact h1.tie.names) (by omega)).mono ?_
      rintro e w3 ⟨rfl, r3, c3⟩
      go_wp2_with fail
      go_meet
      exact ⟨_, _, ⟨(d2.chg c3 a2).more (by omega), r3, h1.rnew, h1.tie.up h1.d.fine.ok.1 h1.firm g.keep g.n, RS.up_firm h1.tie h1.d.fine.ok.1 h1.firm g.keep g.n, a2⟩, hb2.trans (c3.below hb2.size h1.rnew)⟩
    have t5 : (g.kind == 5) = false := by simpa using k5
    clear k5
    go_wp2_with fail
    go_meet
    exact ⟨D, R, ⟨h1.d.more (by omega), h1.r, h1.rnew, h1.tie, h1.firm, h1.apart⟩, hb1⟩
  case rest =>
    obtain ⟨D', R', hP, hbP⟩ := hcut
    clear hX h1 hb1 hlS hlT h
    go_wp2_with fail
    obtain ⟨_, _, vf, vl, hbr, hfo, _, hlo, _⟩ := hP.r
    obtain ⟨Al, capl, rfl⟩ := hlo.form
    obtain ⟨Af, capf, rfl⟩ := hfo.form
    have hcell : ∀ w', Below wc.heap.size wc w' → ∀ i, w'.cell? ⟨q, i, none⟩ = (#[.slice Af R'.firm.length capf, .slice Al R'.loose.length capl, .int .i64 R'.room, .int .i64 R'.fuse, .bool R'.off] : Array Value)[i]? := fun w' hb => (hbr.below hb hbr.lt).cell
    have e1 := hP.tie.off
    have e2 := congrArg List.length hP.tie.loose
    have e3 := hP.tie.blocks
    refine wp_region_segs [([0, 2, 3, 4, 5], [1]), ([6, 7, 8, 10, 11, 12, 13, 14], [9]), ([15, 16, 17, 18, 20, 21, 22, 23, 24], [19]), ([25, 26, 27], [])] (fun w' => Below wc.heap.size wc w') (by kernel_rfl) (by kernel_rfl) (by kernel_rfl) (by kernel_rfl) ((Below.refl _ _).drew) ?_
    have hB : Below wc.heap.size wc wc.drew := (Below.refl _ _).drew
    refine (show HoistK _ _ _ [0, 2, 3, 4, 5] _ _ from ?_)
    (refine HoistK.yes (by rfl) (by kernel_rfl) ⟨?_, fun w hSw => ?_, ?_⟩; rotate_left; (· have hce := hcell w hSw; go_simp; try with_reducible rfl); simp only [Act.put, List.setIfInBounds_toArray, List.getElem_toArray, List.getElem_cons_zero, List.set_cons_succ, List.set_cons_zero])
    (refine HoistK.yes (by rfl) (by kernel_rfl) ⟨?_, fun w hSw => ?_, ?_⟩; rotate_left; (· have hce := hcell w hSw; go_simp; try with_reducible rfl); simp only [Act.put, List.setIfInBounds_toArray, List.getElem_toArray, List.getElem_cons_succ, List.getElem_cons_zero, List.set_cons_succ, List.set_cons_zero])
    (refine HoistK.yes (by rfl) (by kernel_rfl) ⟨?_, fun w hSw => ?_, ?_⟩; rotate_left; (· have hce := hcell w hSw; go_simp; try with_reducible rfl); simp only [Act.put, List.setIfInBounds_toArray, List.getElem_toArray, List.getElem_cons_succ, List.getElem_cons_zero, List.set_cons_succ, List.set_cons_zero])
    (refine HoistK.yes (by rfl) (by kernel_rfl) ⟨?_, fun w hSw => ?_, ?_⟩; rotate_left; (· have hce := hcell w hSw; go_simp; try with_reducible rfl); simp only [Act.put, List.setIfInBounds_toArray, List.getElem_toArray, List.getElem_cons_succ, List.getElem_cons_zero, List.set_cons_succ, List.set_cons_zero])
    (refine HoistK.yes (by rfl) (by kernel_rfl) ⟨?_, fun w hSw => ?_, ?_⟩; rotate_left; (· have hce := hcell w hSw; go_simp; try with_reducible rfl); simp only [Act.put, List.setIfInBounds_toArray, List.getElem_toArray, List.getElem_cons_succ, List.getElem_cons_zero, List.set_cons_succ, List.set_cons_zero])
    refine HoistK.nil_ ?_
    simp only [opsAt, List.filterMap_cons, List.filterMap_nil, List.getElem?_toArray, List.getElem?_cons_succ, List.getElem?_cons_zero]
    refine EffS.cons_ fun _ hQ => ?_
    go_wp2_with fail
    refine (down_any p S D' _ (hP.d.is.below hB)).mono ?_
    rintro e v2 ⟨rfl, rfl⟩
    go_wp2_with fail
    refine hQ _ _ hB (EffS.nil_ ?_)
    clear hQ
    refine (show HoistK _ _ _ [6, 7, 8, 10, 11, 12, 13, 14] _ _ from ?_)
    (refine HoistK.yes (by rfl) (by kernel_rfl) ⟨?_, fun w hSw => ?_, ?_⟩; rotate_left; (· have hce := hcell w hSw; go_simp; try with_reducible rfl); simp only [Act.put, List.setIfInBounds_toArray, List.getElem_toArray, List.getElem_cons_succ, List.getElem_cons_zero, List.set_cons_succ, List.set_cons_zero])
    (refine HoistK.yes (by rfl) (by kernel_rfl) ⟨?_, fun w hSw => ?_, ?_⟩; rotate_left; (· have hce := hcell w hSw; go_simp; try with_reducible rfl); simp only [Act.put, List.setIfInBounds_toArray, List.getElem_toArray, List.getElem_cons_succ, List.getElem_cons_zero, List.set_cons_succ, List.set_cons_zero])
    (refine HoistK.yes (by rfl) (by kernel_rfl) ⟨?_, fun w hSw => ?_, ?_⟩; rotate_left; (· have hce := hcell w hSw; go_simp; try with_reducible rfl); simp only [Act.put, List.setIfInBounds_toArray, List.getElem_toArray, List.getElem_cons_succ, List.getElem_cons_zero, List.set_cons_succ, List.set_cons_zero])
    (refine HoistK.yes (by rfl) (by kernel_rfl) ⟨?_, fun w hSw => ?_, ?_⟩; rotate_left; (· have hce := hcell w hSw; go_simp; try with_reducible rfl); simp only [Act.put, List.setIfInBounds_toArray, List.getElem_toArray, List.getElem_cons_succ, List.getElem_cons_zero, List.set_cons_succ, List.set_cons_zero])
    (refine HoistK.yes (by rfl) (by kernel_rfl) ⟨?_, fun w hSw => ?_, ?_⟩; rotate_left; (· have hce := hcell w hSw; go_simp; try with_reducible rfl); simp only [Act.put, List.setIfInBounds_toArray, List.getElem_toArray, List.getElem_cons_succ, List.getElem_cons_zero, List.set_cons_succ, List.set_cons_zero])
    (refine HoistK.yes (by rfl) (by kernel_rfl) ⟨?_, fun w hSw => ?_, ?_⟩; rotate_left; (· have hce := hcell w hSw; go_simp; try with_reducible rfl); simp only [Act.put, List.setIfInBounds_toArray, List.getElem_toArray, List.getElem_cons_succ, List.getElem_cons_zero, List.set_cons_succ, List.set_cons_zero])
    (refine HoistK.yes (by rfl) (by kernel_rfl) ⟨?_, fun w hSw => ?_, ?_⟩; rotate_left; (· have hce := hcell w hSw; go_simp; try with_reducible rfl); simp only [Act.put, List.setIfInBounds_toArray, List.getElem_toArray, List.getElem_cons_succ, List.getElem_cons_zero, List.set_cons_succ, List.set_cons_zero])
    (refine HoistK.yes (by rfl) (by kernel_rfl) ⟨?_, fun w hSw => ?_, ?_⟩; rotate_left; (· have hce := hcell w hSw; go_simp; try with_reducible rfl); simp only [Act.put, List.setIfInBounds_toArray, List.getElem_toArray, List.getElem_cons_succ, List.getElem_cons_zero, List.set_cons_succ, List.set_cons_zero])
    refine HoistK.nil_ ?_
    simp only [opsAt, List.filterMap_cons, List.filterMap_nil, List.getElem?_toArray, List.getElem?_cons_succ, List.getElem?_cons_zero]
    refine EffS.cons_ fun _ hQ => ?_
    go_wp2_with fail
    refine (loose_any p S D' _ (hP.d.is.below hB)).mono ?_
    rintro e v2 ⟨rfl, rfl⟩
    go_wp2_with fail
    refine hQ _ _ hB (EffS.nil_ ?_)
    clear hQ
    refine (show HoistK _ _ _ [15, 16, 17, 18, 20, 21, 22, 23, 24] _ _ from ?_)
    (refine HoistK.yes (by rfl) (by kernel_rfl) ⟨?_, fun w hSw => ?_, ?_⟩; rotate_left; (· have hce := hcell w hSw; go_simp; try with_reducible rfl); simp only [Act.put, List.setIfInBounds_toArray, List.getElem_toArray, List.getElem_cons_succ, List.getElem_cons_zero, List.set_cons_succ, List.set_cons_zero])
    (refine HoistK.yes (by rfl) (by kernel_rfl) ⟨?_, fun w hSw => ?_, ?_⟩; rotate_left; (· have hce := hcell w hSw; go_simp; try with_reducible rfl); simp only [Act.put, List.setIfInBounds_toArray, List.getElem_toArray, List.getElem_cons_succ, List.getElem_cons_zero, List.set_cons_succ, List.set_cons_zero])
    (refine HoistK.yes (by rfl) (by kernel_rfl) ⟨?_, fun w hSw => ?_, ?_⟩; rotate_left; (· have hce := hcell w hSw; go_simp; try with_reducible rfl); simp only [Act.put, List.setIfInBounds_toArray, List.getElem_toArray, List.getElem_cons_succ, List.getElem_cons_zero, List.set_cons_succ, List.set_cons_zero])
    (refine HoistK.yes (by rfl) (by kernel_rfl) ⟨?_, fun w hSw => ?_, ?_⟩; rotate_left; (· have hce := hcell w hSw; go_simp; try with_reducible rfl); simp only [Act.put, List.setIfInBounds_toArray, List.getElem_toArray, List.getElem_cons_succ, List.getElem_cons_zero, List.set_cons_succ, List.set_cons_zero])
    (refine HoistK.yes (by rfl) (by kernel_rfl) ⟨?_, fun w hSw => ?_, ?_⟩; rotate_left; (· have hce := hcell w hSw; go_simp; try with_reducible rfl); simp only [Act.put, List.setIfInBounds_toArray, List.getElem_toArray, List.getElem_cons_succ, List.getElem_cons_zero, List.set_cons_succ, List.set_cons_zero])
    (refine HoistK.yes (by rfl) (by kernel_rfl) ⟨?_, fun w hSw => ?_, ?_⟩; rotate_left; (· have hce := hcell w hSw; go_simp; try with_reducible rfl); simp only [Act.put, List.setIfInBounds_toArray, List.getElem_toArray, List.getElem_cons_succ, List.getElem_cons_zero, List.set_cons_succ, List.set_cons_zero])
    (refine HoistK.yes (by rfl) (by kernel_rfl) ⟨?_, fun w hSw => ?_, ?_⟩; rotate_left; (· have hce := hcell w hSw; go_simp; try with_reducible rfl); simp only [Act.put, List.setIfInBounds_toArray, List.getElem_toArray, List.getElem_cons_succ, List.getElem_cons_zero, List.set_cons_succ, List.set_cons_zero])
    (refine HoistK.yes (by rfl) (by kernel_rfl) ⟨?_, fun w hSw => ?_, ?_⟩; rotate_left; (· have hce := hcell w hSw; go_simp; try with_reducible rfl); simp only [Act.put, List.setIfInBounds_toArray, List.getElem_toArray, List.getElem_cons_succ, List.getElem_cons_zero, List.set_cons_succ, List.set_cons_zero])
    (refine HoistK.yes (by rfl) (by kernel_rfl) ⟨?_, fun w hSw => ?_, ?_⟩; rotate_left; (· have hce := hcell w hSw; go_simp; try with_reducible rfl); simp only [Act.put, List.setIfInBounds_toArray, List.getElem_toArray, List.getElem_cons_succ, List.getElem_cons_zero, List.set_cons_succ, List.set_cons_zero])
    refine HoistK.nil_ ?_
    simp only [opsAt, List.filterMap_cons, List.filterMap_nil, List.getElem?_toArray, List.getElem?_cons_succ, List.getElem?_cons_zero]
    refine EffS.cons_ fun _ hQ => ?_
    go_wp2_with fail
    refine (blocks_any p S D' _ (hP.d.is.below hB)).mono ?_
    rintro e v2 ⟨rfl, rfl⟩
    go_wp2_with fail
    refine hQ _ _ hB (EffS.nil_ ?_)
    clear hQ
    refine (show HoistK _ _ _ [25, 26, 27] _ _ from ?_)
    (refine HoistK.yes (by rfl) (by kernel_rfl) ⟨?_, fun w hSw => ?_, ?_⟩; rotate_left; (· have hce := hcell w hSw; go_simp; try with_reducible rfl); simp only [Act.put, List.setIfInBounds_toArray, List.getElem_toArray, List.getElem_cons_succ, List.getElem_cons_zero, List.set_cons_succ, List.set_cons_zero])
    (refine HoistK.yes (by rfl) (by kernel_rfl) ⟨?_, fun w hSw => ?_, ?_⟩; rotate_left; (· have hce := hcell w hSw; go_simp; try with_reducible rfl); simp only [Act.put, List.setIfInBounds_toArray, List.getElem_toArray, List.getElem_cons_succ, List.getElem_cons_zero, List.set_cons_succ, List.set_cons_zero])
    (refine HoistK.yes (by rfl) (by kernel_rfl) ⟨?_, fun w hSw => ?_, ?_⟩; rotate_left; (· have hce := hcell w hSw; go_simp; try with_reducible rfl); simp only [Act.put, List.setIfInBounds_toArray, List.getElem_toArray, List.getElem_cons_succ, List.getElem_cons_zero, List.set_cons_succ, List.set_cons_zero])
    refine HoistK.nil_ (EffS.nil_ (fun Q' hQ' => ?_))
    go_wp2
    go_ret
    exact ⟨rfl, hbP.trans (hB.mono hbP.size), S, T, D', R', hP.below hB⟩

end Go.Proofs.Ythmjgcmaoniejaa
