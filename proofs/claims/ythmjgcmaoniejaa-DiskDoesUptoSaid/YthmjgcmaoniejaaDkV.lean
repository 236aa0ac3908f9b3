/- The document's disk: Sync. -/
import Derived.Test.YthmjgcmaoniejaaDkU
namespace Go.Proofs.Ythmjgcmaoniejaa
open Go.RowKit Go.Maps

attribute [-simp] Try.isAgg35 Try.sizeOf35 Try.typeInfo35 Try.isAgg61 Try.sizeOf61 Try.typeInfo61

theorem seg_length (a ys : List Value) (o : Nat) (ho : o + ys.length ≤ a.length) : (a.take o ++ ys ++ a.drop (o + ys.length)).length = a.length := by
  rw [List.length_append, List.length_append, List.length_take, List.length_drop, Nat.min_eq_left (by omega)]; omega
theorem seg_take (a b ys : List Value) (o : Nat) (ho : o + ys.length ≤ a.length) : ((a ++ b).take o ++ ys ++ (a ++ b).drop (o + ys.length)).take a.length = a.take o ++ ys ++ a.drop (o + ys.length) := by
  rw [show (a ++ b).take o = a.take o from List.take_append_of_le_length (by omega), List.drop_append_of_le_length ho, ← List.append_assoc]
  exact List.take_left' (seg_length a ys o ho)
/-- Cells of a row of the call's own are written. -/
theorem Own.setCells {w : World} {e : TypeId} {size n g cap : Nat} {xs : List Value} (h : Own w e size (.slice (some ⟨g, 0, none⟩) n cap) n xs) (o : Nat) (ys : List Value) (ho : o + ys.length ≤ n * size) :
    Own (w.setCells g o ys) e size (.slice (some ⟨g, 0, none⟩) n cap) n (xs.take o ++ ys ++ xs.drop (o + ys.length)) := by
  obtain ⟨h1, h2 | ⟨g', cap', cur, e1, hb, hh, hn, hc, hs, ht⟩⟩ := h
  · cases h2.1
  · injection e1 with e1 _ e3
    injection e1 with e1
    injection e1 with e1 _ _
    subst e1 e3
    have hle : n * size ≤ cur.toList.length := by rw [Array.length_toList, hs]; exact Nat.mul_le_mul_right _ hn
    have hB : Blk w g e cur.toList.toArray := hh
    have hB2 := Blk.setCells ys o w _ hB (by omega)
    refine ⟨(seg_length xs ys o (by omega)).trans h1, .inr ⟨g, cap, _, rfl, hb, hB2, hn, hc, ?_, ?_⟩⟩
    · rw [List.size_toArray, seg_length _ ys o (by omega), Array.length_toList, hs]
    · have := seg_take xs (cur.toList.drop (n * size)) ys o (by omega)
      rw [h1] at this
      rw [← ht, List.take_append_drop, ht] at this
      exact this

theorem Own.cells {w : World} {e : TypeId} {size n g cap : Nat} {xs : List Value} (h : Own w e size (.slice (some ⟨g, 0, none⟩) n cap) n xs) (i : Nat) (hi : i < n * size) : (w.cell? ⟨g, i, none⟩).isSome = true ∧ w.frozen? ⟨g, i, none⟩ = false := by
  obtain ⟨h1, h2 | ⟨g', cap', cur, e1, hb, hh, hn, hc, hs, ht⟩⟩ := h
  · cases h2.1
  · injection e1 with e1 _ e3
    injection e1 with e1
    injection e1 with e1 _ _
    subst e1 e3
    have hB : Blk w g e cur := hh
    have hle : n * size ≤ cur.size := by rw [hs]; exact Nat.mul_le_mul_right _ hn
    exact ⟨by rw [hB.cell, Array.getElem?_eq_getElem (by omega)]; rfl, hB.frozen i⟩
theorem own_own_ne {w : World} {b b' : Nat} {e e' : TypeId} {size size' n n' : Nat} {v v' : Value} {xs xs' : List Value} (h : w.ownsRow b e size v n xs) (h' : w.ownsRow b' e' size' v' n' xs') (hne : e' ≠ e) {k : Nat} (hk : v.ownBlock = some k) : v'.ownBlock ≠ some k := by
  rcases h.2 with ⟨rfl, _⟩ | ⟨g, cap, cur, rfl, _, hh, _⟩
  · simp [Value.ownBlock] at hk
  · obtain rfl : g = k := by simpa [Value.ownBlock] using hk
    exact own_blk_ne h' (hh : Blk w g e cur) hne

def setF (f : List (List Int)) (x : Int × List Int) : List (List Int) := f.set x.1.toNat x.2
def RS.sync (R : RS) : RS × Int := if R.begins.off then (R.begins, 44) else ({ R.begins with firm := R.begins.loose.foldl setF R.begins.firm, loose := [] }, 0)
theorem setF_length (l : List (Int × List Int)) (f : List (List Int)) : (l.foldl setF f).length = f.length := by
  induction l generalizing f with
  | nil => rfl
  | cons x r ih => rw [List.foldl_cons, ih, setF, List.length_set]
theorem setF_ok (l : List (Int × List Int)) (f : List (List Int)) (hf : ∀ x ∈ f, x.length = 256) (hl : ∀ x ∈ l, x.2.length = 256) : ∀ x ∈ l.foldl setF f, x.length = 256 := by
  induction l generalizing f with
  | nil => exact hf
  | cons x r ih =>
    rw [List.foldl_cons]
    refine ih _ (fun y hy => ?_) (fun y hy => hl y (List.mem_cons_of_mem _ hy))
    rcases List.mem_or_eq_of_mem_set hy with h | h
    · exact hf y h
    · rw [h]; exact hl x (List.mem_cons_self ..)

set_option maxHeartbeats 1000000 in
set_option maxRecDepth 100000 in
theorem rsync_on (p : Nat) (S : Nat → Prop) (R R' : RS) (w : World) (h : RefI w p S R) (hf1 : -9223372036854775808 < R.fuse) (hf2 : R.fuse ≤ 9223372036854775807) (hb : R.begins = R') (hoff : R'.off = false) (hok : R'.Ok)
    (hn : ∀ x ∈ R'.loose, 0 ≤ x.1 ∧ x.1 < R'.firm.length) (hfl : R'.firm.length ≤ 4096) (hlen : R'.loose.length ≤ 140737488355328) :
    Calls Try.prog 29 #[.pointer (some ⟨p, 0, none⟩)] w fun e w' => e = .returned (.int .i64 0) ∧ RefI w' p S { R' with firm := R'.loose.foldl setF R'.firm, loose := [] } ∧ Chg S w w' := by
  have H := Lib.hid (roff_any p S R _ h hf1 hf2)
  rw [hb, hoff] at H
  go_enter Try.func29, Try.ntmps29
  go_wp2_with fail
  refine H.out.mono ?_
  rintro e w1 ⟨rfl, h1, c1⟩
  obtain ⟨hSp, hS, vf, vl, hb1, ho1, hvf, hl1, hvl⟩ := h1
  obtain ⟨A, cap, rfl⟩ := hl1.form
  obtain ⟨Af, capf, rfl⟩ := ho1.form
  go_wp2_with fail
  go_loopw [4] (fun i wr => ∃ j : Nat, j ≤ R'.loose.length ∧ i = .int .i64 j ∧ Own wr 35 256 (.slice Af R'.firm.length capf) R'.firm.length (flatB ((R'.loose.take j).foldl setF R'.firm)) ∧ Chg (fun b => (Value.slice Af R'.firm.length capf).ownBlock = some b) w1 wr) (fun i _ => R'.loose.length - (intOf i).toNat)
  case atStart => exact ⟨0, Nat.zero_le _, rfl, ho1, Chg.refl _ _⟩
  case round =>
    obtain ⟨j, hj, rfl, hor, hch⟩ := hrel
    have hbr := hb1.chg hch (fun e => own_blk_ne ho1 hb1 (by decide) e)
    have hlr := own_keep hl1 (fun k hk => hch.block k (own_lt hl1 hk) (fun e => own_own_ne hl1 ho1 (by decide) hk e))
    have hc := hbr.cell
    have hf := hbr.frozen
    by_cases hjl : j < R'.loose.length
    · obtain ⟨b, off, rfl, _, hbl, hrng⟩ := writes_at (Cs.of_own hlr (S := S) hvl) hok.2 hjl
      have hs := List.take_succ_eq_append_getElem hjl
      have hxl := hok.2 _ (List.getElem_mem hjl)
      have hxn := hn _ (List.getElem_mem hjl)
      obtain ⟨n, l, hxe⟩ : ∃ x l, R'.loose[j] = (x, l) := ⟨_, _, rfl⟩
      simp only [hxe] at hxl hrng hs hxn
      obtain ⟨hn0, hn1⟩ := hxn
      have hs := Lib.hid hs
      go_wp2_with fail
      obtain ⟨bf, offf, hAf, _, _, _⟩ := blocks_at (Cs.of_own ho1 (S := S) hvf) hok.1 (k := n.toNat) (by omega)
      subst hAf
      obtain rfl : offf = 0 := by
        rcases ho1.2 with h0 | ⟨_, _, _, e, _⟩
        · cases h0.1
        · injection e with e _ _; injection e with e; injection e
      have hfll : ((R'.loose.take j).foldl setF R'.firm).length = R'.firm.length := setF_length _ _
      have hfok := setF_ok (R'.loose.take j) R'.firm hok.1 (fun x hx => hok.2 x (List.mem_of_mem_take hx))
      have hfx : (flatB ((R'.loose.take j).foldl setF R'.firm)).length = R'.firm.length * 256 := by rw [flatB_length _ hfok, hfll]
      have hinfo : (Try.prog.info? 35).map (·.size) = some (cu8 l).length := by rw [cu8_length, hxl]; exact (zero_of_info info_block).2
      have hcn : wr.cell? ⟨b, off + j * 257, none⟩ = some (.int .i64 n) := hrng 0 _ rfl
      have hrl : wr.rangeAt b (off + j * 257 + 1) (cu8 l) := fun i v hv => by rw [Nat.add_assoc]; exact hrng _ _ (by simpa [wcells, Nat.add_comm 1 i] using hv)
      refine wp_region_hoist [0, 1, 2, 3, 4, 5, 6, 7, 8, 9, 10, 11, 12, 13, 14, 15, 16, 17, 18, 19, 20] [] [21] (fun w' => w'.cell? ⟨p, 0, none⟩ = some (.slice (some ⟨bf, 0, none⟩) R'.firm.length capf) ∧ w'.cell? ⟨p, 1, none⟩ = some (.slice (some ⟨b, off, none⟩) R'.loose.length cap) ∧ w'.cell? ⟨b, off + j * 257, none⟩ = some (.int .i64 n) ∧ w'.rangeAt b (off + j * 257 + 1) (cu8 l))
        (by kernel_rfl) (by kernel_rfl) (by kernel_rfl) (by kernel_rfl) (by kernel_rfl) (by kernel_rfl) ⟨hbr.cell 0, hbr.cell 1, hcn, hrl⟩ ?_
      (refine HoistK.yes (by rfl) (by kernel_rfl) ⟨?_, fun w hSw => ?_, ?_⟩; rotate_left; (· go_simp; try with_reducible rfl); simp only [Act.put, List.setIfInBounds_toArray, List.getElem_toArray, List.getElem_cons_zero, List.set_cons_succ, List.set_cons_zero])
      (refine HoistK.yes (by rfl) (by kernel_rfl) ⟨?_, fun w hSw => ?_, ?_⟩; rotate_left; (· go_simp; try with_reducible rfl); simp only [Act.put, List.setIfInBounds_toArray, List.getElem_toArray, List.getElem_cons_succ, List.getElem_cons_zero, List.set_cons_succ, List.set_cons_zero])
      (refine HoistK.yes (by rfl) (by kernel_rfl) ⟨?_, fun w hSw => ?_, ?_⟩; rotate_left; (· go_simp; try with_reducible rfl); simp only [Act.put, List.setIfInBounds_toArray, List.getElem_toArray, List.getElem_cons_succ, List.getElem_cons_zero, List.set_cons_succ, List.set_cons_zero])
      (refine HoistK.yes (by rfl) (by kernel_rfl) ⟨?_, fun w hSw => ?_, ?_⟩; rotate_left; (· go_simp; try with_reducible rfl); simp only [Act.put, List.setIfInBounds_toArray, List.getElem_toArray, List.getElem_cons_succ, List.getElem_cons_zero, List.set_cons_succ, List.set_cons_zero])
      (refine HoistK.yes (by rfl) (by kernel_rfl) ⟨?_, fun w hSw => ?_, ?_⟩; rotate_left; (· go_simp; try with_reducible rfl); simp only [Act.put, List.setIfInBounds_toArray, List.getElem_toArray, List.getElem_cons_succ, List.getElem_cons_zero, List.set_cons_succ, List.set_cons_zero])
      (refine HoistK.yes (by rfl) (by kernel_rfl) ⟨?_, fun w hSw => ?_, ?_⟩; rotate_left; (· go_simp; try with_reducible rfl); simp only [Act.put, List.setIfInBounds_toArray, List.getElem_toArray, List.getElem_cons_succ, List.getElem_cons_zero, List.set_cons_succ, List.set_cons_zero])
      (refine HoistK.yes (by rfl) (by kernel_rfl) ⟨?_, fun w hSw => ?_, ?_⟩; rotate_left; (· go_simp; try with_reducible rfl); simp only [Act.put, List.setIfInBounds_toArray, List.getElem_toArray, List.getElem_cons_succ, List.getElem_cons_zero, List.set_cons_succ, List.set_cons_zero])
      (refine HoistK.yes (by rfl) (by kernel_rfl) ⟨?_, fun w hSw => ?_, ?_⟩; rotate_left; (· go_simp; try with_reducible rfl); simp only [Act.put, List.setIfInBounds_toArray, List.getElem_toArray, List.getElem_cons_succ, List.getElem_cons_zero, List.set_cons_succ, List.set_cons_zero])
      (refine HoistK.yes (by rfl) (by kernel_rfl) ⟨?_, fun w hSw => ?_, ?_⟩; rotate_left; (· go_simp; try with_reducible rfl); simp only [Act.put, List.setIfInBounds_toArray, List.getElem_toArray, List.getElem_cons_succ, List.getElem_cons_zero, List.set_cons_succ, List.set_cons_zero])
      (refine HoistK.yes (by rfl) (by kernel_rfl) ⟨?_, fun w hSw => ?_, ?_⟩; rotate_left; (· go_simp; simp only [Try.sizeOf61, Result.andThen]; try with_reducible rfl); simp only [Act.put, List.setIfInBounds_toArray, List.getElem_toArray, List.getElem_cons_succ, List.getElem_cons_zero, List.set_cons_succ, List.set_cons_zero])
      (refine HoistK.yes (by rfl) (by kernel_rfl) ⟨?_, fun w hSw => ?_, ?_⟩; rotate_left; (· go_simp; try with_reducible rfl); simp only [Act.put, List.setIfInBounds_toArray, List.getElem_toArray, List.getElem_cons_succ, List.getElem_cons_zero, List.set_cons_succ, List.set_cons_zero])
      (refine HoistK.yes (by rfl) (by kernel_rfl) ⟨?_, fun w hSw => ?_, ?_⟩; rotate_left; (· go_simp; try with_reducible rfl); simp only [Act.put, List.setIfInBounds_toArray, List.getElem_toArray, List.getElem_cons_succ, List.getElem_cons_zero, List.set_cons_succ, List.set_cons_zero])
      (refine HoistK.yes (by rfl) (by kernel_rfl) ⟨?_, fun w hSw => ?_, ?_⟩; rotate_left; (· go_simp; try with_reducible rfl); simp only [Act.put, List.setIfInBounds_toArray, List.getElem_toArray, List.getElem_cons_succ, List.getElem_cons_zero, List.set_cons_succ, List.set_cons_zero])
      (refine HoistK.yes (by rfl) (by kernel_rfl) ⟨?_, fun w hSw => ?_, ?_⟩; rotate_left; (· go_simp; try with_reducible rfl); simp only [Act.put, List.setIfInBounds_toArray, List.getElem_toArray, List.getElem_cons_succ, List.getElem_cons_zero, List.set_cons_succ, List.set_cons_zero])
      (refine HoistK.yes (by rfl) (by kernel_rfl) ⟨?_, fun w hSw => ?_, ?_⟩; rotate_left; (· go_simp; try with_reducible rfl); simp only [Act.put, List.setIfInBounds_toArray, List.getElem_toArray, List.getElem_cons_succ, List.getElem_cons_zero, List.set_cons_succ, List.set_cons_zero])
      (refine HoistK.yes (by rfl) (by kernel_rfl) ⟨?_, fun w hSw => ?_, ?_⟩; rotate_left; (· go_simp; try with_reducible rfl); simp only [Act.put, List.setIfInBounds_toArray, List.getElem_toArray, List.getElem_cons_succ, List.getElem_cons_zero, List.set_cons_succ, List.set_cons_zero])
      (refine HoistK.yes (by rfl) (by kernel_rfl) ⟨?_, fun w hSw => ?_, ?_⟩; rotate_left; (· go_simp; try with_reducible rfl); simp only [Act.put, List.setIfInBounds_toArray, List.getElem_toArray, List.getElem_cons_succ, List.getElem_cons_zero, List.set_cons_succ, List.set_cons_zero])
      (refine HoistK.yes (by rfl) (by kernel_rfl) ⟨?_, fun w hSw => ?_, ?_⟩; rotate_left; (· go_simp; simp only [Try.sizeOf61, Result.andThen]; try with_reducible rfl); simp only [Act.put, List.setIfInBounds_toArray, List.getElem_toArray, List.getElem_cons_succ, List.getElem_cons_zero, List.set_cons_succ, List.set_cons_zero])
      (refine HoistK.yes (by rfl) (by kernel_rfl) ⟨?_, fun w hSw => ?_, ?_⟩; rotate_left; (· go_simp; simp only [Try.sizeOf35, Result.andThen]; rw [if_neg (by decide)]); simp only [Act.put, List.setIfInBounds_toArray, List.getElem_toArray, List.getElem_cons_succ, List.getElem_cons_zero, List.set_cons_succ, List.set_cons_zero])
      refine HoistK.load (by rfl) (by kernel_rfl) 35 _ rfl b (off + j * 257 + 1) rfl (cu8 l) _ (fun w hw => hw.2.2.2) Try.underlying35 rfl hinfo ?_
      simp only [Act.put, List.setIfInBounds_toArray, List.getElem_toArray, List.getElem_cons_succ, List.getElem_cons_zero, List.set_cons_succ, List.set_cons_zero]
      (refine HoistK.yes (by rfl) (by kernel_rfl) ⟨?_, fun w hSw => ?_, ?_⟩; rotate_left; (· go_simp; simp only [Try.sizeOf35, Result.andThen]; try with_reducible rfl); simp only [Act.put, List.setIfInBounds_toArray, List.getElem_toArray, List.getElem_cons_succ, List.getElem_cons_zero, List.set_cons_succ, List.set_cons_zero])
      refine HoistK.nil_ ?_
      simp only [opsAt, List.filterMap_cons, List.filterMap_nil, List.getElem?_toArray, List.getElem?_cons_succ, List.getElem?_cons_zero]
      have hst : (storeCells ⟨bf, n.toNat * 256, none⟩ (cu8 l) 0).run Try.prog wr.drew = .ok () (wr.drew.setCells bf (n.toNat * 256) (cu8 l)) := by
        refine run_storeCells_cells (P := Try.prog) bf (n.toNat * 256) (cu8 l) 0 wr.drew (fun i hi => ?_) (fun i hi => ?_) (cu8_one _)
        · rw [cu8_length, hxl] at hi
          exact (hor.drew.cells _ (by omega)).1
        · rw [cu8_length, hxl] at hi
          exact (hor.drew.cells _ (by omega)).2
      have hls : (cu8 l).length = 256 := by rw [cu8_length, hxl]
      have hset := hor.drew.setCells (n.toNat * 256) (cu8 l) (by rw [hls]; omega)
      rw [hls, flatB_set _ hfok _ _ (by rw [hfll]; omega) hxl] at hset
      have hch2 := Chg.setCells (M := fun b => (Value.slice (some ⟨bf, 0, none⟩) R'.firm.length capf).ownBlock = some b) (.inl rfl) (cu8 l) (n.toNat * 256) _ hch.drew
      clear hrng hrl
      refine Effects.nil_ fun _ hQ1 => ?_
      go_wp2
      simp only [Try.sizeOf35, Result.andThen, ↓reduceIte, hst]
      rw [Oper.upon_skip]
      clear hst
      go_wp2
      go_roundw
      case rel =>
        refine ⟨j + 1, by omega, by go_num, ?_, hch2⟩
        rw [hs.out, List.foldl_append]
        exact hset
      case measure => simp [intOf]; omega
    · obtain rfl : j = R'.loose.length := by omega
      rw [List.take_length] at hor
      go_wp2
      go_ret
      refine ⟨rfl, ⟨hSp, fun b hb => by have := hS b hb; have := hch.size; simp only [World.size_setCell]; omega, .slice Af R'.firm.length capf, .slice none 0 0, hbr.set_ 1 _, ?_, hvf, Own.nil_ _ _ _, fun k hk => by simp [Value.ownBlock] at hk⟩, ?_⟩
      · show Own _ _ _ _ (R'.loose.foldl setF R'.firm).length _
        rw [setF_length]
        exact own_keep hor (fun k hk => Below.heap_setCell _ _ _ _ (fun e => own_blk_ne hor hbr (by decide) (by rw [hk, e])))
      · exact (c1.trans (hch.mono (fun b hb => hvf b hb)) (fun _ h => .inl h)).setOf hSp 1 _

theorem RS.begins_same (R : RS) : R.begins.firm = R.firm ∧ R.begins.loose = R.loose ∧ R.begins.room = R.room := by
  unfold RS.begins; split <;> (try split) <;> exact ⟨rfl, rfl, rfl⟩
theorem rsync_any (p : Nat) (S : Nat → Prop) (R : RS) (w : World) (h : RefI w p S R) (hf1 : -9223372036854775808 < R.fuse) (hf2 : R.fuse ≤ 9223372036854775807) (hok : R.Ok)
    (hn : ∀ x ∈ R.loose, 0 ≤ x.1 ∧ x.1 < R.firm.length) (hfl : R.firm.length ≤ 4096) (hlen : R.loose.length ≤ 140737488355328) :
    Calls Try.prog 29 #[.pointer (some ⟨p, 0, none⟩)] w fun e w' => e = .returned (.int .i64 R.sync.2) ∧ RefI w' p S R.sync.1 ∧ Chg S w w' := by
  obtain ⟨e1, e2, e3⟩ := R.begins_same
  cases hoff : R.begins.off with
  | true =>
    have e : R.sync = (R.begins, 44) := by unfold RS.sync; rw [hoff]; simp
    rw [e]
    have H := Lib.hid (roff_any p S R _ h hf1 hf2)
    rw [hoff] at H
    clear e e1 e2 e3
    go_enter Try.func29, Try.ntmps29
    go_wp2_with fail
    refine H.out.mono ?_
    rintro e w1 ⟨rfl, h1, c1⟩
    go_wp2_with fail
    go_ret
    exact ⟨rfl, h1, c1⟩
  | false =>
    have e : R.sync = ({ R.begins with firm := R.begins.loose.foldl setF R.begins.firm, loose := [] }, 0) := by unfold RS.sync; rw [hoff]; simp
    rw [e]
    exact rsync_on p S R R.begins w h hf1 hf2 rfl hoff ⟨by rw [e1]; exact hok.1, by rw [e2]; exact hok.2⟩ (by rw [e1, e2]; exact hn) (by rw [e1]; exact hfl) (by rw [e2]; exact hlen)

end Go.Proofs.Ythmjgcmaoniejaa
