/- The document's disk: Copy. -/
import Derived.Test.YthmjgcmaoniejaaDkW
namespace Go.Proofs.Ythmjgcmaoniejaa
open Go.RowKit Go.Maps

attribute [-simp] Try.isAgg35 Try.sizeOf35 Try.typeInfo35 Try.isAgg61 Try.sizeOf61 Try.typeInfo61

/-- What stays while new memory is made: the disk's own block, its rows. -/
structure CK (w1 W : World) (p : Nat) (cs : Array Value) (vf vl : Value) (nf nl : Nat) (F L : List Value) : Prop where
  hb : Blk W p 44 cs
  ho : Own W 35 256 vf nf F
  hl : Own W 61 257 vl nl L
  hc : Chg (fun _ => False) w1 W
  lo : ∀ k, vf.ownBlock = some k → k < w1.heap.size
  ll : ∀ k, vl.ownBlock = some k → k < w1.heap.size
  lp : p < w1.heap.size
theorem CK.chg {w1 W W' : World} {p : Nat} {cs : Array Value} {vf vl : Value} {nf nl : Nat} {F L : List Value} {M : Nat → Prop} (h : CK w1 W p cs vf vl nf nl F L) (hc : Chg M W W') (hM : ∀ b, M b → w1.heap.size ≤ b) : CK w1 W' p cs vf vl nf nl F L :=
  ⟨h.hb.chg hc (fun hm => by have := hM _ hm; have := h.lp; omega), own_keep h.ho (fun k hk => hc.block k (own_lt h.ho hk) (fun hm => by have := hM _ hm; have := h.lo k hk; omega)),
    own_keep h.hl (fun k hk => hc.block k (own_lt h.hl hk) (fun hm => by have := hM _ hm; have := h.ll k hk; omega)), h.hc.trans hc (fun b hb => .inr (hM b hb)), h.lo, h.ll, h.lp⟩
theorem CK.alloc {w1 W : World} {p : Nat} {cs : Array Value} {vf vl : Value} {nf nl : Nat} {F L : List Value} (h : CK w1 W p cs vf vl nf nl F L) (o : Obj) : CK w1 (W.alloc o) p cs vf vl nf nl F L :=
  h.chg (M := fun _ => False) ((Chg.refl _ W).alloc o) (fun _ h => h.elim)

set_option maxHeartbeats 1000000 in
set_option maxRecDepth 100000 in
theorem rcopy_any (p : Nat) (S : Nat → Prop) (R : RS) (w : World) (h : RefI w p S R) (hfl : R.firm.length ≤ 4096) (hsz : R.loose.length * 264 ≤ 140737488355328) :
    Calls Try.prog 10 #[.pointer (some ⟨p, 0, none⟩)] w fun e w' => ∃ q S', e = .returned (.pointer (some ⟨q, 0, none⟩)) ∧ RefI w' q S' R ∧ Below w.heap.size w w' ∧ ∀ b, S' b → w.heap.size ≤ b := by
  obtain ⟨hSp, hS, vf, vl, hb1, ho1, hvf, hl1, hvl⟩ := h
  obtain ⟨A, cap, rfl⟩ := hl1.form
  obtain ⟨Af, capf, rfl⟩ := ho1.form
  have hK : CK w w.drew p #[.slice Af R.firm.length capf, .slice A R.loose.length cap, .int .i64 R.room, .int .i64 R.fuse, .bool R.off] (.slice Af R.firm.length capf) (.slice A R.loose.length cap) R.firm.length R.loose.length (flatB R.firm) (flatW R.loose) :=
    ⟨hb1.drew, ho1.drew, hl1.drew, (Chg.refl _ w).drew, fun k hk => own_lt ho1 hk, fun k hk => own_lt hl1 hk, hb1.lt⟩
  go_enter Try.func10, Try.ntmps10
  go_wp2_with fail
  clear hb1 ho1 hl1
  refine wp_region_tree [1, 2, 3, 4, 7, 8, 9, 10, 12, 13, 14, 15, 16, 17, 18, 19, 20, 21, 22, 23] [] 7 (fun w' => ∀ i, w'.cell? ⟨p, i, none⟩ = (#[.slice Af R.firm.length capf, .slice A R.loose.length cap, .int .i64 R.room, .int .i64 R.fuse, .bool R.off] : Array Value)[i]?) (by kernel_rfl) (by kernel_rfl) (by kernel_rfl) (by kernel_rfl) hK.hb.cell ?_
  (refine HoistK.yes (by rfl) (by kernel_rfl) ⟨?_, fun w hSw => ?_, ?_⟩; rotate_left; (· go_simp; try with_reducible rfl); simp only [Act.put, List.setIfInBounds_toArray, List.getElem_toArray, List.getElem_cons_succ, List.getElem_cons_zero, List.set_cons_succ, List.set_cons_zero])
  (refine HoistK.yes (by rfl) (by kernel_rfl) ⟨?_, fun w hSw => ?_, ?_⟩; rotate_left; (· go_simp; try with_reducible rfl); simp only [Act.put, List.setIfInBounds_toArray, List.getElem_toArray, List.getElem_cons_succ, List.getElem_cons_zero, List.set_cons_succ, List.set_cons_zero])
  (refine HoistK.yes (by rfl) (by kernel_rfl) ⟨?_, fun w hSw => ?_, ?_⟩; rotate_left; (· go_simp; try with_reducible rfl); simp only [Act.put, List.setIfInBounds_toArray, List.getElem_toArray, List.getElem_cons_succ, List.getElem_cons_zero, List.set_cons_succ, List.set_cons_zero])
  (refine HoistK.yes (by rfl) (by kernel_rfl) ⟨?_, fun w hSw => ?_, ?_⟩; rotate_left; (· go_simp; try with_reducible rfl); simp only [Act.put, List.setIfInBounds_toArray, List.getElem_toArray, List.getElem_cons_succ, List.getElem_cons_zero, List.set_cons_succ, List.set_cons_zero])
  (refine HoistK.yes (by rfl) (by kernel_rfl) ⟨?_, fun w hSw => ?_, ?_⟩; rotate_left; (· go_simp; try with_reducible rfl); simp only [Act.put, List.setIfInBounds_toArray, List.getElem_toArray, List.getElem_cons_succ, List.getElem_cons_zero, List.set_cons_succ, List.set_cons_zero])
  (refine HoistK.yes (by rfl) (by kernel_rfl) ⟨?_, fun w hSw => ?_, ?_⟩; rotate_left; (· go_simp; try with_reducible rfl); simp only [Act.put, List.setIfInBounds_toArray, List.getElem_toArray, List.getElem_cons_succ, List.getElem_cons_zero, List.set_cons_succ, List.set_cons_zero])
  (refine HoistK.yes (by rfl) (by kernel_rfl) ⟨?_, fun w hSw => ?_, ?_⟩; rotate_left; (· go_simp; try with_reducible rfl); simp only [Act.put, List.setIfInBounds_toArray, List.getElem_toArray, List.getElem_cons_succ, List.getElem_cons_zero, List.set_cons_succ, List.set_cons_zero])
  (refine HoistK.yes (by rfl) (by kernel_rfl) ⟨?_, fun w hSw => ?_, ?_⟩; rotate_left; (· go_simp; try with_reducible rfl); simp only [Act.put, List.setIfInBounds_toArray, List.getElem_toArray, List.getElem_cons_succ, List.getElem_cons_zero, List.set_cons_succ, List.set_cons_zero])
  (refine HoistK.yes (by rfl) (by kernel_rfl) ⟨?_, fun w hSw => ?_, ?_⟩; rotate_left; (· go_simp; try with_reducible rfl); simp only [Act.put, List.setIfInBounds_toArray, List.getElem_toArray, List.getElem_cons_succ, List.getElem_cons_zero, List.set_cons_succ, List.set_cons_zero])
  (refine HoistK.yes (by rfl) (by kernel_rfl) ⟨?_, fun w hSw => ?_, ?_⟩; rotate_left; (· go_simp; try with_reducible rfl); simp only [Act.put, List.setIfInBounds_toArray, List.getElem_toArray, List.getElem_cons_succ, List.getElem_cons_zero, List.set_cons_succ, List.set_cons_zero])
  (refine HoistK.yes (by rfl) (by kernel_rfl) ⟨?_, fun w hSw => ?_, ?_⟩; rotate_left; (· go_simp; try with_reducible rfl); simp only [Act.put, List.setIfInBounds_toArray, List.getElem_toArray, List.getElem_cons_succ, List.getElem_cons_zero, List.set_cons_succ, List.set_cons_zero])
  (refine HoistK.yes (by rfl) (by kernel_rfl) ⟨?_, fun w hSw => ?_, ?_⟩; rotate_left; (· go_simp; try with_reducible rfl); simp only [Act.put, List.setIfInBounds_toArray, List.getElem_toArray, List.getElem_cons_succ, List.getElem_cons_zero, List.set_cons_succ, List.set_cons_zero])
  (refine HoistK.yes (by rfl) (by kernel_rfl) ⟨?_, fun w hSw => ?_, ?_⟩; rotate_left; (· go_simp; try with_reducible rfl); simp only [Act.put, List.setIfInBounds_toArray, List.getElem_toArray, List.getElem_cons_succ, List.getElem_cons_zero, List.set_cons_succ, List.set_cons_zero])
  (refine HoistK.yes (by rfl) (by kernel_rfl) ⟨?_, fun w hSw => ?_, ?_⟩; rotate_left; (· go_simp; try with_reducible rfl); simp only [Act.put, List.setIfInBounds_toArray, List.getElem_toArray, List.getElem_cons_succ, List.getElem_cons_zero, List.set_cons_succ, List.set_cons_zero])
  (refine HoistK.yes (by rfl) (by kernel_rfl) ⟨?_, fun w hSw => ?_, ?_⟩; rotate_left; (· go_simp; try with_reducible rfl); simp only [Act.put, List.setIfInBounds_toArray, List.getElem_toArray, List.getElem_cons_succ, List.getElem_cons_zero, List.set_cons_succ, List.set_cons_zero])
  (refine HoistK.yes (by rfl) (by kernel_rfl) ⟨?_, fun w hSw => ?_, ?_⟩; rotate_left; (· go_simp; try with_reducible rfl); simp only [Act.put, List.setIfInBounds_toArray, List.getElem_toArray, List.getElem_cons_succ, List.getElem_cons_zero, List.set_cons_succ, List.set_cons_zero])
  (refine HoistK.yes (by rfl) (by kernel_rfl) ⟨?_, fun w hSw => ?_, ?_⟩; rotate_left; (· go_simp; try with_reducible rfl); simp only [Act.put, List.setIfInBounds_toArray, List.getElem_toArray, List.getElem_cons_succ, List.getElem_cons_zero, List.set_cons_succ, List.set_cons_zero])
  (refine HoistK.yes (by rfl) (by kernel_rfl) ⟨?_, fun w hSw => ?_, ?_⟩; rotate_left; (· go_simp; try with_reducible rfl); simp only [Act.put, List.setIfInBounds_toArray, List.getElem_toArray, List.getElem_cons_succ, List.getElem_cons_zero, List.set_cons_succ, List.set_cons_zero])
  (refine HoistK.yes (by rfl) (by kernel_rfl) ⟨?_, fun w hSw => ?_, ?_⟩; rotate_left; (· go_simp; try with_reducible rfl); simp only [Act.put, List.setIfInBounds_toArray, List.getElem_toArray, List.getElem_cons_succ, List.getElem_cons_zero, List.set_cons_succ, List.set_cons_zero])
  (refine HoistK.yes (by rfl) (by kernel_rfl) ⟨?_, fun w hSw => ?_, ?_⟩; rotate_left; (· go_simp; try with_reducible rfl); simp only [Act.put, List.setIfInBounds_toArray, List.getElem_toArray, List.getElem_cons_succ, List.getElem_cons_zero, List.set_cons_succ, List.set_cons_zero])
  refine HoistK.nil_ ?_
  generalize w.drew = W0 at *
  refine AnyS.two (i := 0) (k := 6) (by kernel_rfl) rfl rfl (fun _ hQ => ?_) (fun _ hQ => ?_)
  all_goals simp only [List.getElem_toArray, List.getElem_cons_succ, List.getElem_cons_zero]
  · go_wp2_with fail
    simp only [Try.sizeOf35, Result.andThen]
    rw [Oper.upon_value]
    go_wp2_with fail
    have e3 := Own.empty W0 35 256
    have e3n : ∀ b, (Value.slice (some ⟨W0.heap.size, 0, none⟩) 0 0).ownBlock = some b → w.heap.size ≤ b := fun b hb => by have := hK.hc.size; simp [Value.ownBlock] at hb; omega
    replace hK := hK.alloc (.cells #[] 35)
    generalize hv : (Value.slice (some ⟨W0.heap.size, 0, none⟩) 0 0) = v3 at *
    clear hv
    generalize W0.alloc (.cells #[] 35) = W1 at *
    refine hQ _ _ (fun _ => hK.hb.cell) ?_
    clear hQ
    refine AnyS.two (i := 5) (k := 6) (by kernel_rfl) rfl rfl (fun _ hQ => ?_) (fun _ hQ => ?_)
    all_goals simp only [List.getElem_toArray, List.getElem_cons_succ, List.getElem_cons_zero]
    · have hsrc : Cs W1 (fun _ => True) 256 (.slice Af R.firm.length capf) R.firm.length (flatB R.firm) := Cs.of_own hK.ho (fun _ _ => trivial)
      go_wp2_with (at_builtin; refine wpList_app _ rfl _ _ _ rfl Try.underlying41 rinfo_block3 (by rw [Value.cells, List.size_toArray, cu8_length, noughts, List.length_replicate]) (by decide) e3 rfl hsrc rfl flatB_one (by simp only [maxLen]; omega) (by omega) ?_; intro v8 W2 h8 hg hnil hat)
      rw [Nat.zero_add, List.nil_append] at h8
      have h8n : ∀ b, v8.ownBlock = some b → w.heap.size ≤ b := fun b hb => by
        rcases hat with e | e <;> rw [e] at hb
        · exact e3n b hb
        · have := hK.hc.size; injection hb with hb; omega
      replace hK := hK.chg hg e3n
      refine hQ _ _ (fun _ => hK.hb.cell) ?_
      clear hQ
      clear hsrc hg hnil hat
      refine AnyS.one (i := 6) (by kernel_rfl) rfl (fun _ hQ => ?_)
      simp only [List.getElem_toArray, List.getElem_cons_succ, List.getElem_cons_zero]
      go_wp2_with fail
      simp only [Try.sizeOf61, Result.andThen]
      rw [Oper.upon_value]
      go_wp2_with fail
      have e9 := Own.empty W2 61 257
      have e9n : ∀ b, (Value.slice (some ⟨W2.heap.size, 0, none⟩) 0 0).ownBlock = some b → w.heap.size ≤ b := fun b hb => by have := hK.hc.size; simp [Value.ownBlock] at hb; omega
      have h8 := h8.alloc (.cells #[] 61)
      replace hK := hK.alloc (.cells #[] 61)
      generalize hv : (Value.slice (some ⟨W2.heap.size, 0, none⟩) 0 0) = v9 at *
      clear hv
      generalize W2.alloc (.cells #[] 61) = W3 at *
      refine hQ _ _ (fun _ => hK.hb.cell) ?_
      clear hQ
      refine AnyS.one (i := 11) (by kernel_rfl) rfl (fun _ hQ => ?_)
      simp only [List.getElem_toArray, List.getElem_cons_succ, List.getElem_cons_zero]
      have hsrc : Cs W3 (fun _ => True) 257 (.slice A R.loose.length cap) R.loose.length (flatW R.loose) := Cs.of_own hK.hl (fun _ _ => trivial)
      go_wp2_with (at_builtin; refine wpList_app _ rfl _ _ _ rfl Try.underlying42 rinfo_write3 (wcells_size _ (by rw [noughts, List.length_replicate])) (by decide) e9 rfl hsrc rfl flatW_one (by simp only [maxLen]; omega) (by omega) ?_; intro v14 W4 h14 hg hnil hat)
      rw [Nat.zero_add, List.nil_append] at h14
      have h14n : ∀ b, v14.ownBlock = some b → w.heap.size ≤ b := fun b hb => by
        rcases hat with e | e <;> rw [e] at hb
        · exact e9n b hb
        · have := hK.hc.size; injection hb with hb; omega
      have h8 := own_keep h8 (fun b hb => hg.block b (own_lt h8 hb) (fun e => own_own_ne h8 e9 (by decide) hb e))
      replace hK := hK.chg hg e9n
      refine hQ _ _ (fun _ => hK.hb.cell) ?_
      clear hQ
      clear hsrc hg hnil hat
      obtain ⟨A8, c8, rfl⟩ := Own.form h8
      obtain ⟨A14, c14, rfl⟩ := Own.form h14
      refine AnyS.one (i := 24) (by kernel_rfl) rfl (fun _ hQ => ?_)
      simp only [List.getElem_toArray, List.getElem_cons_succ, List.getElem_cons_zero]
      go_wp2_with fail
      refine hQ _ _ (fun _ => hK.hb.cell) ?_
      clear hQ
      refine AnyS.one (i := 25) (by kernel_rfl) rfl (fun _ hQ => ?_)
      simp only [List.getElem_toArray, List.getElem_cons_succ, List.getElem_cons_zero]
      go_wp2_with fail
      have hbox := Blk.new W4 44 #[.slice A8 R.firm.length c8, .slice A14 R.loose.length c14, .int .i64 R.room, .int .i64 R.fuse, .bool R.off]
      have h8 := h8.alloc (.cells #[.slice A8 R.firm.length c8, .slice A14 R.loose.length c14, .int .i64 R.room, .int .i64 R.fuse, .bool R.off] 44)
      have h14 := h14.alloc (.cells #[.slice A8 R.firm.length c8, .slice A14 R.loose.length c14, .int .i64 R.room, .int .i64 R.fuse, .bool R.off] 44)
      have hq : w.heap.size ≤ W4.heap.size := hK.hc.size
      replace hK := hK.alloc (.cells #[.slice A8 R.firm.length c8, .slice A14 R.loose.length c14, .int .i64 R.room, .int .i64 R.fuse, .bool R.off] 44)
      refine hQ _ _ (fun _ => hK.hb.cell) ?_
      clear hQ
      refine AnyS.one (i := 26) (by kernel_rfl) rfl (fun _ hQ => ?_)
      simp only [List.getElem_toArray, List.getElem_cons_succ, List.getElem_cons_zero]
      go_wp2_with fail
      refine hQ _ _ (fun _ => hK.hb.cell) (AnyS.none (by kernel_rfl) (fun _ hQ' => ?_))
      clear hQ
      go_wp2
      go_ret
      exact ⟨W4.heap.size, fun b => w.heap.size ≤ b ∧ b < (W4.alloc (.cells #[.slice A8 R.firm.length c8, .slice A14 R.loose.length c14, .int .i64 R.room, .int .i64 R.fuse, .bool R.off] 44)).heap.size, rfl, ⟨⟨hq, hbox.lt⟩, fun b hb => hb.2, .slice A8 R.firm.length c8, .slice A14 R.loose.length c14, hbox, h8, fun k hk => ⟨h8n k hk, own_lt h8 hk⟩, h14, fun k hk => ⟨h14n k hk, own_lt h14 hk⟩⟩, hK.hc.below (Nat.le_refl _) (fun _ h => h.elim), fun b hb => hb.1⟩
    · go_wp2_with fail
      simp only [Try.sizeOf61, Result.andThen]
      rw [Oper.upon_value]
      go_wp2_with fail
      have e9 := Own.empty W1 61 257
      have e9n : ∀ b, (Value.slice (some ⟨W1.heap.size, 0, none⟩) 0 0).ownBlock = some b → w.heap.size ≤ b := fun b hb => by have := hK.hc.size; simp [Value.ownBlock] at hb; omega
      have e3 := e3.alloc (.cells #[] 61)
      replace hK := hK.alloc (.cells #[] 61)
      generalize hv : (Value.slice (some ⟨W1.heap.size, 0, none⟩) 0 0) = v9 at *
      clear hv
      generalize W1.alloc (.cells #[] 61) = W2 at *
      refine hQ _ _ (fun _ => hK.hb.cell) ?_
      clear hQ
      refine AnyS.one (i := 5) (by kernel_rfl) rfl (fun _ hQ => ?_)
      simp only [List.getElem_toArray, List.getElem_cons_succ, List.getElem_cons_zero]
      have hsrc : Cs W2 (fun _ => True) 256 (.slice Af R.firm.length capf) R.firm.length (flatB R.firm) := Cs.of_own hK.ho (fun _ _ => trivial)
      go_wp2_with (at_builtin; refine wpList_app _ rfl _ _ _ rfl Try.underlying41 rinfo_block3 (by rw [Value.cells, List.size_toArray, cu8_length, noughts, List.length_replicate]) (by decide) e3 rfl hsrc rfl flatB_one (by simp only [maxLen]; omega) (by omega) ?_; intro v8 W3 h8 hg hnil hat)
      rw [Nat.zero_add, List.nil_append] at h8
      have h8n : ∀ b, v8.ownBlock = some b → w.heap.size ≤ b := fun b hb => by
        rcases hat with e | e <;> rw [e] at hb
        · exact e3n b hb
        · have := hK.hc.size; injection hb with hb; omega
      have e9 := own_keep e9 (fun b hb => hg.block b (own_lt e9 hb) (fun e => own_own_ne e9 e3 (by decide) hb e))
      replace hK := hK.chg hg e3n
      refine hQ _ _ (fun _ => hK.hb.cell) ?_
      clear hQ
      clear hsrc hg hnil hat
      refine AnyS.one (i := 11) (by kernel_rfl) rfl (fun _ hQ => ?_)
      simp only [List.getElem_toArray, List.getElem_cons_succ, List.getElem_cons_zero]
      have hsrc : Cs W3 (fun _ => True) 257 (.slice A R.loose.length cap) R.loose.length (flatW R.loose) := Cs.of_own hK.hl (fun _ _ => trivial)
      go_wp2_with (at_builtin; refine wpList_app _ rfl _ _ _ rfl Try.underlying42 rinfo_write3 (wcells_size _ (by rw [noughts, List.length_replicate])) (by decide) e9 rfl hsrc rfl flatW_one (by simp only [maxLen]; omega) (by omega) ?_; intro v14 W4 h14 hg hnil hat)
      rw [Nat.zero_add, List.nil_append] at h14
      have h14n : ∀ b, v14.ownBlock = some b → w.heap.size ≤ b := fun b hb => by
        rcases hat with e | e <;> rw [e] at hb
        · exact e9n b hb
        · have := hK.hc.size; injection hb with hb; omega
      have h8 := own_keep h8 (fun b hb => hg.block b (own_lt h8 hb) (fun e => own_own_ne h8 e9 (by decide) hb e))
      replace hK := hK.chg hg e9n
      refine hQ _ _ (fun _ => hK.hb.cell) ?_
      clear hQ
      clear hsrc hg hnil hat
      obtain ⟨A8, c8, rfl⟩ := Own.form h8
      obtain ⟨A14, c14, rfl⟩ := Own.form h14
      refine AnyS.one (i := 24) (by kernel_rfl) rfl (fun _ hQ => ?_)
      simp only [List.getElem_toArray, List.getElem_cons_succ, List.getElem_cons_zero]
      go_wp2_with fail
      refine hQ _ _ (fun _ => hK.hb.cell) ?_
      clear hQ
      refine AnyS.one (i := 25) (by kernel_rfl) rfl (fun _ hQ => ?_)
      simp only [List.getElem_toArray, List.getElem_cons_succ, List.getElem_cons_zero]
      go_wp2_with fail
      have hbox := Blk.new W4 44 #[.slice A8 R.firm.length c8, .slice A14 R.loose.length c14, .int .i64 R.room, .int .i64 R.fuse, .bool R.off]
      have h8 := h8.alloc (.cells #[.slice A8 R.firm.length c8, .slice A14 R.loose.length c14, .int .i64 R.room, .int .i64 R.fuse, .bool R.off] 44)
      have h14 := h14.alloc (.cells #[.slice A8 R.firm.length c8, .slice A14 R.loose.length c14, .int .i64 R.room, .int .i64 R.fuse, .bool R.off] 44)
      have hq : w.heap.size ≤ W4.heap.size := hK.hc.size
      replace hK := hK.alloc (.cells #[.slice A8 R.firm.length c8, .slice A14 R.loose.length c14, .int .i64 R.room, .int .i64 R.fuse, .bool R.off] 44)
      refine hQ _ _ (fun _ => hK.hb.cell) ?_
      clear hQ
      refine AnyS.one (i := 26) (by kernel_rfl) rfl (fun _ hQ => ?_)
      simp only [List.getElem_toArray, List.getElem_cons_succ, List.getElem_cons_zero]
      go_wp2_with fail
      refine hQ _ _ (fun _ => hK.hb.cell) (AnyS.none (by kernel_rfl) (fun _ hQ' => ?_))
      clear hQ
      go_wp2
      go_ret
      exact ⟨W4.heap.size, fun b => w.heap.size ≤ b ∧ b < (W4.alloc (.cells #[.slice A8 R.firm.length c8, .slice A14 R.loose.length c14, .int .i64 R.room, .int .i64 R.fuse, .bool R.off] 44)).heap.size, rfl, ⟨⟨hq, hbox.lt⟩, fun b hb => hb.2, .slice A8 R.firm.length c8, .slice A14 R.loose.length c14, hbox, h8, fun k hk => ⟨h8n k hk, own_lt h8 hk⟩, h14, fun k hk => ⟨h14n k hk, own_lt h14 hk⟩⟩, hK.hc.below (Nat.le_refl _) (fun _ h => h.elim), fun b hb => hb.1⟩
  · go_wp2_with fail
    simp only [Try.sizeOf61, Result.andThen]
    rw [Oper.upon_value]
    go_wp2_with fail
    have e9 := Own.empty W0 61 257
    have e9n : ∀ b, (Value.slice (some ⟨W0.heap.size, 0, none⟩) 0 0).ownBlock = some b → w.heap.size ≤ b := fun b hb => by have := hK.hc.size; simp [Value.ownBlock] at hb; omega
    replace hK := hK.alloc (.cells #[] 61)
    generalize hv : (Value.slice (some ⟨W0.heap.size, 0, none⟩) 0 0) = v9 at *
    clear hv
    generalize W0.alloc (.cells #[] 61) = W1 at *
    refine hQ _ _ (fun _ => hK.hb.cell) ?_
    clear hQ
    refine AnyS.one (i := 0) (by kernel_rfl) rfl (fun _ hQ => ?_)
    simp only [List.getElem_toArray, List.getElem_cons_zero]
    go_wp2_with fail
    simp only [Try.sizeOf35, Result.andThen]
    rw [Oper.upon_value]
    go_wp2_with fail
    have e3 := Own.empty W1 35 256
    have e3n : ∀ b, (Value.slice (some ⟨W1.heap.size, 0, none⟩) 0 0).ownBlock = some b → w.heap.size ≤ b := fun b hb => by have := hK.hc.size; simp [Value.ownBlock] at hb; omega
    have e9 := e9.alloc (.cells #[] 35)
    replace hK := hK.alloc (.cells #[] 35)
    generalize hv : (Value.slice (some ⟨W1.heap.size, 0, none⟩) 0 0) = v3 at *
    clear hv
    generalize W1.alloc (.cells #[] 35) = W2 at *
    refine hQ _ _ (fun _ => hK.hb.cell) ?_
    clear hQ
    refine AnyS.one (i := 5) (by kernel_rfl) rfl (fun _ hQ => ?_)
    simp only [List.getElem_toArray, List.getElem_cons_succ, List.getElem_cons_zero]
    have hsrc : Cs W2 (fun _ => True) 256 (.slice Af R.firm.length capf) R.firm.length (flatB R.firm) := Cs.of_own hK.ho (fun _ _ => trivial)
    go_wp2_with (at_builtin; refine wpList_app _ rfl _ _ _ rfl Try.underlying41 rinfo_block3 (by rw [Value.cells, List.size_toArray, cu8_length, noughts, List.length_replicate]) (by decide) e3 rfl hsrc rfl flatB_one (by simp only [maxLen]; omega) (by omega) ?_; intro v8 W3 h8 hg hnil hat)
    rw [Nat.zero_add, List.nil_append] at h8
    have h8n : ∀ b, v8.ownBlock = some b → w.heap.size ≤ b := fun b hb => by
      rcases hat with e | e <;> rw [e] at hb
      · exact e3n b hb
      · have := hK.hc.size; injection hb with hb; omega
    have e9 := own_keep e9 (fun b hb => hg.block b (own_lt e9 hb) (fun e => own_own_ne e9 e3 (by decide) hb e))
    replace hK := hK.chg hg e3n
    refine hQ _ _ (fun _ => hK.hb.cell) ?_
    clear hQ
    clear hsrc hg hnil hat
    refine AnyS.one (i := 11) (by kernel_rfl) rfl (fun _ hQ => ?_)
    simp only [List.getElem_toArray, List.getElem_cons_succ, List.getElem_cons_zero]
    have hsrc : Cs W3 (fun _ => True) 257 (.slice A R.loose.length cap) R.loose.length (flatW R.loose) := Cs.of_own hK.hl (fun _ _ => trivial)
    go_wp2_with (at_builtin; refine wpList_app _ rfl _ _ _ rfl Try.underlying42 rinfo_write3 (wcells_size _ (by rw [noughts, List.length_replicate])) (by decide) e9 rfl hsrc rfl flatW_one (by simp only [maxLen]; omega) (by omega) ?_; intro v14 W4 h14 hg hnil hat)
    rw [Nat.zero_add, List.nil_append] at h14
    have h14n : ∀ b, v14.ownBlock = some b → w.heap.size ≤ b := fun b hb => by
      rcases hat with e | e <;> rw [e] at hb
      · exact e9n b hb
      · have := hK.hc.size; injection hb with hb; omega
    have h8 := own_keep h8 (fun b hb => hg.block b (own_lt h8 hb) (fun e => own_own_ne h8 e9 (by decide) hb e))
    replace hK := hK.chg hg e9n
    refine hQ _ _ (fun _ => hK.hb.cell) ?_
    clear hQ
    clear hsrc hg hnil hat
    obtain ⟨A8, c8, rfl⟩ := Own.form h8
    obtain ⟨A14, c14, rfl⟩ := Own.form h14
    refine AnyS.one (i := 24) (by kernel_rfl) rfl (fun _ hQ => ?_)
    simp only [List.getElem_toArray, List.getElem_cons_succ, List.getElem_cons_zero]
    go_wp2_with fail
    refine hQ _ _ (fun _ => hK.hb.cell) ?_
    clear hQ
    refine AnyS.one (i := 25) (by kernel_rfl) rfl (fun _ hQ => ?_)
    simp only [List.getElem_toArray, List.getElem_cons_succ, List.getElem_cons_zero]
    go_wp2_with fail
    have hbox := Blk.new W4 44 #[.slice A8 R.firm.length c8, .slice A14 R.loose.length c14, .int .i64 R.room, .int .i64 R.fuse, .bool R.off]
    have h8 := h8.alloc (.cells #[.slice A8 R.firm.length c8, .slice A14 R.loose.length c14, .int .i64 R.room, .int .i64 R.fuse, .bool R.off] 44)
    have h14 := h14.alloc (.cells #[.slice A8 R.firm.length c8, .slice A14 R.loose.length c14, .int .i64 R.room, .int .i64 R.fuse, .bool R.off] 44)
    have hq : w.heap.size ≤ W4.heap.size := hK.hc.size
    replace hK := hK.alloc (.cells #[.slice A8 R.firm.length c8, .slice A14 R.loose.length c14, .int .i64 R.room, .int .i64 R.fuse, .bool R.off] 44)
    refine hQ _ _ (fun _ => hK.hb.cell) ?_
    clear hQ
    refine AnyS.one (i := 26) (by kernel_rfl) rfl (fun _ hQ => ?_)
    simp only [List.getElem_toArray, List.getElem_cons_succ, List.getElem_cons_zero]
    go_wp2_with fail
    refine hQ _ _ (fun _ => hK.hb.cell) (AnyS.none (by kernel_rfl) (fun _ hQ' => ?_))
    clear hQ
    go_wp2
    go_ret
    exact ⟨W4.heap.size, fun b => w.heap.size ≤ b ∧ b < (W4.alloc (.cells #[.slice A8 R.firm.length c8, .slice A14 R.loose.length c14, .int .i64 R.room, .int .i64 R.fuse, .bool R.off] 44)).heap.size, rfl, ⟨⟨hq, hbox.lt⟩, fun b hb => hb.2, .slice A8 R.firm.length c8, .slice A14 R.loose.length c14, hbox, h8, fun k hk => ⟨h8n k hk, own_lt h8 hk⟩, h14, fun k hk => ⟨h14n k hk, own_lt h14 hk⟩⟩, hK.hc.below (Nat.le_refl _) (fun _ h => h.elim), fun b hb => hb.1⟩

end Go.Proofs.Ythmjgcmaoniejaa
