/- The document's disk: Write. -/
import Derived.Test.YthmjgcmaoniejaaDkV
import Derived.Test.YthmjgcmaoniejaaHoist4
namespace Go.Proofs.Ythmjgcmaoniejaa
open Go.RowKit Go.Maps

theorem rinfo_write : (Try.prog.info? 61).map (fun i => (i.zero.map (fun z => z.cells.size), i.size, i.bytes)) = some (some 257, 257, 264) := by kernel_rfl
theorem rplaces_write : ((match Try.prog.underlying 61 with | some (.struct fields) => fields.toList.mapM (fun f => (Try.prog.info? f.type).map fun i => (f.offset, i.size)) | _ => none)) = some [(0, 1), (1, 256)] := by kernel_rfl
theorem rbuilt_write (n : Int) (l : List Int) (hl : l.length = 256) : Try.prog.built 61 [(0, .int .i64 n), (1, .agg (cu8 l).toArray)] = some (wcells (n, l)).toArray := by
  have h1 := rinfo_write
  have h2 := rplaces_write
  unfold Program.built
  cases hit : Try.prog.info? 61 with
  | none => rw [hit] at h1; cases h1
  | some it =>
    rw [hit] at h1
    cases hz : it.zero with
    | none => rw [Option.map_some, hz] at h1; simp at h1
    | some z =>
      rw [Option.map_some, hz] at h1
      simp only [Option.map_some, Option.some.injEq, Prod.mk.injEq] at h1
      cases hu : Try.prog.underlying 61 with
      | none => rw [hu] at h2; cases h2
      | some d =>
        rw [hu] at h2
        cases d <;> first | (cases h2; done) | skip
        rename_i fields
        simp only at h2 ⊢
        rw [h2, hz]
        exact fill_write _ h1.1 n l hl (fun i => ([(0, 1), (1, 256)] : List (Nat × Nat)).toArray[i]?) rfl rfl
theorem rrun_build_write (n : Int) (l : List Int) (hl : l.length = 256) (w : World) : (Instr.build 61 #[(0, .int .i64 n), (1, .agg (cu8 l).toArray)]).run Try.prog w = .ok (.agg (wcells (n, l)).toArray) w :=
  run_build w _ _ _ (rbuilt_write n l hl)

theorem rrun_row_write (x : Int × List Int) (hl : x.2.length = 256) (w : World) :
    (Instr.buildSlice 42 1 #[(0, .agg (wcells x).toArray)]).run Try.prog w = .ok (.slice (some ⟨w.heap.size, 0, none⟩) 1 1) (w.alloc (.cells (wcells x).toArray 61)) := by
  have h1 := rinfo_write
  cases hit : Try.prog.info? 61 with
  | none => rw [hit] at h1; cases h1
  | some it =>
    rw [hit] at h1
    cases hz : it.zero with
    | none => rw [Option.map_some, hz] at h1; simp at h1
    | some z =>
      rw [Option.map_some, hz] at h1
      simp only [Option.map_some, Option.some.injEq, Prod.mk.injEq] at h1
      obtain ⟨_, h2, _⟩ := h1
      refine run_buildSlice w _ 61 1 _ _ it z Try.underlying42 hit hz (by rw [h2]; decide) (by rw [h2]; decide) ?_
      exact fill_whole _ _ _ 257 (by rw [h2]) (by rw [h2]; simp) (wcells_size x hl)


theorem rinfo_write3 : (Try.prog.info? 61).map (fun i => (i.zero, i.size, i.bytes)) = some (some (.agg (wcells (0, noughts)).toArray), 257, 264) := by kernel_rfl

/-- What stays while new memory is made: the disk's own block, its rows, the block handed in. -/
structure WK (w1 W : World) (p X : Nat) (cs xb : Array Value) (vf vl : Value) (nf nl : Nat) (F L : List Value) : Prop where
  hb : Blk W p 44 cs
  ho : Own W 35 256 vf nf F
  hl : Own W 61 257 vl nl L
  hx : Blk W X 35 xb
  hc : Chg (fun _ => False) w1 W
  lo : ∀ k, vf.ownBlock = some k → k < w1.heap.size
  ll : ∀ k, vl.ownBlock = some k → k < w1.heap.size
  lp : p < w1.heap.size
  lx : X < w1.heap.size
theorem WK.chg {w1 W W' : World} {p X : Nat} {cs xb : Array Value} {vf vl : Value} {nf nl : Nat} {F L : List Value} {M : Nat → Prop} (h : WK w1 W p X cs xb vf vl nf nl F L) (hc : Chg M W W') (hM : ∀ b, M b → w1.heap.size ≤ b) : WK w1 W' p X cs xb vf vl nf nl F L :=
  ⟨h.hb.chg hc (fun hm => by have := hM _ hm; have := h.lp; omega), own_keep h.ho (fun k hk => hc.block k (own_lt h.ho hk) (fun hm => by have := hM _ hm; have := h.lo k hk; omega)),
    own_keep h.hl (fun k hk => hc.block k (own_lt h.hl hk) (fun hm => by have := hM _ hm; have := h.ll k hk; omega)), h.hx.chg hc (fun hm => by have := hM _ hm; have := h.lx; omega), h.hc.trans hc (fun b hb => .inr (hM b hb)), h.lo, h.ll, h.lp, h.lx⟩
theorem WK.alloc {w1 W : World} {p X : Nat} {cs xb : Array Value} {vf vl : Value} {nf nl : Nat} {F L : List Value} (h : WK w1 W p X cs xb vf vl nf nl F L) (o : Obj) : WK w1 (W.alloc o) p X cs xb vf vl nf nl F L :=
  h.chg (M := fun _ => False) ((Chg.refl _ W).alloc o) (fun _ h => h.elim)
theorem Cs.keepBlk {w w' : World} {g size n : Nat} {v : Value} {xs : List Value} (h : Cs w (fun b => b = g) size v n xs) (hs : w.heap.size ≤ w'.heap.size) (hk : g < w.heap.size → w'.heap[g]? = w.heap[g]?) : Cs w' (fun b => b = g) size v n xs :=
  h.keep hs (fun b hb hlt => by subst hb; exact hk hlt)

attribute [-simp] Try.isAgg35 Try.sizeOf35 Try.typeInfo35 Try.isAgg61 Try.sizeOf61 Try.typeInfo61

def RS.write (R : RS) (n : Int) (l : List Int) : RS × Int :=
  if R.begins.off then (R.begins, 44) else if n < 0 ∨ R.firm.length ≤ n then (R.begins, 2) else if R.room ≤ n then (R.begins, 42) else ({ R.begins with loose := R.begins.loose ++ [(n, l)] }, 0)

set_option maxHeartbeats 1000000 in
set_option maxRecDepth 100000 in
theorem rwrite_room (p : Nat) (S : Nat → Prop) (R R' : RS) (n : Int) (l : List Int) (hl : l.length = 256) (w : World) (h : RefI w p S R) (hf1 : -9223372036854775808 < R.fuse) (hf2 : R.fuse ≤ 9223372036854775807) (hb : R.begins = R') (hoff : R'.off = false)
    (hn0 : 0 ≤ n) (hn1 : n < R'.firm.length) (hn2 : n < R'.room) (hsz : (R'.loose.length + 1) * 264 ≤ 140737488355328) :
    Calls Try.prog 28 #[.pointer (some ⟨p, 0, none⟩), .int .i64 n, .agg (cu8 l).toArray] w fun e w' => e = .returned (.int .i64 0) ∧ ∃ S', RefI w' p S' { R' with loose := R'.loose ++ [(n, l)] } ∧ Chg S w w' ∧ ∀ b, S' b → S b ∨ w.heap.size ≤ b := by
  have hlt : p < w.heap.size := h.2.1 p h.1
  have H := Lib.hid (roff_any p S R _ (h.alloc (.cells (cu8 l).toArray 35)) hf1 hf2)
  rw [hb, hoff] at H
  go_enter Try.func28, Try.ntmps28
  go_wp2_with fail
  refine H.out.mono ?_
  rintro e w1 ⟨rfl, h1, c1⟩
  have hx1 : Blk w1 w.heap.size 35 (cu8 l).toArray := (Blk.new w _ _).chg c1 (fun hs => by have := h.2.1 _ hs; omega)
  obtain ⟨hSp, hS, vf, vl, hb1, ho1, hvf, hl1, hvl⟩ := h1
  obtain ⟨A, cap, rfl⟩ := hl1.form
  obtain ⟨Af, capf, rfl⟩ := ho1.form
  have hc := hb1.cell
  have hn0' : ¬ n < 0 := by omega
  have hn1' : ¬ (R'.firm.length : Int) ≤ n := by omega
  have hn2' : ¬ R'.room ≤ n := by omega
  go_wp2_with fail
  have hfin : ∀ (A2 : Option Addr) (cap2 : Nat) (W : World), WK w1 W p w.heap.size #[.slice Af R'.firm.length capf, .slice A R'.loose.length cap, .int .i64 R'.room, .int .i64 R'.fuse, .bool R'.off] (cu8 l).toArray (.slice Af R'.firm.length capf) (.slice A R'.loose.length cap) R'.firm.length R'.loose.length (flatB R'.firm) (flatW R'.loose) → Own W 61 257 (.slice A2 (R'.loose.length + 1) cap2) (R'.loose.length + 1) (flatW R'.loose ++ wcells (n, l)) → (∀ b, (Value.slice A2 (R'.loose.length + 1) cap2).ownBlock = some b → w1.heap.size ≤ b) →
      ∃ S', RefI (W.setCell ⟨p, 1, none⟩ (.slice A2 (R'.loose.length + 1) cap2)) p S' { R' with loose := R'.loose ++ [(n, l)] } ∧ Chg S w (W.setCell ⟨p, 1, none⟩ (.slice A2 (R'.loose.length + 1) cap2)) ∧ ∀ b, S' b → S b ∨ w.heap.size ≤ b := by
    intro A2 cap2 W hK h11 hev
    have hs1 := c1.size
    have hs2 := hK.hc.size
    simp only [World.size_alloc] at hs1
    refine ⟨fun b => S b ∨ (w1.heap.size ≤ b ∧ b < W.heap.size), ⟨.inl hSp, ?_, .slice Af R'.firm.length capf, .slice A2 (R'.loose.length + 1) cap2, hK.hb.set_ 1 _, ?_, fun k hk => .inl (hvf k hk), ?_, fun k hk => .inr ⟨hev k hk, own_lt h11 hk⟩⟩, ?_, fun b hb => hb.elim .inl (fun h => .inr (by omega))⟩
    · rintro b (hb | hb)
      · have := hS b hb; simp only [World.size_setCell]; omega
      · simpa using hb.2
    · exact own_keep hK.ho (fun k hk => Below.heap_setCell _ _ _ _ (fun e => own_blk_ne hK.ho hK.hb (by decide) (by rw [hk, e])))
    · simp only [List.length_append, List.length_singleton]
      rw [show flatW (R'.loose ++ [(n, l)]) = flatW R'.loose ++ wcells (n, l) by simp [flatW]]
      exact own_keep h11 (fun k hk => Below.heap_setCell _ _ _ _ (fun e => own_blk_ne h11 hK.hb (by decide) (by rw [hk, e])))
    · exact (((Chg.refl S w).alloc _).trans c1 (fun _ h => .inl h)).trans (hK.hc.mono (fun _ h => h.elim)) (fun _ h => .inl h) |>.setOf hSp 1 _
  have hbu := rrun_build_write n l hl
  have hinfo : (Try.prog.info? 35).map (·.size) = some (cu8 l).length := by rw [cu8_length, hl]; exact (zero_of_info info_block).2
  have hK : WK w1 w1.drew p w.heap.size #[.slice Af R'.firm.length capf, .slice A R'.loose.length cap, .int .i64 R'.room, .int .i64 R'.fuse, .bool R'.off] (cu8 l).toArray (.slice Af R'.firm.length capf) (.slice A R'.loose.length cap) R'.firm.length R'.loose.length (flatB R'.firm) (flatW R'.loose) := ⟨hb1.drew, ho1.drew, hl1.drew, hx1.drew, (Chg.refl _ w1).drew, fun k hk => own_lt ho1 hk, fun k hk => own_lt hl1 hk, hb1.lt, hx1.lt⟩
  refine wp_region_tree [0, 2, 3, 4, 5, 7, 8, 9] [14] 7 (fun w' => w'.cell? ⟨p, 1, none⟩ = some (.slice A R'.loose.length cap) ∧ w'.rangeAt w.heap.size 0 (cu8 l)) (by kernel_rfl) (by kernel_rfl) (by kernel_rfl) (by kernel_rfl) ⟨hK.hb.cell 1, hK.hx.range⟩ ?_
  (refine HoistK.yes (by rfl) (by kernel_rfl) ⟨?_, fun w hSw => ?_, ?_⟩; rotate_left; (· go_simp; try with_reducible rfl); simp only [Act.put, List.setIfInBounds_toArray, List.getElem_toArray, List.getElem_cons_zero, List.set_cons_succ, List.set_cons_zero])
  (refine HoistK.yes (by rfl) (by kernel_rfl) ⟨?_, fun w hSw => ?_, ?_⟩; rotate_left; (· go_simp; try with_reducible rfl); simp only [Act.put, List.setIfInBounds_toArray, List.getElem_toArray, List.getElem_cons_succ, List.getElem_cons_zero, List.set_cons_succ, List.set_cons_zero])
  (refine HoistK.yes (by rfl) (by kernel_rfl) ⟨?_, fun w hSw => ?_, ?_⟩; rotate_left; (· go_simp; try with_reducible rfl); simp only [Act.put, List.setIfInBounds_toArray, List.getElem_toArray, List.getElem_cons_succ, List.getElem_cons_zero, List.set_cons_succ, List.set_cons_zero])
  (refine HoistK.yes (by rfl) (by kernel_rfl) ⟨?_, fun w hSw => ?_, ?_⟩; rotate_left; (· go_simp; try with_reducible rfl); simp only [Act.put, List.setIfInBounds_toArray, List.getElem_toArray, List.getElem_cons_succ, List.getElem_cons_zero, List.set_cons_succ, List.set_cons_zero])
  (refine HoistK.yes (by rfl) (by kernel_rfl) ⟨?_, fun w hSw => ?_, ?_⟩; rotate_left; (· go_simp; try with_reducible rfl); simp only [Act.put, List.setIfInBounds_toArray, List.getElem_toArray, List.getElem_cons_succ, List.getElem_cons_zero, List.set_cons_succ, List.set_cons_zero])
  (refine HoistK.yes (by rfl) (by kernel_rfl) ⟨?_, fun w hSw => ?_, ?_⟩; rotate_left; (· go_simp; try with_reducible rfl); simp only [Act.put, List.setIfInBounds_toArray, List.getElem_toArray, List.getElem_cons_succ, List.getElem_cons_zero, List.set_cons_succ, List.set_cons_zero])
  refine HoistK.load (by rfl) (by kernel_rfl) 35 _ rfl w.heap.size 0 rfl (cu8 l) _ (fun w hw => hw.2) Try.underlying35 rfl hinfo ?_
  simp only [Act.put, List.setIfInBounds_toArray, List.getElem_toArray, List.getElem_cons_succ, List.getElem_cons_zero, List.set_cons_succ, List.set_cons_zero]
  refine HoistK.build (by rfl) (by kernel_rfl) 61 _ rfl #[(0, .int .i64 n), (1, .agg (cu8 l).toArray)] (by simp [Act.eval]) _ hbu ?_
  simp only [Act.put, List.setIfInBounds_toArray, List.getElem_toArray, List.getElem_cons_succ, List.getElem_cons_zero, List.set_cons_succ, List.set_cons_zero]
  refine HoistK.nil_ ?_
  clear hb1 ho1 hl1 hx1 hc hbu hinfo
  generalize w1.drew = W0 at *
  refine AnyS.two (i := 1) (k := 10) (by kernel_rfl) rfl rfl (fun _ hQ => ?_) (fun _ hQ => ?_)
  all_goals simp only [List.getElem_toArray, List.getElem_cons_succ, List.getElem_cons_zero]
  · go_wp2_with fail
    simp only [Try.sizeOf61, Result.andThen]
    rw [Oper.upon_value]
    go_wp2_with fail
    have hev : ∀ b, (Value.slice (some ⟨W0.heap.size, 0, none⟩) 0 0).ownBlock = some b → w1.heap.size ≤ b := fun b hb => by have := hK.hc.size; simp [Value.ownBlock] at hb; omega
    have he := Own.empty W0 61 257
    replace hK := hK.alloc (.cells #[] 61)
    generalize hv1 : (Value.slice (some ⟨W0.heap.size, 0, none⟩) 0 0) = v1 at *
    generalize W0.alloc (.cells #[] 61) = W1 at *
    refine hQ _ _ (fun _ => ⟨hK.hb.cell 1, hK.hx.range⟩) ?_
    clear hQ
    refine AnyS.two (i := 6) (k := 10) (by kernel_rfl) rfl rfl (fun _ hQ => ?_) (fun _ hQ => ?_)
    all_goals simp only [List.getElem_toArray, List.getElem_cons_succ, List.getElem_cons_zero]
    · have hsrc : Cs W1 (fun _ => True) 257 (.slice A R'.loose.length cap) R'.loose.length (flatW R'.loose) := Cs.of_own hK.hl (fun _ _ => trivial)
      go_wp2_with (at_builtin; refine wpList_app _ rfl _ _ _ rfl Try.underlying42 rinfo_write3 (wcells_size _ (by rw [noughts, List.length_replicate])) (by decide) he rfl hsrc rfl flatW_one (by simp only [maxLen]; omega) (by omega) ?_; intro v6 W2 h6 hg6 hnil6 hat6)
      rw [Nat.zero_add, List.nil_append] at h6
      have hev6 : ∀ b, v6.ownBlock = some b → w1.heap.size ≤ b := fun b hb => by
        rcases hat6 with e | e <;> rw [e] at hb
        · exact hev b hb
        · have := hK.hc.size; injection hb with hb; omega
      replace hK := hK.chg hg6 hev
      refine hQ _ _ (fun _ => ⟨hK.hb.cell 1, hK.hx.range⟩) ?_
      clear hQ hsrc
      refine AnyS.one (i := 10) (by kernel_rfl) rfl (fun _ hQ => ?_)
      simp only [List.getElem_toArray, List.getElem_cons_succ, List.getElem_cons_zero]
      refine wpList_row rfl 42 1 _ rfl #[(0, .agg (wcells (n, l)).toArray)] (by simp [Act.eval]) _ (rrun_row_write (n, l) hl W2) ?_
      go_wp2_with fail
      have hr : Cs (W2.alloc (.cells (wcells (n, l)).toArray 61)) (fun b => b = W2.heap.size) 257 (.slice (some ⟨W2.heap.size, 0, none⟩) 1 1) 1 (wcells (n, l)) := Cs.of_new' W2 61 1 (by simpa using wcells_size (n, l) hl) (by decide) (0, 0)
      have hg2 : W2.heap.size < (W2.alloc (.cells (wcells (n, l)).toArray 61)).heap.size := by simp
      have hne : ∀ b, v6.ownBlock = some b → b ≠ W2.heap.size := fun b hb e => by have := own_lt h6 hb; omega
      have h6 := h6.alloc (.cells (wcells (n, l)).toArray 61)
      replace hK := hK.alloc (.cells (wcells (n, l)).toArray 61)
      generalize hgg : W2.heap.size = g at *
      generalize W2.alloc (.cells (wcells (n, l)).toArray 61) = W3 at *
      refine hQ _ _ (fun _ => ⟨hK.hb.cell 1, hK.hx.range⟩) ?_
      clear hQ
      refine AnyS.one (i := 11) (by kernel_rfl) rfl (fun _ hQ => ?_)
      simp only [List.getElem_toArray, List.getElem_cons_succ, List.getElem_cons_zero]
      go_wp2_with (at_builtin; refine wpList_app _ rfl _ _ _ rfl Try.underlying42 rinfo_write3 (wcells_size _ (by rw [noughts, List.length_replicate])) (by decide) h6 rfl hr rfl (wcells_one _) (by simp only [maxLen]; omega) (by omega) ?_; intro v11 w11 h11 hg11 hnil11 hat11)
      have hev11 : ∀ b, v11.ownBlock = some b → w1.heap.size ≤ b := fun b hb => by
        rcases hat11 with e | e <;> rw [e] at hb
        · exact hev6 b hb
        · have := hK.hc.size; injection hb with hb; omega
      replace hK := hK.chg hg11 hev6
      obtain ⟨A2, cap2, rfl⟩ := h11.form
      refine hQ _ _ (fun _ => ⟨hK.hb.cell 1, hK.hx.range⟩) ?_
      clear hQ
      refine AnyS.one (i := 12) (by kernel_rfl) rfl (fun _ hQ => ?_)
      simp only [List.getElem_toArray, List.getElem_cons_succ, List.getElem_cons_zero]
      go_wp2_with fail
      refine hQ _ _ (fun _ => ⟨hK.hb.cell 1, hK.hx.range⟩) ?_
      clear hQ
      refine AnyS.one (i := 13) (by kernel_rfl) rfl (fun _ hQ => ?_)
      simp only [List.getElem_toArray, List.getElem_cons_succ, List.getElem_cons_zero]
      go_wp2_with fail
      refine hQ _ _ (fun _ => ⟨hK.hb.cell 1, hK.hx.range⟩) ?_
      clear hQ
      refine AnyS.one (i := 14) (by kernel_rfl) rfl (fun _ hQ => ?_)
      simp only [List.getElem_toArray, List.getElem_cons_succ, List.getElem_cons_zero]
      have hc11 := hK.hb.cell
      have hf11 := hK.hb.frozen
      go_wp2_with fail
      refine hQ _ _ (fun e => by cases e) (AnyS.none (by kernel_rfl) (fun _ hQ' => ?_))
      clear hQ
      go_wp2
      go_ret
      exact ⟨rfl, hfin A2 cap2 w11 hK h11 hev11⟩
    · refine wpList_row rfl 42 1 _ rfl #[(0, .agg (wcells (n, l)).toArray)] (by simp [Act.eval]) _ (rrun_row_write (n, l) hl W1) ?_
      go_wp2_with fail
      have hr : Cs (W1.alloc (.cells (wcells (n, l)).toArray 61)) (fun b => b = W1.heap.size) 257 (.slice (some ⟨W1.heap.size, 0, none⟩) 1 1) 1 (wcells (n, l)) := Cs.of_new' W1 61 1 (by simpa using wcells_size (n, l) hl) (by decide) (0, 0)
      have hg2 : W1.heap.size < (W1.alloc (.cells (wcells (n, l)).toArray 61)).heap.size := by simp
      have hne : ∀ b, v1.ownBlock = some b → b ≠ W1.heap.size := fun b hb e => by have := own_lt he hb; omega
      have he := he.alloc (.cells (wcells (n, l)).toArray 61)
      replace hK := hK.alloc (.cells (wcells (n, l)).toArray 61)
      generalize hgg : W1.heap.size = g at *
      generalize W1.alloc (.cells (wcells (n, l)).toArray 61) = W2 at *
      refine hQ _ _ (fun _ => ⟨hK.hb.cell 1, hK.hx.range⟩) ?_
      clear hQ
      refine AnyS.one (i := 6) (by kernel_rfl) rfl (fun _ hQ => ?_)
      simp only [List.getElem_toArray, List.getElem_cons_succ, List.getElem_cons_zero]
      have hsrc : Cs W2 (fun _ => True) 257 (.slice A R'.loose.length cap) R'.loose.length (flatW R'.loose) := Cs.of_own hK.hl (fun _ _ => trivial)
      go_wp2_with (at_builtin; refine wpList_app _ rfl _ _ _ rfl Try.underlying42 rinfo_write3 (wcells_size _ (by rw [noughts, List.length_replicate])) (by decide) he rfl hsrc rfl flatW_one (by simp only [maxLen]; omega) (by omega) ?_; intro v6 W3 h6 hg6 hnil6 hat6)
      rw [Nat.zero_add, List.nil_append] at h6
      have hev6 : ∀ b, v6.ownBlock = some b → w1.heap.size ≤ b := fun b hb => by
        rcases hat6 with e | e <;> rw [e] at hb
        · exact hev b hb
        · have := hK.hc.size; injection hb with hb; omega
      have hne6 : ∀ b, v6.ownBlock = some b → b ≠ g := fun b hb e => by
        rcases hat6 with e6 | e6 <;> rw [e6] at hb
        · exact hne b hb e
        · injection hb with hb; omega
      have hr := hr.keepBlk hg6.size (fun hlt => hg6.block g hlt (fun e => hne g e rfl))
      have hg2 : g < W3.heap.size := by have := hg6.size; omega
      replace hK := hK.chg hg6 hev
      refine hQ _ _ (fun _ => ⟨hK.hb.cell 1, hK.hx.range⟩) ?_
      clear hQ hsrc
      refine AnyS.one (i := 11) (by kernel_rfl) rfl (fun _ hQ => ?_)
      simp only [List.getElem_toArray, List.getElem_cons_succ, List.getElem_cons_zero]
      go_wp2_with (at_builtin; refine wpList_app _ rfl _ _ _ rfl Try.underlying42 rinfo_write3 (wcells_size _ (by rw [noughts, List.length_replicate])) (by decide) h6 rfl hr rfl (wcells_one _) (by simp only [maxLen]; omega) (by omega) ?_; intro v11 w11 h11 hg11 hnil11 hat11)
      have hev11 : ∀ b, v11.ownBlock = some b → w1.heap.size ≤ b := fun b hb => by
        rcases hat11 with e | e <;> rw [e] at hb
        · exact hev6 b hb
        · have := hK.hc.size; injection hb with hb; omega
      replace hK := hK.chg hg11 hev6
      obtain ⟨A2, cap2, rfl⟩ := h11.form
      refine hQ _ _ (fun _ => ⟨hK.hb.cell 1, hK.hx.range⟩) ?_
      clear hQ
      refine AnyS.one (i := 12) (by kernel_rfl) rfl (fun _ hQ => ?_)
      simp only [List.getElem_toArray, List.getElem_cons_succ, List.getElem_cons_zero]
      go_wp2_with fail
      refine hQ _ _ (fun _ => ⟨hK.hb.cell 1, hK.hx.range⟩) ?_
      clear hQ
      refine AnyS.one (i := 13) (by kernel_rfl) rfl (fun _ hQ => ?_)
      simp only [List.getElem_toArray, List.getElem_cons_succ, List.getElem_cons_zero]
      go_wp2_with fail
      refine hQ _ _ (fun _ => ⟨hK.hb.cell 1, hK.hx.range⟩) ?_
      clear hQ
      refine AnyS.one (i := 14) (by kernel_rfl) rfl (fun _ hQ => ?_)
      simp only [List.getElem_toArray, List.getElem_cons_succ, List.getElem_cons_zero]
      have hc11 := hK.hb.cell
      have hf11 := hK.hb.frozen
      go_wp2_with fail
      refine hQ _ _ (fun e => by cases e) (AnyS.none (by kernel_rfl) (fun _ hQ' => ?_))
      clear hQ
      go_wp2
      go_ret
      exact ⟨rfl, hfin A2 cap2 w11 hK h11 hev11⟩
  · refine wpList_row rfl 42 1 _ rfl #[(0, .agg (wcells (n, l)).toArray)] (by simp [Act.eval]) _ (rrun_row_write (n, l) hl W0) ?_
    go_wp2_with fail
    have hr : Cs (W0.alloc (.cells (wcells (n, l)).toArray 61)) (fun b => b = W0.heap.size) 257 (.slice (some ⟨W0.heap.size, 0, none⟩) 1 1) 1 (wcells (n, l)) := Cs.of_new' W0 61 1 (by simpa using wcells_size (n, l) hl) (by decide) (0, 0)
    have hg2 : W0.heap.size < (W0.alloc (.cells (wcells (n, l)).toArray 61)).heap.size := by simp
    replace hK := hK.alloc (.cells (wcells (n, l)).toArray 61)
    generalize hgg : W0.heap.size = g at *
    generalize W0.alloc (.cells (wcells (n, l)).toArray 61) = W1 at *
    refine hQ _ _ (fun _ => ⟨hK.hb.cell 1, hK.hx.range⟩) ?_
    clear hQ
    refine AnyS.one (i := 1) (by kernel_rfl) rfl (fun _ hQ => ?_)
    simp only [List.getElem_toArray, List.getElem_cons_succ, List.getElem_cons_zero]
    go_wp2_with fail
    simp only [Try.sizeOf61, Result.andThen]
    rw [Oper.upon_value]
    go_wp2_with fail
    have hev : ∀ b, (Value.slice (some ⟨W1.heap.size, 0, none⟩) 0 0).ownBlock = some b → w1.heap.size ≤ b := fun b hb => by have := hK.hc.size; simp [Value.ownBlock] at hb; omega
    have he := Own.empty W1 61 257
    have hne : ∀ b, (Value.slice (some ⟨W1.heap.size, 0, none⟩) 0 0).ownBlock = some b → b ≠ g := fun b hb e => by simp [Value.ownBlock] at hb; omega
    have hr := hr.keepBlk (by simp) (fun hlt => Below.heap_alloc W1 (.cells #[] 61) g hlt)
    replace hK := hK.alloc (.cells #[] 61)
    have hg2 : g < (W1.alloc (.cells #[] 61)).heap.size := by simp only [World.size_alloc]; omega
    generalize hv1 : (Value.slice (some ⟨W1.heap.size, 0, none⟩) 0 0) = v1 at *
    generalize W1.alloc (.cells #[] 61) = W2 at *
    refine hQ _ _ (fun _ => ⟨hK.hb.cell 1, hK.hx.range⟩) ?_
    clear hQ
    refine AnyS.one (i := 6) (by kernel_rfl) rfl (fun _ hQ => ?_)
    simp only [List.getElem_toArray, List.getElem_cons_succ, List.getElem_cons_zero]
    have hsrc : Cs W2 (fun _ => True) 257 (.slice A R'.loose.length cap) R'.loose.length (flatW R'.loose) := Cs.of_own hK.hl (fun _ _ => trivial)
    go_wp2_with (at_builtin; refine wpList_app _ rfl _ _ _ rfl Try.underlying42 rinfo_write3 (wcells_size _ (by rw [noughts, List.length_replicate])) (by decide) he rfl hsrc rfl flatW_one (by simp only [maxLen]; omega) (by omega) ?_; intro v6 W3 h6 hg6 hnil6 hat6)
    rw [Nat.zero_add, List.nil_append] at h6
    have hev6 : ∀ b, v6.ownBlock = some b → w1.heap.size ≤ b := fun b hb => by
      rcases hat6 with e | e <;> rw [e] at hb
      · exact hev b hb
      · have := hK.hc.size; injection hb with hb; omega
    have hne6 : ∀ b, v6.ownBlock = some b → b ≠ g := fun b hb e => by
      rcases hat6 with e6 | e6 <;> rw [e6] at hb
      · exact hne b hb e
      · injection hb with hb; omega
    have hr := hr.keepBlk hg6.size (fun hlt => hg6.block g hlt (fun e => hne g e rfl))
    have hg2 : g < W3.heap.size := by have := hg6.size; omega
    replace hK := hK.chg hg6 hev
    refine hQ _ _ (fun _ => ⟨hK.hb.cell 1, hK.hx.range⟩) ?_
    clear hQ hsrc
    refine AnyS.one (i := 11) (by kernel_rfl) rfl (fun _ hQ => ?_)
    simp only [List.getElem_toArray, List.getElem_cons_succ, List.getElem_cons_zero]
    go_wp2_with (at_builtin; refine wpList_app _ rfl _ _ _ rfl Try.underlying42 rinfo_write3 (wcells_size _ (by rw [noughts, List.length_replicate])) (by decide) h6 rfl hr rfl (wcells_one _) (by simp only [maxLen]; omega) (by omega) ?_; intro v11 w11 h11 hg11 hnil11 hat11)
    have hev11 : ∀ b, v11.ownBlock = some b → w1.heap.size ≤ b := fun b hb => by
      rcases hat11 with e | e <;> rw [e] at hb
      · exact hev6 b hb
      · have := hK.hc.size; injection hb with hb; omega
    replace hK := hK.chg hg11 hev6
    obtain ⟨A2, cap2, rfl⟩ := h11.form
    refine hQ _ _ (fun _ => ⟨hK.hb.cell 1, hK.hx.range⟩) ?_
    clear hQ
    refine AnyS.one (i := 12) (by kernel_rfl) rfl (fun _ hQ => ?_)
    simp only [List.getElem_toArray, List.getElem_cons_succ, List.getElem_cons_zero]
    go_wp2_with fail
    refine hQ _ _ (fun _ => ⟨hK.hb.cell 1, hK.hx.range⟩) ?_
    clear hQ
    refine AnyS.one (i := 13) (by kernel_rfl) rfl (fun _ hQ => ?_)
    simp only [List.getElem_toArray, List.getElem_cons_succ, List.getElem_cons_zero]
    go_wp2_with fail
    refine hQ _ _ (fun _ => ⟨hK.hb.cell 1, hK.hx.range⟩) ?_
    clear hQ
    refine AnyS.one (i := 14) (by kernel_rfl) rfl (fun _ hQ => ?_)
    simp only [List.getElem_toArray, List.getElem_cons_succ, List.getElem_cons_zero]
    have hc11 := hK.hb.cell
    have hf11 := hK.hb.frozen
    go_wp2_with fail
    refine hQ _ _ (fun e => by cases e) (AnyS.none (by kernel_rfl) (fun _ hQ' => ?_))
    clear hQ
    go_wp2
    go_ret
    exact ⟨rfl, hfin A2 cap2 w11 hK h11 hev11⟩

set_option maxRecDepth 100000 in
theorem rwrite_no (p : Nat) (S : Nat → Prop) (R R' : RS) (n r : Int) (l : List Int) (w : World) (h : RefI w p S R) (hf1 : -9223372036854775808 < R.fuse) (hf2 : R.fuse ≤ 9223372036854775807) (hb : R.begins = R')
    (hr : (R'.off = true ∧ r = 44) ∨ (R'.off = false ∧ (n < 0 ∨ R'.firm.length ≤ n) ∧ r = 2) ∨ (R'.off = false ∧ 0 ≤ n ∧ n < R'.firm.length ∧ R'.room ≤ n ∧ r = 42)) :
    Calls Try.prog 28 #[.pointer (some ⟨p, 0, none⟩), .int .i64 n, .agg (cu8 l).toArray] w fun e w' => e = .returned (.int .i64 r) ∧ RefI w' p S R' ∧ Chg S w w' := by
  have ha := (Chg.refl S w).alloc (.cells (cu8 l).toArray 35)
  have H := Lib.hid (roff_any p S R _ (h.alloc (.cells (cu8 l).toArray 35)) hf1 hf2)
  rw [hb] at H
  rcases hr with ⟨ho, rfl⟩ | ⟨ho, hn, rfl⟩ | ⟨ho, hn0, hn1, hn2, rfl⟩
  · rw [ho] at H
    go_enter Try.func28, Try.ntmps28
    go_wp2_with fail
    refine H.out.mono ?_
    rintro e w1 ⟨rfl, h1, c1⟩
    go_wp2_with fail
    go_ret
    exact ⟨rfl, h1, ha.trans c1 (fun _ h => .inl h)⟩
  · rw [ho] at H
    by_cases hn0 : n < 0
    · clear hn
      go_enter Try.func28, Try.ntmps28
      go_wp2_with fail
      refine H.out.mono ?_
      rintro e w1 ⟨rfl, h1, c1⟩
      go_wp2_with fail
      go_ret
      exact ⟨rfl, h1, ha.trans c1 (fun _ h => .inl h)⟩
    · have hn1 : (R'.firm.length : Int) ≤ n := by omega
      clear hn
      go_enter Try.func28, Try.ntmps28
      go_wp2_with fail
      refine H.out.mono ?_
      rintro e w1 ⟨rfl, h1, c1⟩
      have H1 := Lib.hid h1
      obtain ⟨_, _, vf, vl, hb1, hfo, _⟩ := h1
      obtain ⟨Af, capf, rfl⟩ := hfo.form
      have hc := hb1.cell
      go_wp2_with fail
      go_ret
      exact ⟨rfl, H1.out, ha.trans c1 (fun _ h => .inl h)⟩
  · rw [ho] at H
    have hn0' : ¬ n < 0 := by omega
    have hn1' : ¬ (R'.firm.length : Int) ≤ n := by omega
    go_enter Try.func28, Try.ntmps28
    go_wp2_with fail
    refine H.out.mono ?_
    rintro e w1 ⟨rfl, h1, c1⟩
    have H1 := Lib.hid h1
    obtain ⟨_, _, vf, vl, hb1, hfo, _⟩ := h1
    obtain ⟨Af, capf, rfl⟩ := hfo.form
    have hc := hb1.cell
    go_wp2_with fail
    go_ret
    exact ⟨rfl, H1.out, ha.trans c1 (fun _ h => .inl h)⟩

set_option maxRecDepth 100000 in
theorem rwrite_any (p : Nat) (S : Nat → Prop) (R : RS) (n : Int) (l : List Int) (hl : l.length = 256) (w : World) (h : RefI w p S R) (hf1 : -9223372036854775808 < R.fuse) (hf2 : R.fuse ≤ 9223372036854775807) (hsz : (R.loose.length + 1) * 264 ≤ 140737488355328) :
    Calls Try.prog 28 #[.pointer (some ⟨p, 0, none⟩), .int .i64 n, .agg (cu8 l).toArray] w fun e w' => e = .returned (.int .i64 (R.write n l).2) ∧ ∃ S', RefI w' p S' (R.write n l).1 ∧ Chg S w w' ∧ ∀ b, S' b → S b ∨ w.heap.size ≤ b := by
  obtain ⟨e1, e2, e3⟩ := R.begins_same
  have no : ∀ r, ((R.begins.off = true ∧ r = 44) ∨ (R.begins.off = false ∧ (n < 0 ∨ R.begins.firm.length ≤ n) ∧ r = 2) ∨ (R.begins.off = false ∧ 0 ≤ n ∧ n < R.begins.firm.length ∧ R.begins.room ≤ n ∧ r = 42)) → R.write n l = (R.begins, r) →
      Calls Try.prog 28 #[.pointer (some ⟨p, 0, none⟩), .int .i64 n, .agg (cu8 l).toArray] w fun e w' => e = .returned (.int .i64 (R.write n l).2) ∧ ∃ S', RefI w' p S' (R.write n l).1 ∧ Chg S w w' ∧ ∀ b, S' b → S b ∨ w.heap.size ≤ b := by
    intro r hr e
    rw [e]
    exact (rwrite_no p S R R.begins n r l w h hf1 hf2 rfl hr).mono fun _ _ ⟨h1, h2, h3⟩ => ⟨h1, S, h2, h3, fun _ hb => .inl hb⟩
  cases ho : R.begins.off with
  | true => exact no 44 (.inl ⟨ho, rfl⟩) (by unfold RS.write; rw [ho]; simp)
  | false =>
    by_cases h1 : n < 0 ∨ R.firm.length ≤ n
    · exact no 2 (.inr (.inl ⟨ho, by rw [e1]; exact h1, rfl⟩)) (by unfold RS.write; rw [ho]; simp [h1])
    · by_cases h2 : R.room ≤ n
      · exact no 42 (.inr (.inr ⟨ho, by omega, by rw [e1]; omega, by rw [e3]; exact h2, rfl⟩)) (by unfold RS.write; rw [ho]; simp [h1, h2])
      · have e : R.write n l = ({ R.begins with loose := R.begins.loose ++ [(n, l)] }, 0) := by unfold RS.write; rw [ho]; simp [h1, h2]
        rw [e]
        exact rwrite_room p S R R.begins n l hl w h hf1 hf2 rfl ho (by omega) (by rw [e1]; omega) (by rw [e3]; omega) (by rw [e2]; exact hsz)

end Go.Proofs.Ythmjgcmaoniejaa
