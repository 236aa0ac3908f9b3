/- Disk: Write. -/
import Derived.Test.YtcgokafhkkmaoaaDkC
import Derived.Test.YtcgokafhkkmaoaaHoist2
namespace Go.Proofs.Ytcgokafhkkmaoaa
open Go.RowKit

attribute [-simp] Try.isAgg37 Try.sizeOf37 Try.typeInfo37

/-- Write: the disk behind it, the error. -/
def DS.write (D : DS) (n : Int) (l : List Int) : DS × Int :=
  if D.begins.2 = false then (D.begins.1, 44) else if n < 0 ∨ D.begins.1.blocks ≤ n then (D.begins.1, 2) else if D.begins.1.room ≤ n then (D.begins.1, 42)
  else ({ D.begins.1 with loose := D.begins.1.loose ++ [(n, l)] }, 0)

theorem info_write3 : (Try.prog.info? 67).map (fun i => (i.zero, i.size, i.bytes)) = some (some (.agg (wcells (0, noughts)).toArray), 257, 264) := by kernel_rfl
theorem wcells_one (x : Int × List Int) : ∀ u ∈ wcells x, u.oneCell' = true := by
  intro u hu
  rcases List.mem_cons.1 hu with rfl | hu
  · rfl
  · exact cu8_one _ u hu

theorem MapI.ne_own {P : Program} {k e : TypeId} {w : World} {m n size j : Nat} {f : Int → Option Value} {v : Value} {xs : List Value} (h : MapI P k w m n f) (ho : Own w e size v j xs) : v.ownBlock ≠ some m := by
  obtain ⟨D, ⟨es, clock, hm, _⟩, _⟩ := h
  rcases ho.2 with ⟨rfl, _⟩ | ⟨g, cap, cur, rfl, _, hg, _⟩
  · simp [Value.ownBlock]
  · intro e
    have e' : g = m := by simpa [Value.ownBlock] using e
    subst e'
    rw [hg] at hm
    injection hm with hm
    cases hm

theorem HoistK.load {P : Program} {ops : Array Oper} {S : World → Prop} {i : Nat} {r : List Nat} {a : Act} {K : Act → Prop} {o : Oper} (hi : ops[i]? = some o) (hw : Region.wanted o (yielded ops a.tmps) = true)
    (ty : TypeId) (x : Operand) (ho : o.op = .load ty x) (b off : Nat) (hx : a.eval x = .pointer (some ⟨b, off, none⟩)) (cs : List Value) (d : TypeDesc) (hS : ∀ w, S w → w.rangeAt b off cs)
    (hu : P.underlying ty = some d) (hd : d.isRow = true) (hinfo : (P.info? ty).map (·.size) = some cs.length) (h : HoistK P ops S r (a.put o.dst (.agg cs.toArray)) K) : HoistK P ops S (i :: r) a K :=
  ⟨o, _, hi, yieldsIf_load_mid hw ty x ho b off hx cs d hS hu hd hinfo, h⟩

theorem HoistK.build {P : Program} {ops : Array Oper} {S : World → Prop} {i : Nat} {r : List Nat} {a : Act} {K : Act → Prop} {o : Oper} (hi : ops[i]? = some o) (hw : Region.wanted o (yielded ops a.tmps) = true)
    (ty : TypeId) (parts : Array (Nat × Operand)) (ho : o.op = .build ty parts) (ps : Array (Nat × Value)) (hp : (parts.map fun (i, x) => (i, a.eval x)) = ps) (v : Value) (hb : ∀ w, (Instr.build ty ps).run P w = .ok v w) (h : HoistK P ops S r (a.put o.dst v) K) : HoistK P ops S (i :: r) a K :=
  ⟨o, v, hi, .inl ⟨hw, fun w _ => by
    unfold execOp
    simp only [ho, hp, Sem.run_bind, hb, Sem.run_pure, Result.andThen_ok]⟩, h⟩

theorem wp_row {P : Program} {op : Oper} {a : Act} {w w' : World} {K : Act → World → Prop} {Q : Exit → Act → World → Prop} (t : TypeId) (len : Nat) (parts : Array (Nat × Operand)) (ho : op.op = .buildSlice t len parts)
    (ps : Array (Nat × Value)) (hp : (parts.map fun (i, x) => (i, a.eval x)) = ps) (v : Value) (hb : (Instr.buildSlice t len ps).run P w = .ok v w') (h : K (a.put op.dst v) w') : op.wp P a w K Q := by
  unfold Oper.wp execOp
  simp only [ho, hp, Sem.run_bind, hb, Sem.run_pure, Result.andThen_ok]
  exact h

set_option maxHeartbeats 1000000 in
set_option maxRecDepth 100000 in
theorem write_room (p : Nat) (S : Nat → Prop) (D D' : DS) (n : Int) (l : List Int) (hl : l.length = 256) (w : World) (h : DiskI w p S D) (hf1 : -9223372036854775808 < D.fuse) (hf2 : D.fuse ≤ 9223372036854775807) (hb : D.begins = (D', true))
    (hn0 : 0 ≤ n) (hn1 : n < D'.blocks) (hn2 : n < D'.room) (hsz : (D'.loose.length + 1) * 264 ≤ 140737488355328) :
    Calls Try.prog 14 #[.pointer (some ⟨p, 0, none⟩), .int .i64 n, .agg (cu8 l).toArray] w fun e w' => e = .returned (.int .i64 0) ∧ ∃ S', DiskI w' p S' { D' with loose := D'.loose ++ [(n, l)] } ∧ Chg S w w' ∧ ∀ b, S' b → S b ∨ w.heap.size ≤ b := by
  have hlt : p < w.heap.size := h.2.1 p h.1
  have H := Lib.hid (begins_any p S D _ (h.alloc (.cells (cu8 l).toArray 37)) hf1 hf2)
  rw [hb] at H
  go_enter Try.func14, Try.ntmps14
  go_wp2_with (go_at_call 31; refine H.out.mono ?_; rintro e w1 ⟨rfl, h1, c1⟩
               obtain ⟨hSp, hS, m, v, hSm, hb1, ho1, hv1, hM1⟩ := h1
               obtain ⟨A, cap, rfl⟩ := ho1.form
               have hc := hb1.cell
               have hn0' : ¬ n < 0 := by omega
               have hn1' : ¬ D'.blocks ≤ n := by omega
               have hn2' : ¬ D'.room ≤ n := by omega)
  have hx1 : Blk w1 w.heap.size 37 (cu8 l).toArray := (Blk.new w _ _).chg c1 (fun hs => by have := H; have := h.2.1 _ hs; omega)
  have hbu := run_build_write n l hl
  have hrw := run_row_write (n, l) hl
  have hinfo : (Try.prog.info? 37).map (·.size) = some (cu8 l).length := by rw [cu8_length, hl]; exact (zero_of_info info_block).2
  refine wp_region_hoist [0, 1, 2, 3, 4, 5, 6, 7] [8, 9] [10, 11, 12] (fun w' => w'.cell? ⟨p, 5, none⟩ = some (.slice A D'.loose.length cap) ∧ w'.rangeAt w.heap.size 0 (cu8 l))
    (by kernel_rfl) (by kernel_rfl) (by kernel_rfl) (by kernel_rfl) (by kernel_rfl) (by kernel_rfl) ⟨hc 5, hx1.range⟩ ?_
  (iterate 6 (refine HoistK.yes (by rfl) (by rfl) ⟨?_, fun w hSw => ?_, ?_⟩; rotate_left; (· go_simp; try with_reducible rfl); simp only [Act.put, List.setIfInBounds_toArray, List.getElem_toArray, List.getElem_cons_succ, List.getElem_cons_zero]))
  refine HoistK.load (by rfl) (by rfl) 37 _ rfl w.heap.size 0 rfl (cu8 l) _ (fun w hw => hw.2) Try.underlying37 rfl hinfo ?_
  simp only [Act.put, List.setIfInBounds_toArray, List.getElem_toArray, List.getElem_cons_succ, List.getElem_cons_zero]
  refine HoistK.build (by rfl) (by rfl) 67 _ rfl #[(0, .int .i64 n), (1, .agg (cu8 l).toArray)] (by simp [Act.eval]) _ hbu ?_
  simp only [Act.put, List.setIfInBounds_toArray, List.getElem_toArray, List.getElem_cons_succ, List.getElem_cons_zero]
  refine HoistK.nil_ ?_
  simp only [opsAt, List.filterMap_cons, List.filterMap_nil, List.getElem?_toArray, List.getElem?_cons_succ, List.getElem?_cons_zero]
  refine Effects.cons_ fun _ hQ1 => ?_
  go_wp2_with fail
  refine wp_row 49 1 _ rfl #[(0, .agg (wcells (n, l)).toArray)] (by simp [Act.eval]) _ (hrw _) ?_
  go_wp2_with fail
  have hf := hb1.frozen
  have hb2 := (hb1.alloc (.cells (wcells (n, l)).toArray 67)).drew
  have ho2 : Own (w1.alloc (.cells (wcells (n, l)).toArray 67)).drew _ _ _ _ _ := (Own.drew (w := w1.alloc (.cells (wcells (n, l)).toArray 67)) (ho1.alloc _))
  have hM2 := hM1.keep (w' := (w1.alloc (.cells (wcells (n, l)).toArray 67)).drew) (Below.heap_alloc w1 _ m hM1.lt)
  have hx2 := (hx1.alloc (.cells (wcells (n, l)).toArray 67)).drew
  have hne1 : (Value.slice A D'.loose.length cap).ownBlock ≠ some p := own_blk_ne ho1 hb1 (by decide)
  have hne2 : (Value.slice A D'.loose.length cap).ownBlock ≠ some w.heap.size := own_blk_ne ho1 hx1 (by decide)
  have hch2 := ((Chg.refl (fun _ => False) w1).alloc (.cells (wcells (n, l)).toArray 67)).drew
  have hnew : Cs _ _ 257 _ 1 (wcells (n, l)) := (Cs.of_new' w1 67 1 (by simpa using wcells_size (n, l) hl) (by decide) (0, 0)).drew
  refine hQ1 _ _ ⟨hb2.cell 5, hx2.range⟩ (Effects.cons_ fun _ hQ2 => ?_)
  clear hQ1
  go_wp2_with (at_builtin; refine wpList_app _ rfl _ _ _ rfl Try.underlying49 info_write3 (wcells_size _ (by rw [noughts, List.length_replicate])) (by decide) ho2 rfl hnew rfl (wcells_one _) (by simp only [maxLen]; omega) (by omega) ?_; intro v2 w2 ho3 hg3 hnil3 hat3)
  have hb3 := hb2.chg hg3 hne1
  have hx3 := hx2.chg hg3 hne2
  have hM3 := hM2.chg hg3 (hM1.ne_own ho1)
  obtain ⟨A2, cap2, rfl⟩ := ho3.form
  refine hQ2 _ _ ⟨hb3.cell 5, hx3.range⟩ (Effects.nil_ fun _ hQ3 => ?_)
  clear hQ2
  have hc3 := hb3.cell
  have hf3 := hb3.frozen
  go_wp2
  go_ret
  have hcf : Chg (fun b => b = p ∨ (Value.slice A D'.loose.length cap).ownBlock = some b) w1 (w2.setCell ⟨p, 5, none⟩ (.slice A2 (D'.loose.length + 1) cap2)) :=
    ((hch2.mono (fun _ h => h.elim)).trans (hg3.mono (fun _ h => .inr h)) (fun _ h => .inl h)).setOf (.inl rfl) 5 _
  have hs3 := hg3.size
  have hsc := c1.size
  simp only [World.size_alloc, World.size_drew] at hs3 hsc
  refine ⟨rfl, fun b => S b ∨ (w.heap.size ≤ b ∧ b < w2.heap.size), ⟨.inl hSp, ?_, m, .slice A2 (D'.loose.length + 1) cap2, .inl hSm, hb3.set_ 5 _, ?_, ?_, ?_⟩, ?_, fun b hb => hb.elim .inl (fun h => .inr h.1)⟩
  · rintro b (hb | hb)
    · have := hS b hb; simp only [World.size_setCell]; omega
    · simpa using hb.2
  · simp only [List.length_append, List.length_singleton]
    rw [show flatW (D'.loose ++ [(n, l)]) = flatW D'.loose ++ wcells (n, l) by simp [flatW]]
    exact own_keep ho3 (fun k hk => Below.heap_setCell _ _ _ _ (fun e => own_blk_ne ho3 hb3 (by decide) (by rw [hk, e])))
  · intro k hk
    have hk3 := own_lt ho3 hk
    rcases hat3 with e | e <;> rw [e] at hk
    · exact .inl (hv1 k hk)
    · refine .inr ⟨?_, hk3⟩
      simp only [World.size_alloc, World.size_drew, Option.some.injEq] at hk
      omega
  · exact hM3.keep (Below.heap_setCell _ _ _ _ (fun e => hM3.ne_blk hb3 e))
  · exact ((((Chg.refl S w).alloc _).trans c1 (fun _ h => .inl h)).trans hcf (fun b hb => .inl (hb.elim (fun e => e ▸ hSp) (hv1 b))))

end Go.Proofs.Ytcgokafhkkmaoaa
