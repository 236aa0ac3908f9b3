/- Disk: Up. -/
import Derived.Test.YtcgokafhkkmaoaaDkH
namespace Go.Proofs.Ytcgokafhkkmaoaa
open Go.RowKit Go.Maps

attribute [-simp] Try.isAgg37 Try.sizeOf37 Try.typeInfo37 Try.isAgg67 Try.sizeOf67 Try.typeInfo67

/-- The writes that are kept. -/
def keptOf (l : List (Int × List Int)) (keep : List Bool) : List (Int × List Int) := l.zipIdx.filterMap fun x => if keep[x.2]? = some true then some x.1 else none
theorem keptOf_succ (l : List (Int × List Int)) (keep : List Bool) {j : Nat} (hj : j < l.length) : keptOf (l.take (j + 1)) keep = keptOf (l.take j) keep ++ if keep[j]? = some true then [l[j]] else [] := by
  unfold keptOf
  rw [List.take_succ_eq_append_getElem hj, List.zipIdx_append, List.filterMap_append]
  congr 1
  simp only [List.length_take, Nat.min_eq_left (Nat.le_of_lt hj), List.zipIdx_cons, List.zipIdx_nil, List.filterMap_cons, List.filterMap_nil, Nat.zero_add]
  by_cases h : keep[j]? = some true <;> simp [h]
theorem keptOf_mem {l : List (Int × List Int)} {keep : List Bool} {x : Int × List Int} (h : x ∈ keptOf l keep) : x ∈ l := by
  unfold keptOf at h
  obtain ⟨y, hy, e⟩ := List.mem_filterMap.1 h
  split at e
  · injection e with e
    subst e
    have := List.mem_zipIdx' hy
    rw [this.2]
    exact List.getElem_mem _
  · cases e
theorem keptOf_length (l : List (Int × List Int)) (keep : List Bool) : (keptOf l keep).length ≤ l.length := by
  unfold keptOf
  exact Nat.le_trans (List.length_filterMap_le _ _) (by simp)
def bools (keep : List Bool) : List Value := keep.map .bool

/-- One that is kept comes up: the i-th of n. -/
def upStep (torn : Int) (n : Nat) (f : Int → Option (List Int)) (x : (Int × List Int) × Nat) : Int → Option (List Int) :=
  putF f (x.1.1, if x.2 + 1 = n ∧ 0 ≤ torn ∧ torn < 256 then x.1.2.take torn.toNat ++ ((f x.1.1).getD noughts).drop torn.toNat else x.1.2)
def DS.up (D : DS) (keep : List Bool) (torn : Int) : DS :=
  { D with firm := (keptOf D.loose keep).zipIdx.foldl (upStep torn (keptOf D.loose keep).length) D.firm, loose := [], down := false, fuse := -1, entries := D.entries + D.loose.length }

def OkF (f : Int → Option (List Int)) : Prop := ∀ i l, f i = some l → l.length = 256
theorem OkF.put {f : Int → Option (List Int)} (h : OkF f) {x : Int × List Int} (hx : x.2.length = 256) : OkF (putF f x) := by
  intro i l e
  unfold putF at e
  split at e
  · injection e with e; rw [← e]; exact hx
  · exact h i l e
theorem OkF.got {f : Int → Option (List Int)} (h : OkF f) (i : Int) : ((f i).getD noughts).length = 256 := by
  cases e : f i with
  | none => rw [Option.getD_none, noughts, List.length_replicate]
  | some l => exact h i l e
theorem OkF.up {f : Int → Option (List Int)} (h : OkF f) (torn : Int) (n : Nat) {x : (Int × List Int) × Nat} (hx : x.1.2.length = 256) : OkF (upStep torn n f x) := by
  unfold upStep
  refine h.put ?_
  have := h.got x.1.1
  split
  · simp only [List.length_append, List.length_take, List.length_drop, hx, this]; omega
  · exact hx
theorem OkF.ups (torn : Int) (n : Nat) : ∀ (l : List ((Int × List Int) × Nat)) (f : Int → Option (List Int)), OkF f → (∀ x ∈ l, x.1.2.length = 256) → OkF (l.foldl (upStep torn n) f)
  | [], _, h, _ => h
  | x :: r, _, h, hl => OkF.ups torn n r _ (h.up torn n (hl x (List.mem_cons_self ..))) fun y hy => hl y (List.mem_cons_of_mem _ hy)
theorem Blk.setCells {b : Nat} {t : TypeId} : ∀ (xs : List Value) (o : Nat) (w : World) (cs : List Value), Blk w b t cs.toArray → o + xs.length ≤ cs.length → Blk (w.setCells b o xs) b t (cs.take o ++ xs ++ cs.drop (o + xs.length)).toArray
  | [], o, w, cs, h, _ => by simpa [World.setCells] using h
  | v :: r, o, w, cs, h, hl => by
    simp only [List.length_cons] at hl
    have h1 := h.set_ o v
    rw [List.setIfInBounds_toArray] at h1
    have := Blk.setCells r (o + 1) _ _ h1 (by simp; omega)
    rw [World.setCells]
    rw [list_seg_step cs o v r (by omega)] at this
    exact this

theorem wpList_copy {P : Program} (w : World) {ops : Array Oper} {rest : List Oper} {o : Oper} {a : Act} {Q : Exit → Act → World → Prop} (hgd : o.guard = none) (d s : Operand) (t t' : TypeId)
    (ho : o.op = .call { callee := .builtin .copy, args := #[d, s], argTypes := #[t, t'] }) (v u : Value) (hd : a.eval d = v) (hs : a.eval s = u) {v' : Value} {w' : World}
    (hr : (Builtin.copy_ #[t, t'] o.type #[v, u]).run P w = .ok v' w') (h : wpList P ops Q rest (a.put o.dst v') w') : wpList P ops Q (o :: rest) a w :=
  wpList_plain hgd fun _ hK => by
    unfold Oper.wp execOp
    simp only [ho, resolve, invoke, builtin, Sem.run_bind, Sem.run_pure, Result.andThen_ok, List.map_toArray, List.map_cons, List.map_nil, hd, hs, hr]
    exact hK _ _ h

theorem alen_block : Try.prog.arrayLen 37 = 256 := by kernel_rfl
theorem elem_block : Try.prog.elem 37 = 5 := by kernel_rfl
theorem und_block : Try.prog.underlying 37 = some (.array (Try.prog.arrayLen 37) (Try.prog.elem 37)) := by rw [alen_block, elem_block]; exact Try.underlying37
theorem run_cut_block (w : World) (b off k : Nat) (h : k ≤ 256) : (Instr.sliceAt 37 (.pointer (some ⟨b, off, none⟩)) none (some (.int .i64 k)) none).run Try.prog w = .ok (.slice (some ⟨b, off, none⟩) k 256) w := by
  rw [run_sliceAt_array_h w _ _ und_block .i64 k (by omega) (by rw [alen_block]; omega), alen_block, elem_block]
  simp [Try.sizeOf5, Result.andThen, slicedAt, Addr.add]
theorem run_all_block (w : World) (b off : Nat) : (Instr.sliceAt 37 (.pointer (some ⟨b, off, none⟩)) none none none).run Try.prog w = .ok (.slice (some ⟨b, off, none⟩) 256 256) w := by
  rw [run_sliceAt_array_all w _ _ und_block, alen_block, elem_block]
  simp [Try.sizeOf5, Result.andThen, slicedAt, Addr.add]

theorem wpList_row {P : Program} {ops : Array Oper} {rest : List Oper} {op : Oper} {a : Act} {w w' : World} {Q : Exit → Act → World → Prop} (hgd : op.guard = none) (t : TypeId) (len : Nat) (parts : Array (Nat × Operand)) (ho : op.op = .buildSlice t len parts)
    (ps : Array (Nat × Value)) (hp : (parts.map fun (i, x) => (i, a.eval x)) = ps) (v : Value) (hb : (Instr.buildSlice t len ps).run P w = .ok v w') (h : wpList P ops Q rest (a.put op.dst v) w') : wpList P ops Q (op :: rest) a w :=
  wpList_plain hgd fun _ hK => wp_row t len parts ho ps hp v hb (hK _ _ h)

set_option maxHeartbeats 1000000 in
set_option maxRecDepth 100000 in
theorem up_any (p : Nat) (S T : Nat → Prop) (D : DS) (keep : List Bool) (torn : Int) (v : Value) (w : World) (h : DiskI w p S D) (hok : D.Ok) (hkeep : Cs w T 1 v keep.length (bools keep))
    (hw : ∀ x ∈ D.loose, (Lit.int .i64 x.1).wf = true) (hn : D.entries + D.loose.length < maxLen) (hlen : D.loose.length * 264 ≤ 140737488355328) :
    Calls Try.prog 19 #[.pointer (some ⟨p, 0, none⟩), v, .int .i64 torn] w fun e w' => e = .returned (.tuple #[]) ∧ DiskI w' p S (D.up keep torn) ∧ Chg S w w' := by
  obtain ⟨hSp, hS, m, vl, hSm, hb0, ho0, hv0, hM0⟩ := h
  obtain ⟨A, cap, rfl⟩ := ho0.form
  obtain ⟨Ak, capk, rfl⟩ := hkeep.form
  have hc := hb0.cell
  go_enter Try.func19, Try.ntmps19
  go_wp2
  clear hc
  go_loopw [6, 17] (fun u6 i wr => ∃ j : Nat, j ≤ D.loose.length ∧ i = .int .i64 j ∧ Own wr 67 257 u6 (keptOf (D.loose.take j) keep).length (flatW (keptOf (D.loose.take j) keep)) ∧ (∀ k, u6.ownBlock = some k → w.heap.size ≤ k) ∧ Chg (fun _ => False) w wr) (fun _ i _ => D.loose.length - (intOf i).toNat)
  case atStart => exact ⟨0, Nat.zero_le _, rfl, Own.nil_ _ _ _, fun k hk => by simp [Value.ownBlock] at hk, Chg.refl _ _⟩
  case round =>
    obtain ⟨j, hj, rfl, hor, hvr, hch⟩ := hrel
    by_cases hjl : j < D.loose.length
    · have ho1 := own_keep ho0 (fun k hk => hch.block k (own_lt ho0 hk) (fun h => h))
      have hk1 := hkeep.chg hch (fun _ _ h => h)
      obtain ⟨b, off, rfl, _, hbl, hrng⟩ := writes_at (Cs.of_own ho1 (S := S) hv0) hok.1 hjl
      have hxl : (wcells D.loose[j]).length = 257 := by simp [wcells, cu8_length, hok.1 _ (List.getElem_mem hjl)]
      have hlc : (loadCellsFrom ⟨b, off + j * 257, none⟩ 0 257 #[]).run Try.prog wr = .ok (wcells D.loose[j]).toArray wr := by
        have := run_loadCells_list (P := Try.prog) wr ⟨b, off + j * 257, none⟩ (wcells D.loose[j]) (fun i v hv => by rw [Addr.add_mid]; exact hrng i v hv)
        rw [hxl] at this
        exact this
      obtain ⟨Z, hZ⟩ : ∃ Z, Z = (wcells (0, noughts)).toArray := ⟨_, rfl⟩
      have hz := (zero_of_info info_write2).1
      rw [← hZ] at hz
      have hZs : Z.size = 257 := by rw [hZ]; exact wcells_size _ (by rw [noughts, List.length_replicate])
      obtain ⟨c, hcx⟩ : ∃ c, c = (wcells D.loose[j]).toArray := ⟨_, rfl⟩
      have hcs : c.size = 257 := by rw [hcx]; exact hxl
      have hc1 : c.all (·.oneCell') = true := by rw [hcx]; exact all_oneCell_toArray (wcells_one _)
      have hst := run_storeCells_new (P := Try.prog) wr 67 Z c (by rw [hcs]; exact (zero_of_info info_write2).2) (by rw [hZs, hcs]) hc1
      rw [← hcx] at hlc
      clear hZ hc1 hZs
      have Hcx := Lib.hid hcx; clear hcx
      have hKs := keptOf_succ D.loose keep hjl
      have hor2 := hor.alloc (.cells c 67)
      have hb2 := Blk.new wr 67 c
      by_cases hjk : j < keep.length
      · obtain ⟨_, _, _, hke, _, _, hkp⟩ := hk1
        obtain ⟨bk, offk, hAk, _, hbk, hkc⟩ := hkp (by omega)
        injection hke with hke _ hcap
        subst hke hAk hcap
        have hkj : (wr.alloc (.cells c 67)).cell? ⟨bk, offk + j, none⟩ = some (.bool keep[j]) := (World.cell?_of_block (a := ⟨bk, offk + j, none⟩) (Below.heap_alloc wr _ bk hbk)).trans (hkc j _ (by simp [bools, hjk]))
        clear hkc hkp
        have e1 : keep[j]? = some keep[j] := List.getElem?_eq_getElem hjk
        cases hkb : keep[j]
        · rw [hkb] at hkj e1
          rw [if_neg (by rw [e1]; simp), List.append_nil] at hKs
          go_wp2
          simp only [Try.sizeOf67, Result.andThen]
          rw [Oper.upon_value]
          go_wp2
          simp only [Try.isAgg67, Try.sizeOf67, Result.andThen, ↓reduceIte, hlc]
          rw [Oper.upon_value]
          clear hlc
          go_wp2
          simp only [Try.sizeOf67, Result.andThen, ↓reduceIte, hst]
          rw [Oper.upon_skip]
          clear hst hz hcs
          go_wp2
          rw [← hKs] at hor2
          exact ⟨⟨j + 1, by omega, by go_num, hor2, hvr, hch.alloc _⟩, by simp [intOf]; omega⟩
        · rw [hkb] at hkj e1
          rw [if_pos e1] at hKs
          obtain ⟨A6, cap6, rfl⟩ := hor.form
          go_wp2
          simp only [Try.sizeOf67, Result.andThen]
          rw [Oper.upon_value]
          go_wp2
          simp only [Try.isAgg67, Try.sizeOf67, Result.andThen, ↓reduceIte, hlc]
          rw [Oper.upon_value]
          clear hlc
          go_wp2
          simp only [Try.sizeOf67, Result.andThen, ↓reduceIte, hst]
          rw [Oper.upon_skip]
          clear hst hz
          have hlc2 : (loadCellsFrom ⟨wr.heap.size, 0, none⟩ 0 257 #[]).run Try.prog (wr.alloc (.cells c 67)) = .ok (wcells D.loose[j]).toArray (wr.alloc (.cells c 67)) := by
            have := run_loadCells_list (P := Try.prog) (wr.alloc (.cells c 67)) ⟨wr.heap.size, 0, none⟩ (wcells D.loose[j]) (fun i v hv => by rw [Addr.add_mid, hb2.cell, Hcx.out]; simpa using hv)
            rw [hxl] at this
            exact this
          have hrw := run_row_write D.loose[j] (hok.1 _ (List.getElem_mem hjl)) (wr.alloc (.cells c 67))
          go_wp2
          simp only [Try.isAgg67, Try.sizeOf67, Result.andThen, ↓reduceIte, hlc2]
          rw [Oper.upon_value]
          clear hlc2
          rename_i hK9
          refine hK9 _ _ (wpList_row rfl 49 1 _ rfl #[(0, .agg (wcells D.loose[j]).toArray)] (by simp [Act.eval, Act.put]) _ hrw ?_)
          clear hK9
          have hor3 := hor2.alloc (.cells (wcells D.loose[j]).toArray 67)
          have hnew : Cs _ _ 257 _ 1 (wcells D.loose[j]) := Cs.of_new' (wr.alloc (.cells c 67)) 67 1 (by rw [hxl]) (by decide) (0, 0)
          have hkl := keptOf_length (D.loose.take j) keep
          rw [List.length_take] at hkl
          go_wp2_with (at_builtin; refine wpList_app _ rfl _ _ _ rfl Try.underlying49 info_write3 (wcells_size _ (by rw [noughts, List.length_replicate])) (by decide) hor3 rfl hnew rfl (wcells_one _) (by simp only [maxLen]; omega) (by omega) ?_; intro v2 w2 ho3 hg3 hnil3 hat3)
          refine ⟨⟨j + 1, by omega, by go_num, ?_, ?_, ?_⟩, by simp [intOf]; omega⟩
          · rw [hKs, List.length_append, show flatW (keptOf (D.loose.take j) keep ++ [D.loose[j]]) = flatW (keptOf (D.loose.take j) keep) ++ wcells D.loose[j] by simp [flatW]]
            exact ho3
          · intro k hk
            rcases hat3 with e | e <;> rw [e] at hk
            · exact hvr k hk
            · have := hch.size
              simp only [World.size_alloc, Option.some.injEq] at hk
              omega
          · exact ((hch.alloc _).alloc _).trans hg3 (fun b hb => .inr (hvr b hb))
      · rw [if_neg (by rw [List.getElem?_eq_none (by omega)]; simp), List.append_nil] at hKs
        go_wp2
        simp only [Try.sizeOf67, Result.andThen]
        rw [Oper.upon_value]
        go_wp2
        simp only [Try.isAgg67, Try.sizeOf67, Result.andThen, ↓reduceIte, hlc]
        rw [Oper.upon_value]
        clear hlc
        go_wp2
        simp only [Try.sizeOf67, Result.andThen, ↓reduceIte, hst]
        rw [Oper.upon_skip]
        clear hst hz hcs
        go_wp2
        rw [← hKs] at hor2
        exact ⟨⟨j + 1, by omega, by go_num, hor2, hvr, hch.alloc _⟩, by simp [intOf]; omega⟩
    · obtain rfl : j = D.loose.length := by omega
      rw [List.take_length] at hor
      obtain ⟨K, hK⟩ : ∃ K, K = keptOf D.loose keep := ⟨_, rfl⟩
      rw [← hK] at hor
      obtain ⟨A6, cap6, rfl⟩ := hor.form
      have HK := Lib.hid hK; clear hK
      have hKl : K.length ≤ D.loose.length := by rw [HK.out]; exact keptOf_length _ _
      have hK2 : ∀ x ∈ K, x.2.length = 256 := fun x hx => hok.1 x (keptOf_mem (by rw [← HK.out]; exact hx))
      have hKw : ∀ x ∈ K, (Lit.int .i64 x.1).wf = true := fun x hx => hw x (keptOf_mem (by rw [← HK.out]; exact hx))
      have hb1 := hb0.chg hch (fun h => h)
      have hM1 := hM0.chg hch (fun h => h)
      have hS1 : ∀ b, S b → b < wr.heap.size := fun b hb => Nat.lt_of_lt_of_le (hS b hb) hch.size
      have hne6 : ∀ k, (Value.slice A6 K.length cap6).ownBlock = some k → k ≠ m := fun k hk e => by have := hvr k hk; have := hS m hSm; omega
      clear hkeep ho0 hv0 hb0 hM0
      go_wp2
      go_loopw [39] (fun i wq => ∃ j : Nat, j ≤ K.length ∧ i = .int .i64 j ∧ Blk wq p 51 #[.int .i64 D.blocks, .int .i64 D.room, .int .i64 D.fuse, .bool D.down, .map (some m), .slice A D.loose.length cap] ∧
        Own wq 67 257 (.slice A6 K.length cap6) K.length (flatW K) ∧ MapI Try.prog 3 wq m (D.entries + j) (fun i => ((K.zipIdx.take j).foldl (upStep torn K.length) D.firm i).map fun l => .agg (cu8 l).toArray) ∧ Chg (fun b => b = m) wr wq) (fun i _ => K.length - (intOf i).toNat)
      case atStart => exact ⟨0, Nat.zero_le _, rfl, hb1, hor, hM1, Chg.refl _ _⟩
      case round =>
        obtain ⟨j, hj, rfl, hbq, hoq, hMq, hcq⟩ := hrel
        by_cases hjl : j < K.length
        · obtain ⟨b, off, rfl, _, hbl, hrng⟩ := writes_at (Cs.of_own hoq (S := fun _ => True) (fun _ _ => trivial)) hK2 hjl
          obtain ⟨n, l, hxe⟩ : ∃ n l, K[j] = (n, l) := ⟨_, _, rfl⟩
          have hmem := List.getElem_mem hjl
          have hl := hK2 _ hmem
          have hwn := hKw _ hmem
          simp only [hxe] at hl hwn hrng
          have hsn : upStep torn K.length ((K.zipIdx.take j).foldl (upStep torn K.length) D.firm) ((n, l), j) = (K.zipIdx.take (j + 1)).foldl (upStep torn K.length) D.firm := by
            rw [List.take_succ_eq_append_getElem (by simpa using hjl), List.foldl_append]
            simp [hxe]
          have HSN := Lib.hid hsn; clear hsn
          obtain ⟨F, hF⟩ : ∃ F, F = (K.zipIdx.take j).foldl (upStep torn K.length) D.firm := ⟨_, rfl⟩
          rw [← hF] at hMq HSN
          have HF := Lib.hid hF; clear hF
          have hlc : (loadCellsFrom ⟨b, off + j * 257, none⟩ 0 257 #[]).run Try.prog wr = .ok (wcells (n, l)).toArray wr := by
            have := run_loadCells_list (P := Try.prog) wr ⟨b, off + j * 257, none⟩ (wcells (n, l)) (fun i v hv => by rw [Addr.add_mid]; exact hrng i v hv)
            rw [show (wcells (n, l)).length = 257 by simp [wcells, cu8_length, hl]] at this
            exact this
          obtain ⟨Z, hZ⟩ : ∃ Z, Z = (wcells (0, noughts)).toArray := ⟨_, rfl⟩
          have hz := (zero_of_info info_write2).1
          rw [← hZ] at hz
          have hZs : Z.size = 257 := by rw [hZ]; exact wcells_size _ (by rw [noughts, List.length_replicate])
          obtain ⟨Y, hY⟩ : ∃ Y, Y = (cu8 noughts).toArray := ⟨_, rfl⟩
          have hy := (zero_of_info info_block).1
          have hys := (zero_of_info info_block).2
          rw [← hY] at hy
          have hYs : Y.size = 256 := by rw [hY, List.size_toArray, cu8_length, noughts, List.length_replicate]
          obtain ⟨c, hcx⟩ : ∃ c, c = (wcells (n, l)).toArray := ⟨_, rfl⟩
          have hcs : c.size = 257 := by rw [hcx]; exact wcells_size _ hl
          have hc1 : c.all (·.oneCell') = true := by rw [hcx]; exact all_oneCell_toArray (wcells_one _)
          have hst := run_storeCells_new (P := Try.prog) wr 67 Z c (by rw [hcs]; exact (zero_of_info info_write2).2) (by rw [hZs, hcs]) hc1
          have hst2 := run_storeCells_new (P := Try.prog) (wr.alloc (.cells c 67)) 37 Y (cu8 l).toArray (by rw [List.size_toArray, cu8_length, hl]; exact hys) (by rw [hYs, List.size_toArray, cu8_length, hl]) (all_oneCell_toArray (cu8_one _))
          rw [World.size_alloc] at hst2
          rw [← hcx] at hlc
          have hb2 := Blk.new wr 67 c
          have hlc2 : (loadCellsFrom ⟨wr.heap.size, 1, none⟩ 0 256 #[]).run Try.prog (wr.alloc (.cells c 67)) = .ok (cu8 l).toArray (wr.alloc (.cells c 67)) := by
            have := run_loadCells_list (P := Try.prog) (wr.alloc (.cells c 67)) ⟨wr.heap.size, 1, none⟩ (cu8 l) (fun i v hv => by rw [Addr.add_mid, hb2.cell, hcx, Nat.add_comm]; simpa [wcells] using hv)
            rw [cu8_length, hl] at this
            exact this
          have hls : (cu8 l).toArray.size = 256 := by rw [List.size_toArray, cu8_length, hl]
          have HY := Lib.hid hY
          clear hZ hc1 hZs hY hys hYs
          have Hcx := Lib.hid hcx; clear hcx
          by_cases hT : j + 1 = K.length ∧ 0 ≤ torn ∧ torn < 256
          · obtain ⟨hT1, hT2, hT3⟩ := hT
            obtain ⟨tk, rfl⟩ := Int.eq_ofNat_of_zero_le hT2
            have hOkF : OkF F := by
              rw [HF.out]
              exact OkF.ups _ _ _ _ hok.2 (fun x hx => by
                obtain ⟨i, hi, e⟩ := List.getElem_of_mem (List.mem_of_mem_take hx)
                rw [← e, List.getElem_zipIdx]
                exact hK2 _ (List.getElem_mem _))
            have hol := hOkF.got n
            obtain ⟨old, hold⟩ : ∃ old, old = (F n).getD noughts := ⟨_, rfl⟩
            rw [← hold] at hol
            have hup : upStep tk K.length F ((n, l), j) = putF F (n, l.take tk ++ old.drop tk) := by
              unfold upStep
              rw [if_pos ⟨hT1, hT2, hT3⟩, hold]
              rfl
            have hlook : ((F n).map fun l => Value.agg (cu8 l).toArray).getD (.agg Y) = .agg (cu8 old).toArray := by
              rw [hold, HY.out]
              cases F n <;> rfl
            have hgl : (l.take tk ++ old.drop tk).length = 256 := by simp only [List.length_append, List.length_take, List.length_drop, hl, hol]; omega
            have Hold := Lib.hid hold; clear hold
            go_wp2
            simp only [Try.sizeOf67, Result.andThen]
            rw [Oper.upon_value]
            go_wp2
            simp only [Try.isAgg67, Try.sizeOf67, Result.andThen, ↓reduceIte, hlc]
            rw [Oper.upon_value]
            clear hlc
            go_wp2
            simp only [Try.sizeOf67, Result.andThen, ↓reduceIte, hst]
            rw [Oper.upon_skip]
            clear hst hz hcs
            go_wp2
            simp only [Try.sizeOf37, Result.andThen]
            rw [if_neg (by decide), Oper.upon_value]
            go_wp2
            simp only [Try.isAgg37, Try.sizeOf37, Result.andThen, ↓reduceIte, hlc2]
            rw [Oper.upon_value]
            clear hlc2
            go_wp2
            simp only [Try.sizeOf37, Result.andThen, ↓reduceIte, hst2]
            rw [Oper.upon_skip]
            clear hst2 hls
            go_wp2
            refine at_world (fun W => Blk W p 51 #[.int .i64 D.blocks, .int .i64 D.room, .int .i64 D.fuse, .bool D.down, .map (some m), .slice A D.loose.length cap] ∧ Blk W wr.heap.size 67 c ∧ Blk W (wr.heap.size + 1) 37 (cu8 l).toArray ∧
              Own W 67 257 (.slice (some ⟨b, off, none⟩) K.length cap6) K.length (flatW K) ∧ MapI Try.prog 3 W m (D.entries + j) (fun i => (F i).map fun l => .agg (cu8 l).toArray) ∧ Chg (fun b => b = m) wr W) ⟨(hbq.alloc _).alloc _, hb2.alloc _, (by have := Blk.new (wr.alloc (.cells c 67)) 37 (cu8 l).toArray; rwa [World.size_alloc] at this), (hoq.alloc _).alloc _, (hMq.alloc _).alloc _, ((Chg.refl _ wr).alloc _).alloc _⟩ ?_
            rintro W ⟨hb3, hb4, hb5, ho3, hM3, hc3⟩
            have hb4c : W.cell? ⟨wr.heap.size, 0, none⟩ = some (.int .i64 n) := by rw [hb4.cell, Hcx.out]; rfl
            refine wp_region_hoist [0, 1, 2, 3, 4, 5, 6] [7] [] (fun w' => w'.cell? ⟨p, 4, none⟩ = some (.map (some m)) ∧ w'.cell? ⟨wr.heap.size, 0, none⟩ = some (.int .i64 n) ∧ MapI Try.prog 3 w' m (D.entries + j) (fun i => (F i).map fun l => .agg (cu8 l).toArray))
              (by kernel_rfl) (by kernel_rfl) (by kernel_rfl) (by kernel_rfl) (by kernel_rfl) (by kernel_rfl) ⟨hb3.cell 4, hb4c, hM3.keep rfl⟩ ?_
            (iterate 6 (refine HoistK.yes (by rfl) (by rfl) ⟨?_, fun w hSw => ?_, ?_⟩; rotate_left; (· go_simp; try with_reducible rfl); simp only [Act.put, List.setIfInBounds_toArray, List.getElem_toArray, List.getElem_cons_succ, List.getElem_cons_zero]))
            refine HoistK.yes (by rfl) (by rfl) ⟨.agg (cu8 old).toArray, fun w hSw => ?_, ?_⟩
            · have hlk := hSw.2.2.lookup (t := 48) Try.underlying3 Try.underlying48 (hy _) hwn
              rw [hlook] at hlk
              go_simp
            simp only [Act.put, List.setIfInBounds_toArray, List.getElem_toArray, List.getElem_cons_succ, List.getElem_cons_zero]
            refine HoistK.nil_ ?_
            simp only [opsAt, List.filterMap_cons, List.filterMap_nil, List.getElem?_toArray, List.getElem?_cons_succ, List.getElem?_cons_zero]
            refine Effects.cons_ fun _ hQ1 => ?_
            have hst3 : (storeCells ⟨wr.heap.size + 1, 0, none⟩ (cu8 old) 0).run Try.prog W.drew = .ok () (W.drew.setCells (wr.heap.size + 1) 0 (cu8 old)) :=
              run_storeCells_cells (P := Try.prog) (wr.heap.size + 1) 0 (cu8 old) 0 W.drew (fun j hj => by rw [hb5.drew.cell]; simp only [Nat.zero_add]; rw [cu8_length, hol] at hj; simp [cu8_length, hl, hj]) (fun j hj => hb5.drew.frozen _) (cu8_one _)
            have hos : (cu8 old).toArray.size = 256 := by rw [List.size_toArray, cu8_length, hol]
            go_wp2
            simp only [Try.sizeOf37, Result.andThen, ↓reduceIte, hst3]
            rw [Oper.upon_skip]
            clear hst3
            have hsc := Blk.setCells (cu8 old) 0 W.drew (cu8 l) hb5.drew (by simp only [cu8_length]; omega)
            have hch5 := Chg.setCells (M := fun b => b = wr.heap.size + 1) (.inl rfl) (cu8 old) 0 _ (Chg.refl (fun b => b = wr.heap.size + 1) W.drew)
            have hmlt := hMq.lt
            have hplt := hbq.lt
            have holt := fun k (hk : (Value.slice (some ⟨b, off, none⟩) K.length cap6).ownBlock = some k) => own_lt hoq hk
            have hb3' := hb3.drew.chg hch5 (fun (e : p = wr.heap.size + 1) => by omega)
            have hb4' := hb4.drew.chg hch5 (fun (e : wr.heap.size = wr.heap.size + 1) => by omega)
            have ho3' := own_keep ho3.drew (fun k hk => hch5.block k (own_lt ho3.drew hk) (fun (e : k = wr.heap.size + 1) => by have := holt k hk; omega))
            have hM3' := (hM3.keep (w' := W.drew) rfl).chg hch5 (fun (e : m = wr.heap.size + 1) => by omega)
            have hc3' : Chg (fun b => b = m) wr _ := hc3.drew.trans hch5 (fun b (e : b = wr.heap.size + 1) => .inr (by omega))
            rw [show ((cu8 l).take 0 ++ cu8 old ++ (cu8 l).drop (0 + (cu8 old).length)) = cu8 old by rw [List.drop_of_length_le (by simp only [cu8_length]; omega)]; simp] at hsc
            go_wp2
            refine hQ1 _ _ ⟨hb3'.cell 4, by rw [hb4'.cell, Hcx.out]; rfl, hM3'⟩ (Effects.nil_ fun _ hQ2 => ?_)
            clear hQ1
            go_wp2
            refine at_world (fun W => Blk W p 51 #[.int .i64 D.blocks, .int .i64 D.room, .int .i64 D.fuse, .bool D.down, .map (some m), .slice A D.loose.length cap] ∧ Blk W wr.heap.size 67 c ∧ Blk W (wr.heap.size + 1) 37 (cu8 old).toArray ∧
              Own W 67 257 (.slice (some ⟨b, off, none⟩) K.length cap6) K.length (flatW K) ∧ MapI Try.prog 3 W m (D.entries + j) (fun i => (F i).map fun l => .agg (cu8 l).toArray) ∧ Chg (fun b => b = m) wr W) ⟨hb3', hb4', hsc, ho3', hM3', hc3'⟩ ?_
            clear hb3 hb4 hb5 ho3 hM3 hc3 hb3' hb4' hsc ho3' hM3' hc3' hch5 hb4c
            rintro W ⟨hb3, hb4, hb5, ho3, hM3, hc3⟩
            refine wp_region_hoist [0, 1, 2, 3] [4] [] (fun w' => True)
              (by kernel_rfl) (by kernel_rfl) (by kernel_rfl) (by kernel_rfl) (by kernel_rfl) (by kernel_rfl) trivial ?_
            refine HoistK.yes (by rfl) (by rfl) ⟨?_, fun w hSw => ?_, ?_⟩; rotate_left
            · go_simp
              try with_reducible rfl
            simp only [Act.put, List.setIfInBounds_toArray, List.getElem_toArray, List.getElem_cons_zero]
            refine HoistK.yes (by rfl) (by rfl) ⟨.slice (some ⟨wr.heap.size + 1, 0, none⟩) tk 256, fun w hSw => ?_, ?_⟩
            · have hcut := run_cut_block w (wr.heap.size + 1) 0 tk (by omega)
              go_simp
            simp only [Act.put, List.setIfInBounds_toArray, List.getElem_toArray, List.getElem_cons_succ, List.getElem_cons_zero]
            refine HoistK.yes (by rfl) (by rfl) ⟨.pointer (some ⟨wr.heap.size, 1, none⟩), fun w hSw => ?_, ?_⟩
            · go_simp
              simp only [Try.sizeOf37, Result.andThen]
              rw [if_neg (by decide)]
            simp only [Act.put, List.setIfInBounds_toArray, List.getElem_toArray, List.getElem_cons_succ, List.getElem_cons_zero]
            refine HoistK.yes (by rfl) (by rfl) ⟨.slice (some ⟨wr.heap.size, 1, none⟩) 256 256, fun w hSw => ?_, ?_⟩
            · have hcut := run_all_block w wr.heap.size 1
              go_simp
            simp only [Act.put, List.setIfInBounds_toArray, List.getElem_toArray, List.getElem_cons_succ, List.getElem_cons_zero]
            refine HoistK.nil_ ?_
            simp only [opsAt, List.filterMap_cons, List.filterMap_nil, List.getElem?_toArray, List.getElem?_cons_succ, List.getElem?_cons_zero]
            refine Effects.cons_ fun _ hQ1 => ?_
            have htl : (cu8 (l.take tk)).length = tk := by rw [cu8_length, List.length_take]; omega
            have hcp := fun ty => run_copy_cells (P := Try.prog) W.drew 32 32 ty 5 (wr.heap.size + 1) 0 tk 256 ⟨wr.heap.size, 1, none⟩ 256 256 (cu8 (l.take tk)) Try.underlying32 (by kernel_rfl) (by rw [htl]; exact (Nat.min_eq_right (by omega)).symm)
              (fun i v hv => by
                rw [Addr.add_mid, hb4.drew.cell, Hcx.out, Nat.add_comm]
                simp only [wcells, List.getElem?_toArray, List.getElem?_cons_succ]
                simp only [cu8, List.getElem?_map, List.getElem?_take] at hv ⊢
                split at hv
                · exact hv
                · cases hv)
              (fun i hi => by rw [hb5.drew.cell]; simp only [Nat.zero_add]; simp [cu8_length, hol]; omega) (fun i hi => hb5.drew.frozen _) (cu8_one _)
            rw [htl] at hcp
            refine wpList_copy W.drew rfl _ _ _ _ rfl _ _ rfl rfl (hcp _) ?_
            clear hcp
            have hsc := Blk.setCells (cu8 (l.take tk)) 0 W.drew (cu8 old) hb5.drew (by rw [htl, cu8_length, hol]; omega)
            rw [show ((cu8 old).take 0 ++ cu8 (l.take tk) ++ (cu8 old).drop (0 + (cu8 (l.take tk)).length)) = cu8 (l.take tk ++ old.drop tk) by rw [htl]; simp [cu8]] at hsc
            have hch5 := Chg.setCells (M := fun b => b = wr.heap.size + 1) (.inl rfl) (cu8 (l.take tk)) 0 _ (Chg.refl (fun b => b = wr.heap.size + 1) W.drew)
            have hb3' := hb3.drew.chg hch5 (fun (e : p = wr.heap.size + 1) => by omega)
            have hb4' := hb4.drew.chg hch5 (fun (e : wr.heap.size = wr.heap.size + 1) => by omega)
            have ho3' := own_keep ho3.drew (fun k hk => hch5.block k (own_lt ho3.drew hk) (fun (e : k = wr.heap.size + 1) => by have := holt k hk; omega))
            have hM3' := (hM3.keep (w' := W.drew) rfl).chg hch5 (fun (e : m = wr.heap.size + 1) => by omega)
            have hc3' : Chg (fun b => b = m) wr _ := hc3.drew.trans hch5 (fun b (e : b = wr.heap.size + 1) => .inr (by omega))
            have hlt' := hsc.lt
            have hr' := hsc.range
            clear hol hb3 hb4 hb5 ho3 hM3 hc3 hsc hch5
            go_wp2
            refine hQ1 _ _ trivial (Effects.nil_ fun _ hQ2 => ?_)
            clear hQ1
            go_wp2
            refine at_world (fun W => Blk W p 51 #[.int .i64 D.blocks, .int .i64 D.room, .int .i64 D.fuse, .bool D.down, .map (some m), .slice A D.loose.length cap] ∧ Blk W wr.heap.size 67 c ∧ W.rangeAt (wr.heap.size + 1) 0 (cu8 (l.take tk ++ old.drop tk)) ∧ wr.heap.size + 1 < W.heap.size ∧
              Own W 67 257 (.slice (some ⟨b, off, none⟩) K.length cap6) K.length (flatW K) ∧ MapI Try.prog 3 W m (D.entries + j) (fun i => (F i).map fun l => .agg (cu8 l).toArray) ∧ Chg (fun b => b = m) wr W) ⟨hb3', hb4', hr', hlt', ho3', hM3', hc3'⟩ ?_
            clear hb3' hb4' ho3' hM3' hc3' hr' hlt'
            rintro W ⟨hb3, hb4, hr3, hs3, ho3, hM3, hc3⟩
            have hinfo : (Try.prog.info? 37).map (·.size) = some (cu8 (l.take tk ++ old.drop tk)).length := by rw [cu8_length, hgl]; exact (zero_of_info info_block).2
            have hb4c : W.cell? ⟨wr.heap.size, 0, none⟩ = some (.int .i64 n) := by rw [hb4.cell, Hcx.out]; rfl
            refine wp_region_hoist [0, 1, 2, 3, 4, 5, 6] [7] [] (fun w' => w'.cell? ⟨p, 4, none⟩ = some (.map (some m)) ∧ w'.cell? ⟨wr.heap.size, 0, none⟩ = some (.int .i64 n) ∧ w'.rangeAt (wr.heap.size + 1) 0 (cu8 (l.take tk ++ old.drop tk)))
              (by kernel_rfl) (by kernel_rfl) (by kernel_rfl) (by kernel_rfl) (by kernel_rfl) (by kernel_rfl) ⟨hb3.cell 4, hb4c, hr3⟩ ?_
            (iterate 6 (refine HoistK.yes (by rfl) (by rfl) ⟨?_, fun w hSw => ?_, ?_⟩; rotate_left; (· go_simp; try with_reducible rfl); simp only [Act.put, List.setIfInBounds_toArray, List.getElem_toArray, List.getElem_cons_succ, List.getElem_cons_zero]))
            refine HoistK.load (by rfl) (by rfl) 37 _ rfl (wr.heap.size + 1) 0 rfl (cu8 (l.take tk ++ old.drop tk)) _ (fun w hw => hw.2.2) Try.underlying37 rfl hinfo ?_
            simp only [Act.put, List.setIfInBounds_toArray, List.getElem_toArray, List.getElem_cons_succ, List.getElem_cons_zero]
            refine HoistK.nil_ ?_
            simp only [opsAt, List.filterMap_cons, List.filterMap_nil, List.getElem?_toArray, List.getElem?_cons_succ, List.getElem?_cons_zero]
            obtain ⟨w2, hrun, hM4, hc4⟩ := (hM3.keep (w' := W.drew) rfl).put Try.underlying3 Try.underlying48 (by omega) hwn (.agg (cu8 (l.take tk ++ old.drop tk)).toArray)
            have hnp : ¬ p = m := fun e => hM3.ne_blk hb3 e.symm
            have hmlt := hMq.lt
            have hb5 := hb3.drew.chg hc4 hnp
            have hb6 := hb4.drew.chg hc4 (fun (e : wr.heap.size = m) => by omega)
            have hr6 : w2.rangeAt (wr.heap.size + 1) 0 (cu8 (l.take tk ++ old.drop tk)) := fun i v hv => (World.cell?_of_block (a := ⟨wr.heap.size + 1, 0 + i, none⟩) (hc4.block _ hs3 (fun (e : wr.heap.size + 1 = m) => by omega))).trans (hr3 i v hv)
            have hb4c' : w2.cell? ⟨wr.heap.size, 0, none⟩ = some (.int .i64 n) := by rw [hb6.cell, Hcx.out]; rfl
            refine Effects.cons_ fun _ hQ1 => ?_
            go_wp2
            refine hQ1 _ _ ⟨hb5.cell 4, hb4c', hr6⟩ (Effects.nil_ fun _ hQ2 => ?_)
            clear hQ1 hrun
            have hor4 := own_keep ho3.drew (fun k hk => hc4.block k (own_lt ho3.drew hk) (fun e => hne6 k hk e))
            go_wp2
            go_roundw
            case rel =>
              refine ⟨j + 1, by omega, by go_num, hb5, hor4, ?_, (hcq.trans hc3.drew (fun _ h => .inl h)).trans hc4 (fun _ h => .inl h)⟩
              rw [← HSN.out, hup]
              have e : (fun i => (putF F (n, l.take tk ++ old.drop tk) i).map fun l => Value.agg (cu8 l).toArray) = fun i => if i = n then some (.agg (cu8 (l.take tk ++ old.drop tk)).toArray) else (F i).map fun l => .agg (cu8 l).toArray := by
                funext i
                simp only [putF]
                split <;> rfl
              rw [e]
              exact hM4
            case measure => simp [intOf]; omega
          · have hnt : j + 1 ≠ K.length ∨ torn < 0 ∨ 256 ≤ torn := by omega
            have hup : upStep torn K.length F ((n, l), j) = putF F (n, l) := by
              unfold upStep
              rw [if_neg hT]
            rcases hnt with hT | hT | hT
            all_goals
              go_wp2
              simp only [Try.sizeOf67, Result.andThen]
              rw [Oper.upon_value]
              go_wp2
              simp only [Try.isAgg67, Try.sizeOf67, Result.andThen, ↓reduceIte, hlc]
              rw [Oper.upon_value]
              clear hlc
              go_wp2
              simp only [Try.sizeOf67, Result.andThen, ↓reduceIte, hst]
              rw [Oper.upon_skip]
              clear hst hz hcs
              go_wp2
              simp only [Try.sizeOf37, Result.andThen]
              rw [if_neg (by decide), Oper.upon_value]
              go_wp2
              simp only [Try.isAgg37, Try.sizeOf37, Result.andThen, ↓reduceIte, hlc2]
              rw [Oper.upon_value]
              clear hlc2
              go_wp2
              simp only [Try.sizeOf37, Result.andThen, ↓reduceIte, hst2]
              rw [Oper.upon_skip]
              clear hst2 hy hls
              go_wp2
            all_goals
              refine at_world (fun W => Blk W p 51 #[.int .i64 D.blocks, .int .i64 D.room, .int .i64 D.fuse, .bool D.down, .map (some m), .slice A D.loose.length cap] ∧ Blk W wr.heap.size 67 c ∧ W.rangeAt (wr.heap.size + 1) 0 (cu8 l) ∧ wr.heap.size + 1 < W.heap.size ∧
                Own W 67 257 (.slice (some ⟨b, off, none⟩) K.length cap6) K.length (flatW K) ∧ MapI Try.prog 3 W m (D.entries + j) (fun i => (F i).map fun l => .agg (cu8 l).toArray) ∧ Chg (fun b => b = m) wr W) ⟨(hbq.alloc _).alloc _, hb2.alloc _, (by have := Blk.range (Blk.new (wr.alloc (.cells c 67)) 37 (cu8 l).toArray); rwa [World.size_alloc] at this), by simp only [World.size_alloc]; omega, (hoq.alloc _).alloc _, (hMq.alloc _).alloc _, ((Chg.refl _ wr).alloc _).alloc _⟩ ?_
              rintro W ⟨hb3, hb4, hr3, hs3, ho3, hM3, hc3⟩
              have hinfo : (Try.prog.info? 37).map (·.size) = some (cu8 l).length := by rw [cu8_length, hl]; exact (zero_of_info info_block).2
              have hb4c : W.cell? ⟨wr.heap.size, 0, none⟩ = some (.int .i64 n) := by rw [hb4.cell, Hcx.out]; rfl
              refine wp_region_hoist [0, 1, 2, 3, 4, 5, 6] [7] [] (fun w' => w'.cell? ⟨p, 4, none⟩ = some (.map (some m)) ∧ w'.cell? ⟨wr.heap.size, 0, none⟩ = some (.int .i64 n) ∧ w'.rangeAt (wr.heap.size + 1) 0 (cu8 l))
                (by kernel_rfl) (by kernel_rfl) (by kernel_rfl) (by kernel_rfl) (by kernel_rfl) (by kernel_rfl) ⟨hb3.cell 4, hb4c, hr3⟩ ?_
              (iterate 6 (refine HoistK.yes (by rfl) (by rfl) ⟨?_, fun w hSw => ?_, ?_⟩; rotate_left; (· go_simp; try with_reducible rfl); simp only [Act.put, List.setIfInBounds_toArray, List.getElem_toArray, List.getElem_cons_succ, List.getElem_cons_zero]))
              refine HoistK.load (by rfl) (by rfl) 37 _ rfl (wr.heap.size + 1) 0 rfl (cu8 l) _ (fun w hw => hw.2.2) Try.underlying37 rfl hinfo ?_
              simp only [Act.put, List.setIfInBounds_toArray, List.getElem_toArray, List.getElem_cons_succ, List.getElem_cons_zero]
              refine HoistK.nil_ ?_
              simp only [opsAt, List.filterMap_cons, List.filterMap_nil, List.getElem?_toArray, List.getElem?_cons_succ, List.getElem?_cons_zero]
              obtain ⟨w2, hrun, hM4, hc4⟩ := (hM3.keep (w' := W.drew) rfl).put Try.underlying3 Try.underlying48 (by omega) hwn (.agg (cu8 l).toArray)
              have hnp : ¬ p = m := fun e => hM3.ne_blk hb3 e.symm
              have hmlt := hMq.lt
              have hb5 := hb3.drew.chg hc4 hnp
              have hb6 := hb4.drew.chg hc4 (fun (e : wr.heap.size = m) => by omega)
              have hr6 : w2.rangeAt (wr.heap.size + 1) 0 (cu8 l) := fun i v hv => (World.cell?_of_block (a := ⟨wr.heap.size + 1, 0 + i, none⟩) (hc4.block _ hs3 (fun (e : wr.heap.size + 1 = m) => by omega))).trans (hr3 i v hv)
              have hb4c' : w2.cell? ⟨wr.heap.size, 0, none⟩ = some (.int .i64 n) := by rw [hb6.cell, Hcx.out]; rfl
              refine Effects.cons_ fun _ hQ1 => ?_
              go_wp2
              refine hQ1 _ _ ⟨hb5.cell 4, hb4c', hr6⟩ (Effects.nil_ fun _ hQ2 => ?_)
              clear hQ1 hrun
              have hor4 := own_keep ho3.drew (fun k hk => hc4.block k (own_lt ho3.drew hk) (fun e => hne6 k hk e))
              go_wp2
              go_roundw
              case rel =>
                refine ⟨j + 1, by omega, by go_num, hb5, hor4, ?_, (hcq.trans hc3.drew (fun _ h => .inl h)).trans hc4 (fun _ h => .inl h)⟩
                rw [← HSN.out, hup]
                have e : (fun i => (putF F (n, l) i).map fun l => Value.agg (cu8 l).toArray) = fun i => if i = n then some (.agg (cu8 l).toArray) else (F i).map fun l => .agg (cu8 l).toArray := by
                  funext i
                  simp only [putF]
                  split <;> rfl
                rw [e]
                exact hM4
              case measure => simp [intOf]; omega
        · have hc := hbq.cell
          have hf := hbq.frozen
          have hjj : j = K.length := by omega
          subst hjj
          rw [List.take_of_length_le (by simp)] at hMq
          have hne : m ≠ p := hMq.ne_blk hbq
          have hcS : Chg S w _ := (hch.mono (fun _ h => h.elim)).trans (hcq.mono (fun b hb => by subst hb; exact hSm)) (fun _ h => .inl h)
          go_wp2
          go_end0
          refine ⟨rfl, ⟨hSp, fun b hb => by have := hS1 b hb; have := hcq.size; simp only [World.size_setCell]; omega, m, .slice none 0 0, hSm, ((hbq.set_ 5 _).set_ 3 _).set_ 2 _, Own.nil_ _ _ _, fun k hk => by simp [Value.ownBlock] at hk, ?_⟩, ((hcS.setOf hSp 5 _).setOf hSp 3 _).setOf hSp 2 _⟩
          have h3 := ((hMq.keep (Below.heap_setCell _ ⟨p, 5, none⟩ (.slice none 0 0) _ hne)).keep (Below.heap_setCell _ ⟨p, 3, none⟩ (.bool false) _ hne)).keep (Below.heap_setCell _ ⟨p, 2, none⟩ (.int .i64 (-1)) _ hne)
          rw [HK.out] at h3
          exact h3.mono (by rw [← HK.out]; exact Nat.add_le_add_left hKl _)

end Go.Proofs.Ytcgokafhkkmaoaa
