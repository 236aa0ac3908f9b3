/- The document's disk: New, Read. -/
import Derived.Test.YthmjgcmaoniejaaDkT
import Derived.Laws.OwnMore
namespace Go.Proofs.Ythmjgcmaoniejaa
open Go.RowKit Go.Maps

attribute [-simp] Try.isAgg35 Try.sizeOf35 Try.typeInfo35 Try.isAgg61 Try.sizeOf61 Try.typeInfo61

theorem rinfo_block3 : (Try.prog.info? 35).map (fun i => (i.zero, i.size, i.bytes)) = some (some (.agg (cu8 noughts).toArray), 256, 256) := by kernel_rfl
theorem rcu8_noughts : cu8 noughts = List.replicate 256 (.int .u8 0) := by rw [cu8, noughts, List.map_replicate]
theorem rflat_noughts (n : Nat) : flatB (List.replicate n noughts) = List.replicate (n * 256) (.int .u8 0) := by
  rw [flatB, List.flatMap_replicate, rcu8_noughts, List.flatten_replicate_replicate]
theorem rmade_same (v : Value) (m N : Nat) (hm : 0 < m) : madeCells (List.replicate m v).toArray N = (List.replicate N v).toArray := by
  apply Array.ext
  · simp [madeCells]
  · intro i h1 h2
    have h3 : i % m < m := Nat.mod_lt _ hm
    simp [madeCells, h3]
set_option maxRecDepth 100000 in
theorem rrun_make (n : Nat) (hn : n ≤ 4096) (u : World) : (Instr.makeSlice 41 (.int .i64 n) (.int .i64 n)).run Try.prog u =
    .ok (.slice (some ⟨u.heap.size, 0, none⟩) n n) (u.alloc (.cells (flatB (List.replicate n noughts)).toArray 35)) := by
  obtain ⟨i0, hi, hz0, hz1, hz2⟩ := info_parts rinfo_block3
  have h := run_make (P := Try.prog) u 41 35 i0 _ Try.underlying41 hi hz0 .i64 .i64 n n (by omega) (Int.le_refl _) (by rw [hz2]; omega) (by omega)
  rw [h, hz1]
  simp only [Int.toNat_natCast]
  have e : madeCells (Value.agg (cu8 noughts).toArray).cells (n * 256) = (flatB (List.replicate n noughts)).toArray := by
    rw [rflat_noughts, rcu8_noughts]
    exact rmade_same _ _ _ (by decide)
  rw [e]

def RS.new (n : Nat) : RS := ⟨List.replicate n noughts, [], n, -1, false⟩
set_option maxRecDepth 100000 in
theorem rnew_any (n : Nat) (h1 : 1 ≤ n) (h2 : n ≤ 4096) (w : World) :
    Calls Try.prog 8 #[.int .i64 n] w fun e w' => ∃ p S, e = .returned (.pointer (some ⟨p, 0, none⟩)) ∧ RefI w' p S (RS.new n) ∧ Below w.heap.size w w' ∧ ∀ b, S b → w.heap.size ≤ b := by
  have h3 : ¬ (n : Int) < 1 := by omega
  have h4 : ¬ 4096 < (n : Int) := by omega
  have hmk := rrun_make n h2 w
  have hB := Blk.new w 35 (flatB (List.replicate n noughts)).toArray
  have hl : (flatB (List.replicate n noughts)).length = n * 256 := by rw [rflat_noughts, List.length_replicate]
  generalize hF : flatB (List.replicate n noughts) = F at *
  have HF := Lib.hid hF; clear hF
  go_enter Try.func8, Try.ntmps8
  go_wp2
  go_ret
  have hown : Own (w.alloc (.cells F.toArray 35)) 35 256 (.slice (some ⟨w.heap.size, 0, none⟩) n n) n F :=
    ⟨hl, .inr ⟨w.heap.size, n, F.toArray, rfl, Nat.zero_le _, hB, Nat.le_refl _, by simp only [maxLen]; omega, by rw [List.size_toArray, hl], by rw [← hl]; simp⟩⟩
  refine ⟨w.heap.size + 1, rfl, fun b => b = w.heap.size ∨ b = w.heap.size + 1, ⟨.inr rfl, ?_, .slice (some ⟨w.heap.size, 0, none⟩) n n, .slice none 0 0, ?_, ?_, ?_, Own.nil_ _ _ _, fun k hk => by simp [Value.ownBlock] at hk⟩, ((Below.refl _ w).alloc (Nat.le_refl _) _).alloc (by simp) _, ?_⟩
  · rintro b (rfl | rfl) <;> simp only [World.size_alloc] <;> omega
  · have := Blk.new (w.alloc (.cells F.toArray 35)) 44 #[.slice (some ⟨w.heap.size, 0, none⟩) n n, .slice none 0 0, .int .i64 n, .int .i64 (-1), .bool false]
    rw [World.size_alloc] at this
    exact this
  · show Own _ _ _ _ (List.replicate n noughts).length (flatB (List.replicate n noughts))
    rw [List.length_replicate, HF.out]
    exact hown.alloc _
  · intro k hk
    exact .inl (by simpa [Value.ownBlock] using hk.symm)
  · rintro b (rfl | rfl) <;> omega
theorem rnew_nil (n : Int) (h : n < 1 ∨ 4096 < n) (w : World) :
    Calls Try.prog 8 #[.int .i64 n] w fun e w' => e = .returned (.pointer none) ∧ w' = w := by
  by_cases h1 : n < 1
  · go_enter Try.func8, Try.ntmps8
    go_wp2
    go_ret
    exact ⟨rfl, rfl⟩
  · have h2 : 4096 < n := by omega
    go_enter Try.func8, Try.ntmps8
    go_wp2
    go_ret
    exact ⟨rfl, rfl⟩

def RS.Ok (R : RS) : Prop := (∀ x ∈ R.firm, x.length = 256) ∧ ∀ x ∈ R.loose, x.2.length = 256
def overB (n : Int) (b : List Int) (x : Int × List Int) : List Int := if x.1 = n then x.2 else b
def RS.now (R : RS) (n : Int) : List Int := R.loose.foldl (overB n) (R.firm.getD n.toNat noughts)
def RS.read (R : RS) (n : Int) : List Int × Int := if R.off then (noughts, 44) else if n < 0 ∨ R.firm.length ≤ n then (noughts, 2) else (R.now n, 0)
theorem over_length (n : Int) : ∀ (l : List (Int × List Int)) (b : List Int), b.length = 256 → (∀ x ∈ l, x.2.length = 256) → (l.foldl (overB n) b).length = 256
  | [], _, h, _ => h
  | x :: r, b, h, hl => over_length n r _ (by unfold overB; split; (· exact hl x (List.mem_cons_self ..)); exact h) fun y hy => hl y (List.mem_cons_of_mem _ hy)
theorem RS.Ok.now {R : RS} (h : R.Ok) (n : Int) : (R.now n).length = 256 := by
  refine over_length n _ _ ?_ h.2
  rw [List.getD_eq_getElem?_getD]
  cases e : R.firm[n.toNat]? with
  | none => rw [Option.getD_none, noughts, List.length_replicate]
  | some l => exact h.1 l (List.mem_of_getElem? e)

set_option maxRecDepth 100000 in
theorem rread_no (p : Nat) (S : Nat → Prop) (R : RS) (n r : Int) (w : World) (h : RefI w p S R) (hr : (R.off = true ∧ r = 44) ∨ (R.off = false ∧ (n < 0 ∨ R.firm.length ≤ n) ∧ r = 2)) :
    Calls Try.prog 19 #[.pointer (some ⟨p, 0, none⟩), .int .i64 n] w fun e w' => e = .returned (.tuple #[.agg (cu8 noughts).toArray, .int .i64 r]) ∧ Below w.heap.size w w' := by
  obtain ⟨Z, hZ⟩ : ∃ Z, Z = (cu8 noughts).toArray := ⟨_, rfl⟩
  have hz := (zero_of_info info_block).1
  have hzs := (zero_of_info info_block).2
  have hbu := fun w => run_build (P := Try.prog) w 35 #[] _ built_block
  rw [← hZ] at hz hbu
  have hsz : Z.size = 256 := by rw [hZ, List.size_toArray, cu8_length, noughts, List.length_replicate]
  have h1 : Z.all (·.oneCell') = true := by rw [hZ]; exact all_oneCell_toArray (cu8_one _)
  have hst := run_storeCells_new (P := Try.prog) w 35 Z Z (by rw [hsz]; exact hzs) rfl h1
  have hld := run_loadVar_mid (P := Try.prog) (w.alloc (.cells Z 35)) w.heap.size 0 35 (cu8 noughts) _ (Blk.range (by rw [← hZ]; exact Blk.new w _ _)) Try.underlying35 rfl (by rw [cu8_length, noughts, List.length_replicate]; exact hzs)
  rw [← hZ] at hld ⊢
  have HZ := Lib.hid hZ; clear hZ hzs h1
  obtain ⟨_, _, vf, vl, hb, hfo, _⟩ := h
  obtain ⟨Af, capf, rfl⟩ := hfo.form
  have hb := hb.alloc (.cells Z 35)
  have hc := hb.cell
  rcases hr with ⟨hd, rfl⟩ | ⟨hd, hn, rfl⟩
  · rw [hd] at hc
    go_enter Try.func19, Try.ntmps19
    go_wp2
    simp only [Try.sizeOf35, Result.andThen, ↓reduceIte, hst]
    rw [Oper.upon_skip]
    go_wp2
    exact bodyPost_ret (v := .tuple #[.agg Z, .int .i64 44]) (by simp [results, Try.results19, asAddr, hld]) rfl ⟨rfl, (Below.refl _ w).alloc (Nat.le_refl _) _⟩
  · rw [hd] at hc
    by_cases hn0 : n < 0
    · clear hn
      go_enter Try.func19, Try.ntmps19
      go_wp2
      simp only [Try.sizeOf35, Result.andThen, ↓reduceIte, hst]
      rw [Oper.upon_skip]
      go_wp2
      exact bodyPost_ret (v := .tuple #[.agg Z, .int .i64 2]) (by simp [results, Try.results19, asAddr, hld]) rfl ⟨rfl, (Below.refl _ w).alloc (Nat.le_refl _) _⟩
    · have hn1 : (R.firm.length : Int) ≤ n := by omega
      clear hn
      go_enter Try.func19, Try.ntmps19
      go_wp2
      simp only [Try.sizeOf35, Result.andThen, ↓reduceIte, hst]
      rw [Oper.upon_skip]
      go_wp2
      exact bodyPost_ret (v := .tuple #[.agg Z, .int .i64 2]) (by simp [results, Try.results19, asAddr, hld]) rfl ⟨rfl, (Below.refl _ w).alloc (Nat.le_refl _) _⟩

set_option maxHeartbeats 1000000 in
set_option maxRecDepth 100000 in
theorem rread_yes (p : Nat) (S : Nat → Prop) (R : RS) (n : Int) (w : World) (h : RefI w p S R) (hok : R.Ok) (hd : R.off = false) (hn0 : 0 ≤ n) (hn1 : n < R.firm.length) (hlen : R.loose.length ≤ 140737488355328) (hflen : R.firm.length ≤ 4096) :
    Calls Try.prog 19 #[.pointer (some ⟨p, 0, none⟩), .int .i64 n] w fun e w' => e = .returned (.tuple #[.agg (cu8 (R.now n)).toArray, .int .i64 0]) ∧ Below w.heap.size w w' := by
  obtain ⟨Z, hZ⟩ : ∃ Z, Z = (cu8 noughts).toArray := ⟨_, rfl⟩
  have hz := (zero_of_info info_block).1
  have hzs := (zero_of_info info_block).2
  rw [← hZ] at hz
  have hsz : Z.size = 256 := by rw [hZ, List.size_toArray, cu8_length, noughts, List.length_replicate]
  obtain ⟨f, hf⟩ : ∃ f, R.firm[n.toNat]? = some f := ⟨_, List.getElem?_eq_getElem (by omega)⟩
  have hfl : f.length = 256 := hok.1 f (List.mem_of_getElem? hf)
  have hst := run_storeCells_new (P := Try.prog) (w.alloc (.cells Z 35)) 35 Z (cu8 f).toArray (by rw [List.size_toArray, cu8_length, hfl]; exact hzs) (by rw [hsz, List.size_toArray, cu8_length, hfl]) (all_oneCell_toArray (cu8_one _))
  rw [World.size_alloc] at hst
  have HZ := Lib.hid hZ; clear hZ hzs
  obtain ⟨_, _, vf, vl, hb, hfo, hvf, hlo, hvl⟩ := h
  obtain ⟨A, cap, rfl⟩ := hlo.form
  have hb' := hb.alloc (.cells Z 35)
  have hfo' := hfo.alloc (.cells Z 35)
  have hlo' := hlo.alloc (.cells Z 35)
  obtain ⟨Af, capf, rfl⟩ := hfo.form
  obtain ⟨bf, off, rfl, _, hbl, hrng⟩ := blocks_at (Cs.of_own hfo' (S := S) hvf) hok.1 (k := n.toNat) (by omega)
  rw [show R.firm[n.toNat]'(by omega) = f by rw [List.getElem?_eq_getElem (by omega)] at hf; injection hf] at hrng
  have hlc : (loadCellsFrom ⟨bf, off + n.toNat * 256, none⟩ 0 256 #[]).run Try.prog (w.alloc (.cells Z 35)) = .ok (cu8 f).toArray (w.alloc (.cells Z 35)) := by
    have := run_loadCells_list (P := Try.prog) (w.alloc (.cells Z 35)) ⟨bf, off + n.toNat * 256, none⟩ (cu8 f) (fun j v hv => by rw [Addr.add_mid]; exact hrng j v hv)
    rw [cu8_length, hfl] at this
    exact this
  have hfs : (cu8 f).toArray.size = 256 := by rw [List.size_toArray, cu8_length, hfl]
  have hc := hb'.cell
  rw [hd] at hc
  have hn0' : ¬ n < 0 := by omega
  have hn1' : ¬ (R.firm.length : Int) ≤ n := by omega
  go_enter Try.func19, Try.ntmps19
  go_wp2
  simp only [Try.sizeOf35, Result.andThen]
  rw [Oper.upon_value]
  go_wp2
  simp only [Try.isAgg35, Try.sizeOf35, Result.andThen, ↓reduceIte, hlc]
  rw [Oper.upon_value]
  clear hlc
  go_wp2
  simp only [Try.sizeOf35, Result.andThen, ↓reduceIte, hst]
  rw [Oper.upon_skip]
  clear hst hfs
  have hB4 := (Blk.new w 35 Z).alloc (.cells (cu8 f).toArray 35)
  have hB6 := Blk.new (w.alloc (.cells Z 35)) 35 (cu8 f).toArray
  rw [World.size_alloc] at hB6
  have hb2 := hb'.alloc (.cells (cu8 f).toArray 35)
  have hl2 := hlo'.alloc (.cells (cu8 f).toArray 35)
  have hBe := ((Below.refl _ w).alloc (Nat.le_refl _) (.cells Z 35)).alloc (by simp) (.cells (cu8 f).toArray 35)
  have hlt : ∀ k, (Value.slice A R.loose.length cap).ownBlock = some k → k < w.heap.size := fun k hk => own_lt hlo hk
  have hplt := hb.lt
  generalize (w.alloc (.cells Z 35)).alloc (.cells (cu8 f).toArray 35) = W0 at *
  clear hb' hfo' hlo' hb hfo hc hrng
  go_wp2
  go_loopw [7] (fun i wr => ∃ j : Nat, j ≤ R.loose.length ∧ i = .int .i64 j ∧ Blk wr (w.heap.size + 1) 35 (cu8 ((R.loose.take j).foldl (overB n) f)).toArray ∧ Chg (fun b => b = w.heap.size + 1) W0 wr) (fun i _ => R.loose.length - (intOf i).toNat)
  case atStart => exact ⟨0, Nat.zero_le _, rfl, hB6, Chg.refl _ _⟩
  case round =>
    obtain ⟨j, hj, rfl, hB, hch⟩ := hrel
    have hb3 := hb2.chg hch (fun e => by omega)
    have hl3 := own_keep hl2 (fun k hk => hch.block k (own_lt hl2 hk) (fun (e : k = w.heap.size + 1) => by have := hlt k hk; omega))
    have hc := hb3.cell
    rw [hd] at hc
    have hfl2 := over_length n (R.loose.take j) f hfl (fun x hx => hok.2 x (List.mem_of_mem_take hx))
    by_cases hjl : j < R.loose.length
    · obtain ⟨b, off, rfl, _, hbl, hrng⟩ := writes_at (Cs.of_own hl3 (S := S) hvl) hok.2 hjl
      have hs := List.take_succ_eq_append_getElem hjl
      have hxl := hok.2 _ (List.getElem_mem hjl)
      obtain ⟨x, l, hxe⟩ : ∃ x l, R.loose[j] = (x, l) := ⟨_, _, rfl⟩
      simp only [hxe] at hxl hrng hs
      have hs := Lib.hid hs
      have hc0 : wr.cell? ⟨b, off + j * 257, none⟩ = some (.int .i64 x) := hrng 0 _ rfl
      have hc1 : (loadCellsFrom ⟨b, off + j * 257 + 1, none⟩ 0 256 #[]).run Try.prog wr = .ok (cu8 l).toArray wr := by
        have := run_loadCells_list (P := Try.prog) wr ⟨b, off + j * 257 + 1, none⟩ (cu8 l) (fun j v hv => by rw [Addr.add_mid, Nat.add_assoc]; exact hrng _ _ (by simpa [wcells, Nat.add_comm 1 j] using hv))
        rw [cu8_length, hxl] at this
        exact this
      clear hrng
      cases hx : x == n
      · go_wp2
        simp only [Try.sizeOf61, Result.andThen]
        rw [Oper.upon_value]
        go_wp2
        refine ⟨⟨j + 1, by omega, by go_num, ?_, hch⟩, by simp [intOf]; omega⟩
        rw [hs.out, List.foldl_append, List.foldl_cons, List.foldl_nil, overB, if_neg (by simpa using hx)]
        exact hB
      · have hst : (storeCells ⟨w.heap.size + 1, 0, none⟩ (cu8 l) 0).run Try.prog wr = .ok () (wr.setCells (w.heap.size + 1) 0 (cu8 l)) :=
          run_storeCells_cells (P := Try.prog) (w.heap.size + 1) 0 (cu8 l) 0 wr (fun i hi => by
            rw [hB.cell]
            rw [cu8_length, hxl] at hi
            rw [List.getElem?_toArray, List.getElem?_eq_getElem (by rw [cu8_length, hfl2]; omega)]
            rfl) (fun i hi => hB.frozen _) (cu8_one _)
        have hls : (cu8 l).toArray.size = 256 := by rw [List.size_toArray, cu8_length, hxl]
        go_wp2
        simp only [Try.sizeOf61, Result.andThen]
        rw [Oper.upon_value]
        go_wp2
        simp only [Try.sizeOf61, Result.andThen]
        rw [Oper.upon_value]
        go_wp2
        simp only [Try.sizeOf35, Result.andThen]
        rw [if_neg (by decide), Oper.upon_value]
        go_wp2
        simp only [Try.isAgg35, Try.sizeOf35, Result.andThen, ↓reduceIte, hc1]
        rw [Oper.upon_value]
        clear hc1
        go_wp2
        simp only [Try.sizeOf35, Result.andThen, ↓reduceIte, hst]
        rw [Oper.upon_skip]
        clear hst hls
        have hset := Blk.setCells (cu8 l) 0 wr _ hB (by rw [cu8_length, cu8_length, hxl, hfl2]; omega)
        rw [List.take_zero, List.nil_append, List.drop_of_length_le (by rw [cu8_length, cu8_length, hxl, hfl2]; omega), List.append_nil] at hset
        have hch2 := Chg.setCells (M := fun b => b = w.heap.size + 1) (.inl rfl) (cu8 l) 0 _ hch
        go_wp2
        refine ⟨⟨j + 1, by omega, by go_num, ?_, hch2⟩, by simp [intOf]; omega⟩
        rw [hs.out, List.foldl_append, List.foldl_cons, List.foldl_nil, overB, if_pos (by simpa using hx)]
        exact hset
    · obtain rfl : j = R.loose.length := by omega
      rw [List.take_length] at hB hfl2
      have hnow : R.now n = R.loose.foldl (overB n) f := by
        unfold RS.now
        rw [List.getD_eq_getElem?_getD, hf, Option.getD_some]
      obtain ⟨L, hL⟩ : ∃ L, L = R.now n := ⟨_, rfl⟩
      rw [← hnow, ← hL] at hB hfl2
      have HL := Lib.hid hL; clear hL hnow
      have hlc : (loadCellsFrom ⟨w.heap.size + 1, 0, none⟩ 0 256 #[]).run Try.prog wr = .ok (cu8 L).toArray wr := by
        have := run_loadCells_list (P := Try.prog) wr ⟨w.heap.size + 1, 0, none⟩ (cu8 L) (fun j v hv => by rw [Addr.add_mid]; exact hB.range j v hv)
        rw [cu8_length, hfl2] at this
        exact this
      have hZ4 := hB4.chg hch (fun e => by omega)
      have hst : (storeCells ⟨w.heap.size, 0, none⟩ (cu8 L) 0).run Try.prog wr = .ok () (wr.setCells w.heap.size 0 (cu8 L)) :=
        run_storeCells_cells (P := Try.prog) w.heap.size 0 (cu8 L) 0 wr (fun i hi => by
          rw [hZ4.cell]
          rw [cu8_length, hfl2] at hi
          rw [Array.getElem?_eq_getElem (by rw [hsz]; omega)]
          rfl) (fun i hi => hZ4.frozen _) (cu8_one _)
      have hls : (cu8 L).toArray.size = 256 := by rw [List.size_toArray, cu8_length, hfl2]
      have hth : wr.there w.heap.size 0 (cu8 L).length := fun j hj => ⟨by rw [hZ4.cell]; rw [cu8_length, hfl2] at hj; rw [Array.getElem?_eq_getElem (by rw [hsz]; omega)]; rfl, hZ4.frozen _⟩
      have hld := run_loadVar_mid (P := Try.prog) _ w.heap.size 0 35 (cu8 L) _ (World.rangeAt_setCells_same wr w.heap.size 0 (cu8 L) hth) Try.underlying35 rfl (by rw [cu8_length, hfl2]; exact (zero_of_info info_block).2)
      clear hth
      go_wp2
      simp only [Try.isAgg35, Try.sizeOf35, Result.andThen, ↓reduceIte, hlc]
      rw [Oper.upon_value]
      clear hlc
      go_wp2
      simp only [Try.sizeOf35, Result.andThen, ↓reduceIte, hst]
      rw [Oper.upon_skip]
      go_wp2
      refine bodyPost_ret (v := .tuple #[.agg (cu8 L).toArray, .int .i64 0]) (by simp [results, Try.results19, asAddr, hld]) rfl ⟨by rw [HL.out], ?_⟩
      exact hBe.trans ((Chg.setCells (M := fun b => w.heap.size ≤ b) (.inl (Nat.le_refl _)) (cu8 L) 0 _ (hch.mono (fun b e => by omega))).below hBe.size (fun _ h => h))

theorem rread_any (p : Nat) (S : Nat → Prop) (R : RS) (n : Int) (w : World) (h : RefI w p S R) (hok : R.Ok) (hlen : R.loose.length ≤ 140737488355328) (hflen : R.firm.length ≤ 4096) :
    Calls Try.prog 19 #[.pointer (some ⟨p, 0, none⟩), .int .i64 n] w fun e w' => e = .returned (.tuple #[.agg (cu8 (R.read n).1).toArray, .int .i64 (R.read n).2]) ∧ Below w.heap.size w w' := by
  unfold RS.read
  cases hd : R.off with
  | true => exact rread_no p S R n 44 w h (.inl ⟨hd, rfl⟩)
  | false =>
    by_cases hn : n < 0 ∨ R.firm.length ≤ n
    · simp only [Bool.false_eq_true, if_false, if_pos hn]
      exact rread_no p S R n 2 w h (.inr ⟨hd, hn, rfl⟩)
    · simp only [Bool.false_eq_true, if_false, if_neg hn]
      exact rread_yes p S R n w h hok hd (by omega) (by omega) hlen hflen

end Go.Proofs.Ythmjgcmaoniejaa
