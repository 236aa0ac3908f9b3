/- DiskFirm: the walk of its steps. -/
import Derived.Test.YthmjgcmaoniejaaDkR
namespace Go.Proofs.Ythmjgcmaoniejaa
open Go.RowKit Go.Maps

attribute [-simp] Try.isAgg35 Try.sizeOf35 Try.typeInfo35 Try.isAgg58 Try.sizeOf58 Try.typeInfo58

theorem info_block3 : (Try.prog.info? 35).map (fun i => (i.zero, i.size, i.bytes)) = some (some (.agg (cu8 noughts).toArray), 256, 256) := by kernel_rfl
theorem cu8_noughts : cu8 noughts = List.replicate 256 (.int .u8 0) := by rw [cu8, noughts, List.map_replicate]
theorem flat_noughts (n : Nat) : flatB (List.replicate n noughts) = List.replicate (n * 256) (.int .u8 0) := by
  rw [flatB, List.flatMap_replicate, cu8_noughts, List.flatten_replicate_replicate]
theorem made_same (v : Value) (m N : Nat) (hm : 0 < m) : madeCells (List.replicate m v).toArray N = (List.replicate N v).toArray := by
  apply Array.ext
  · simp [madeCells]
  · intro i h1 h2
    have h3 : i % m < m := Nat.mod_lt _ hm
    simp [madeCells, h3]
theorem made_blocks (n : Nat) : madeCells (Value.agg (cu8 noughts).toArray).cells (n * 256) = (flatB (List.replicate n noughts)).toArray := by
  rw [flat_noughts, cu8_noughts]
  exact made_same _ _ _ (by decide)
set_option maxRecDepth 100000 in
theorem run_make_blocks (u : World) : (Instr.makeSlice 41 (.int .i64 8) (.int .i64 8)).run Try.prog u =
    .ok (.slice (some ⟨u.heap.size, 0, none⟩) 8 8) (u.alloc (.cells (flatB (List.replicate 8 noughts)).toArray 35)) := by
  obtain ⟨i0, hi, hz0, hz1, hz2⟩ := info_parts info_block3
  have h := run_make (P := Try.prog) u 41 35 i0 _ Try.underlying41 hi hz0 .i64 .i64 8 8 (by decide) (by decide) (by rw [hz2]; decide) (by decide)
  rw [h, hz1]
  show Result.ok _ (u.alloc (.cells (madeCells _ (8 * 256)) _)) = _
  rw [made_blocks 8]
  rfl

theorem fill_true {n k : Nat} (h : k < n) : (List.replicate k true ++ List.replicate (n - k) false).set k true = List.replicate (k + 1) true ++ List.replicate (n - (k + 1)) false := by
  obtain ⟨m, rfl⟩ : ∃ m, n = k + (m + 1) := ⟨n - k - 1, by omega⟩
  rw [show k + (m + 1) - k = m + 1 by omega, show k + (m + 1) - (k + 1) = m by omega, List.replicate_succ, List.set_append_right _ _ (by simp), List.length_replicate, Nat.sub_self, List.set_cons_zero, List.replicate_succ', List.append_assoc]
  rfl

set_option maxHeartbeats 4000000 in
set_option maxRecDepth 100000 in
theorem firm_any (torn : Int) (A : Option Addr) (cap : Nat) (gs : List KSt) (keep : List Bool) (vk : Value) (w : World) (h : KScript w A cap gs) (hsz : gs.length ≤ 1048576) (hk : Cs w (fun b => b < w.heap.size) 1 vk keep.length (bools keep)) :
    Calls Try.prog 4 #[.slice A gs.length cap, vk, .int .i64 torn] w fun e w' => e = .returned (.bool true) ∧ Below w.heap.size w w' := by
  obtain ⟨hrow, hea⟩ := h
  obtain ⟨Ak, capk, rfl⟩ := hk.form
  go_enter Try.func4, Try.ntmps4
  go_wp2_with fail
  refine (fixed_any w).mono ?_
  rintro e w1 ⟨rfl, b1⟩
  go_wp2_with fail
  refine (new_dk 8 (by omega) (by omega) w w1 b1.size).mono ?_
  rintro e w2 ⟨p, S0, rfl, h2, b2, s2⟩
  have c2 := b1.trans (b2.mono b1.size)
  have l2 := h2.lt
  have m1 := run_make_blocks w2
  have m2 := run_make_blocks (w2.alloc (.cells (flatB (List.replicate 8 noughts)).toArray 35))
  have hCs := Cs.of_new' w2 35 8 (size := 256) (cs := flatB (List.replicate 8 noughts)) (by rw [flat_noughts, List.length_replicate]) (by decide) (0, 0)
  have hNw := Blk.new (w2.alloc (.cells (flatB (List.replicate 8 noughts)).toArray 35)) 35 (flatB (List.replicate 8 noughts)).toArray
  rw [World.size_alloc] at m2 hNw
  generalize hG : flatB (List.replicate 8 noughts) = G at *
  have HG := Lib.hid hG; clear hG
  have h3 := (h2.alloc (.cells G.toArray 35)).alloc (.cells G.toArray 35)
  have hCs3 := hCs.below ((Below.refl _ _).alloc (Nat.le_refl _) (.cells G.toArray 35))
  have c3 := (c2.alloc c2.size (.cells G.toArray 35)).alloc (by rw [World.size_alloc]; have := c2.size; omega) (.cells G.toArray 35)
  clear h2 b1 b2 s2 hCs
  go_wp2_with fail
  clear m1 m2
  have hN0 : ¬ S0 (w2.heap.size + 1) := fun h => by have := l2 _ h; omega
  have hT0 : ∀ b, b = w2.heap.size → ¬ S0 b ∧ b ≠ w2.heap.size + 1 ∧ w.heap.size ≤ b ∧ b < ((w2.alloc (.cells G.toArray 35)).alloc (.cells G.toArray 35)).heap.size := fun b hb => ⟨fun h => by have := l2 _ h; omega, by omega, by have := c2.size; omega, by simp only [World.size_alloc]; omega⟩
  have hNb : w.heap.size ≤ w2.heap.size + 1 := by have := c2.size; omega
  clear l2 c2
  generalize w2.heap.size + 1 = Nb at *
  generalize (w2.alloc (.cells G.toArray 35)).alloc (.cells G.toArray 35) = w3 at *
  go_loopw [8, 10] (fun v i wr => ∃ (j : Nat) (D : DS) (sy now : List (List Int)) (S T : Nat → Prop), j ≤ gs.length ∧ i = .int .i64 j ∧ FirI gs j D sy now ∧ Dk w wr p S D j ∧ Blk wr Nb 35 (flatB now).toArray ∧ Cs wr T 256 v 8 (flatB sy) ∧
    (∀ b, T b → ¬ S b ∧ b ≠ Nb ∧ w.heap.size ≤ b ∧ b < wr.heap.size) ∧ ¬ S Nb ∧ Below w.heap.size w wr ∧ (∀ x ∈ sy, x.length = 256) ∧ ∀ x ∈ now, x.length = 256) (fun _ i _ => gs.length - (intOf i).toNat)
  case atStart =>
    have hno : ∀ x ∈ List.replicate 8 noughts, x.length = 256 := fun x hx => by rw [List.eq_of_mem_replicate hx, noughts, List.length_replicate]
    refine ⟨0, DS.new 8, List.replicate 8 noughts, List.replicate 8 noughts, S0, _, Nat.zero_le _, rfl, FirI.start gs, h3, ?_, ?_, hT0, hN0, c3, hno, hno⟩
    · rw [HG.out]; exact hNw
    · rw [HG.out]; exact hCs3
  case round =>
    clear h3 hNw hCs3 hT0 hN0 c3 S0 HG
    obtain ⟨j, D, sy, now, S, T, hj, rfl, hI, hD, hNw, hsy, hT, hN, hb, hsl, hnl⟩ := hrel
    obtain ⟨As, caps, rfl⟩ := hsy.form
    by_cases hlt : j < gs.length
    · obtain ⟨b, off, rfl, hgb, _, q0, q1, q2, q3⟩ := ksteps_at hrow hlt
      have hg := hea _ (List.getElem_mem hlt)
      have hq : ∀ W, Below w.heap.size w W → W.cell? ⟨b, off + j * 4, none⟩ = some (.int .i64 gs[j].kind) ∧ W.cell? ⟨b, off + j * 4 + 1, none⟩ = some (.int .i64 gs[j].n) ∧ W.cell? ⟨b, off + j * 4 + 2, none⟩ = some (.int .u8 gs[j].b) :=
        fun W hW => ⟨(hW.cell (p := ⟨b, off + j * 4, none⟩) hgb).trans q0, (hW.cell (p := ⟨b, off + j * 4 + 1, none⟩) hgb).trans q1, (hW.cell (p := ⟨b, off + j * 4 + 2, none⟩) hgb).trans q2⟩
      clear q0 q1 q2 q3
      obtain ⟨q0, q1, q2⟩ := hq _ hb
      have hwr := fun (h0 : gs[j].kind.tmod 3 = 0) h1 h2 => hI.write hlt h0 h1 h2
      have hsk := hI.skip hlt
      generalize gs[j] = g at *
      by_cases k0 : g.kind.tmod 3 = 0
      · have t2 : (g.kind.tmod 3 == 2) = false := by rw [k0]; rfl
        have t0 : (g.kind.tmod 3 == 0) = true := by rw [k0]; rfl
        have hsk := hsk (by rw [k0]; decide)
        by_cases hn : 0 ≤ g.n ∧ g.n < 8
        · obtain ⟨hn0, hn8⟩ := hn
          have hwr := hwr k0 hn0 hn8
          have he := hI.write_e hn0 hn8 (blk g.b)
          clear k0
          go_wp2_with fail
          refine (block_any g.b _).mono ?_
          rintro e w4 ⟨rfl, b4⟩
          have h4 := hD.below b4
          have n4 := hNw.below b4 hNw.lt
          have y4 := hsy.below b4
          have c4 := hb.trans (b4.mono hb.size)
          have hT4 : ∀ b, T b → b < w4.heap.size := fun b hb' => Nat.lt_of_lt_of_le (hT b hb').2.2.2 b4.size
          clear hD hNw hsy hb b4 q0 q1 q2
          go_wp2_with fail
          refine (write_dk h4 c4.size hg.n (blk_length g.b) (by omega)).mono ?_
          rintro e w5 ⟨rfl, S5, h5, d5, s5⟩
          have c5 := h4.out d5 c4
          have n5 := n4.chg d5 hN
          have y5 := y4.chg d5 (fun b hb => (hT b hb).1)
          obtain ⟨q0, q1, q2⟩ := hq _ c5
          have hN5 : ¬ S5 Nb := fun h => (s5 _ h).elim hN (fun hk => by have := n4.lt; omega)
          rw [he]
          rw [he] at h5 hwr
          clear h4 y4 c4
          go_wp2_with fail
          refine (block_any g.b _).mono ?_
          rintro e w6 ⟨rfl, b6⟩
          have h6 := h5.below b6
          have n6 := n5.below b6 n5.lt
          have y6 := y5.below b6
          have c6 := c5.trans (b6.mono c5.size)
          have b6s := b6.size
          clear h5 n5 y5 c5 b6 q0 q1 q2
          obtain ⟨q0, q1, q2⟩ := hq _ c6
          go_wp2_with fail
          simp only [Try.sizeOf35, Result.andThen]
          rw [Oper.upon_value]
          go_wp2_with fail
          have hnl8 : now.length = 8 := hI.nowl
          have hfl : (flatB now).length = 2048 := by rw [flatB_length now hnl, hnl8]
          have hst : (storeCells ⟨Nb, g.n.toNat * 256, none⟩ (cu8 (blk g.b)) 0).run Try.prog w6 = .ok () (w6.setCells Nb (g.n.toNat * 256) (cu8 (blk g.b))) :=
            run_storeCells_cells (P := Try.prog) Nb (g.n.toNat * 256) (cu8 (blk g.b)) 0 w6 (fun i hi => by
              rw [n6.cell]
              rw [cu8_length, blk_length] at hi
              rw [List.getElem?_toArray, List.getElem?_eq_getElem (by rw [hfl]; omega)]
              rfl) (fun i hi => n6.frozen _) (cu8_one _)
          have hcs : (cu8 (blk g.b)).length = 256 := by rw [cu8_length, blk_length]
          simp only [Try.sizeOf35, Result.andThen, ↓reduceIte, hst, hcs]
          rw [Oper.upon_skip]
          have hb7 := Blk.setCells (cu8 (blk g.b)) (g.n.toNat * 256) w6 (flatB now) n6 (by rw [hfl, cu8_length, blk_length]; omega)
          rw [cu8_length, blk_length, flatB_set now hnl _ _ (by omega) (blk_length _)] at hb7
          have d7 := Chg.setCells (M := fun b => b = Nb) (.inl rfl) (cu8 (blk g.b)) (g.n.toNat * 256) _ (Chg.refl (fun b => b = Nb) w6)
          have c7 : Below w.heap.size w _ := c6.trans (d7.below c6.size (fun b hb => by rw [hb]; exact hNb))
          have h7 := h6.chg d7 (fun b hb e => by rw [e] at hb; exact hN5 hb)
          have y7 := y6.chg d7 (fun b hb => (hT b hb).2.1)
          have e67 : w4.heap.size ≤ (w6.setCells Nb (g.n.toNat * 256) (cu8 (blk g.b))).heap.size := by have := d5.size; have := b6s; have := d7.size; omega
          generalize w6.setCells Nb (g.n.toNat * 256) (cu8 (blk g.b)) = w7 at *
          have hT7 : ∀ b, T b → ¬ S5 b ∧ b ≠ Nb ∧ w.heap.size ≤ b ∧ b < w7.heap.size := fun b hb' => ⟨fun hs => (s5 b hs).elim (hT b hb').1 (fun hk => by have := hT4 b hb'; omega), (hT b hb').2.1, (hT b hb').2.2.1, by have := hT4 b hb'; omega⟩
          clear hst h6 n6 y6 c6 d7 q0 q1 q2 hcs
          obtain ⟨q0, q1, q2⟩ := hq _ c7
          go_wp2_with fail
          exact ⟨⟨j + 1, _, sy, _, S5, T, by omega, by go_num, hwr, h7, hb7, y7, hT7, hN5, c7, hsl, fun x hx => (List.mem_or_eq_of_mem_set hx).elim (hnl x) (fun e => by rw [e]; exact blk_length _)⟩, by simp [intOf]; omega⟩
        · clear k0 hwr
          rcases (by omega : g.n < 0 ∨ (0 ≤ g.n ∧ 8 ≤ g.n)) with hn1 | ⟨hn1, hn2⟩
          · clear hn
            go_wp2_with fail
            exact ⟨⟨j + 1, D, sy, now, S, T, by omega, by go_num, hsk, hD.more (by omega), hNw, hsy, hT, hN, hb, hsl, hnl⟩, by simp [intOf]; omega⟩
          · clear hn
            go_wp2_with fail
            exact ⟨⟨j + 1, D, sy, now, S, T, by omega, by go_num, hsk, hD.more (by omega), hNw, hsy, hT, hN, hb, hsl, hnl⟩, by simp [intOf]; omega⟩
      · have t0 : (g.kind.tmod 3 == 0) = false := by simpa using k0
        clear hwr k0
        by_cases k2 : g.kind.tmod 3 = 2
        · have t2 : (g.kind.tmod 3 == 2) = true := by rw [k2]; rfl
          clear hsk k2
          have hs1 := hI.sync
          have he := hI.sync_e
          have hnl8 : now.length = 8 := hI.nowl
          go_wp2_with fail
          refine (sync_dk hD (by omega)).mono ?_
          rintro e w4 ⟨rfl, h4, d4⟩
          have c4 := hD.out d4 hb
          have n4 := hNw.chg d4 hN
          rw [he]
          rw [he] at h4 hs1
          clear hD hb q0 q1 q2
          have hnow : Cs w4 (fun b => b = Nb) 256 (.slice (some ⟨Nb, 0, none⟩) 8 8) 8 (flatB now) :=
            ⟨by rw [flatB_length now hnl, hnl8], _, 8, rfl, Nat.le_refl _, by decide, fun _ => ⟨Nb, 0, rfl, rfl, n4.lt, fun i u hu => n4.range i u hu⟩⟩
          have hown := Own.empty w4 35 256
          have hnew := hnow.below ((Below.refl _ w4).alloc (Nat.le_refl _) (.cells #[] 35))
          go_wp2_with fail
          simp only [Try.sizeOf35, Result.andThen]
          rw [Oper.upon_value]
          go_wp2_with (at_builtin; refine wpList_app _ rfl _ _ _ rfl Try.underlying41 info_block3 (by rw [Value.cells, List.size_toArray, cu8_length, noughts, List.length_replicate]) (by decide) hown rfl hnew rfl flatB_one (by decide) (by decide) ?_; intro v5 w5 ho5 hg5 hnil5 hat5)
          have d5 : Chg (fun b => w4.heap.size ≤ b) w4 w5 := ((Chg.refl _ w4).alloc _).trans (hg5.mono (fun b hb => by simp [Value.ownBlock] at hb; omega)) (fun _ h => .inl h)
          have b5 : Below w4.heap.size w4 w5 := d5.below (Nat.le_refl _) (fun _ h => h)
          have c5 := c4.trans (b5.mono c4.size)
          obtain ⟨q0, q1, q2⟩ := hq _ c5
          have hv5 : ∀ k, v5.ownBlock = some k → w4.heap.size ≤ k := fun k hk => by
            rcases hat5 with e | e <;> rw [e] at hk <;> simp [Value.ownBlock] at hk <;> omega
          rw [show 0 + 8 = 8 from rfl, List.nil_append] at ho5
          refine ⟨⟨j + 1, _, now, now, S, fun b => v5.ownBlock = some b, by omega, by go_num, hs1, (h4.below b5).more (by omega), n4.below b5 n4.lt, Cs.of_own ho5 (fun _ h => h), fun b hb' => ⟨fun hs => by have := hv5 b hb'; have := h4.lt b hs; omega, fun e => by have := hv5 b hb'; have := n4.lt; omega, by have := hv5 b hb'; have := c4.size; omega, own_lt ho5 hb'⟩, hN, c5, hnl, hnl⟩, by simp [intOf]; omega⟩
        · have t2 : (g.kind.tmod 3 == 2) = false := by simpa using k2
          have hsk := hsk k2
          clear k2
          go_wp2_with fail
          exact ⟨⟨j + 1, D, sy, now, S, T, by omega, by go_num, hsk, hD.more (by omega), hNw, hsy, hT, hN, hb, hsl, hnl⟩, by simp [intOf]; omega⟩
    · obtain rfl : j = gs.length := by omega
      have hlo : D.loose.length ≤ 1048576 := by have := hD.fine.size; omega
      have hmk := run_make_bools D.loose.length hlo wr
      go_wp2_with fail
      refine (loose_any p S D _ hD.is).mono ?_
      rintro e w4 ⟨rfl, rfl⟩
      go_wp2_with fail
      have hA0 := Blk.new w4 4 (bools (List.replicate D.loose.length false)).toArray
      have hD0 := hD.alloc (.cells (bools (List.replicate D.loose.length false)).toArray 4)
      have hN0 := hNw.alloc (.cells (bools (List.replicate D.loose.length false)).toArray 4)
      have hs0 := hsy.below ((Below.refl _ w4).alloc (Nat.le_refl _) (.cells (bools (List.replicate D.loose.length false)).toArray 4))
      have hb0 := hb.alloc hb.size (.cells (bools (List.replicate D.loose.length false)).toArray 4)
      have hlS := hD.lt
      have hlN := hNw.lt
      have hbs := hb.size
      clear hmk hD hNw hsy hb
      generalize w4.alloc (.cells (bools (List.replicate D.loose.length false)).toArray 4) = W0 at *
      go_loopw [13] (fun i wq => ∃ k : Nat, k ≤ D.loose.length ∧ i = .int .i64 k ∧ Blk wq w4.heap.size 4 (bools (List.replicate k true ++ List.replicate (D.loose.length - k) false)).toArray ∧ Chg (fun b => b = w4.heap.size) W0 wq) (fun i _ => D.loose.length - (intOf i).toNat)
      case atStart => exact ⟨0, Nat.zero_le _, rfl, by simpa using hA0, Chg.refl _ _⟩
      case round =>
        obtain ⟨k, hk', rfl, hA1, d1⟩ := hrel
        by_cases hkl : k < D.loose.length
        · have hc := hA1.cell k
          have hf := hA1.frozen k
          rw [show (bools (List.replicate k true ++ List.replicate (D.loose.length - k) false)).toArray[k]? = some (.bool false) by simp [bools, show 0 < D.loose.length - k by omega]] at hc
          have hset := hA1.set_ k (.bool true)
          rw [show (bools (List.replicate k true ++ List.replicate (D.loose.length - k) false)).toArray.setIfInBounds k (.bool true) = (bools (List.replicate (k + 1) true ++ List.replicate (D.loose.length - (k + 1)) false)).toArray by rw [List.setIfInBounds_toArray, bools, ← List.map_set, fill_true hkl]; rfl] at hset
          go_wp2_with fail
          exact ⟨⟨k + 1, by omega, by go_num, hset, d1.setIn k _⟩, by simp [intOf]; omega⟩
        · obtain rfl : k = D.loose.length := by omega
          rw [Nat.sub_self, List.replicate_zero, List.append_nil] at hA1
          have hD1 := hD0.chg d1 (fun b hb e => by have := hlS b hb; omega)
          have hN1 := hN0.chg d1 (fun e => by omega)
          have hs1 := hs0.chg d1 (fun b hb e => by have := (hT b hb).2.2.2; omega)
          have hb1 : Below w.heap.size w _ := hb0.trans (d1.below hb0.size (fun b e => by omega))
          have d1s := d1.size
          have hW0 : w4.heap.size + 1 ≤ W0.heap.size := by have := hA0.lt; omega
          clear hD0 hN0 hs0 hb0 d1
          go_wp2_with fail
          refine (copy_dk hD1 hb1.size (by omega)).mono ?_
          rintro e w5 ⟨qa, Ta, rfl, ha, b5, ta⟩
          have hD2 := hD1.below b5
          have hA2 := hA1.below b5 hA1.lt
          have hN2 := hN1.below b5 hN1.lt
          have hs2 := hs1.below b5
          have hb2 := hb1.trans (b5.mono hb1.size)
          have l1 := hD1.lt
          have lA1 := hA1.lt
          have lN1 := hN1.lt
          have lw1 := d1s
          go_wp2_with fail
          refine (copy_dk hD2 hb2.size (by omega)).mono ?_
          rintro e w6 ⟨qb, Tb, rfl, hbk, b6, tb⟩
          have hD3 := hD2.below b6
          have ha3 := ha.below b6
          have hA3 := hA2.below b6 hA2.lt
          have hN3 := hN2.below b6 hN2.lt
          have hs3 := hs2.below b6
          have hb3 := hb2.trans (b6.mono hb2.size)
          have l2 := hD2.lt
          have la2 := ha.lt
          have lA2 := hA2.lt
          have lN2 := hN2.lt
          have e5 := b5.size
          have xSa : ∀ b, S b → ¬ Ta b := fun b h1 h2 => by have := l1 b h1; have := ta b h2; omega
          have xSb : ∀ b, S b → ¬ Tb b := fun b h1 h2 => by have := l2 b h1; have := tb b h2; omega
          have xab : ∀ b, Ta b → ¬ Tb b := fun b h1 h2 => by have := la2 b h1; have := tb b h2; omega
          have xaA : ¬ Ta w4.heap.size := fun h => by have := ta _ h; omega
          have xbA : ¬ Tb w4.heap.size := fun h => by have := tb _ h; omega
          have xSA : ¬ S w4.heap.size := fun h => by have := hlS _ h; omega
          have xaN : ¬ Ta Nb := fun h => by have := ta _ h; omega
          have xbN : ¬ Tb Nb := fun h => by have := tb _ h; omega
          have xT : ∀ b, T b → ¬ S b ∧ ¬ Ta b ∧ ¬ Tb b := fun b h => ⟨(hT b h).1, fun h2 => by have := ta b h2; have := (hT b h).2.2.2; omega, fun h2 => by have := tb b h2; have := (hT b h).2.2.2; omega⟩
          clear hD1 hA1 hN1 hs1 hb1 b5 ta hD2 hA2 hN2 hs2 hb2 b6 tb ha l1 lA1 lN1 l2 la2 lA2 lN2 e5 hlS
          go_wp2_with fail
          refine (up_dk ha3 (keep := []) (Cs.nil_ _ (fun _ => False) _) torn (by omega)).mono ?_
          rintro e w7 ⟨rfl, ha4, d7⟩
          have hb4 := ha3.out d7 hb3
          have hD4 := hD3.chg d7 xSa
          have hbk4 := hbk.chg d7 (fun b h1 h2 => xab b h2 h1)
          have hA4 := hA3.chg d7 xaA
          have hN4 := hN3.chg d7 xaN
          have hs4 := hs3.chg d7 (fun b h => (xT b h).2.1)
          clear hD3 ha3 hA3 hN3 hs3 hb3 hbk d7
          have hall : Cs w7 (fun b => b = w4.heap.size) 1 (.slice (some ⟨w4.heap.size, 0, none⟩) D.loose.length D.loose.length) (List.replicate D.loose.length true).length (bools (List.replicate D.loose.length true)) :=
            ⟨by simp [bools], _, D.loose.length, by simp, by simp, by simp only [maxLen]; omega, fun _ => ⟨w4.heap.size, 0, rfl, rfl, hA4.lt, fun i u hu => by rw [Nat.zero_add, hA4.cell]; simpa using hu⟩⟩
          go_wp2_with fail
          refine (up_dk hbk4 hall (-1) (by omega)).mono ?_
          rintro e w8 ⟨rfl, hbk5, d8⟩
          have hb5 := hbk4.out d8 hb4
          have hD5 := hD4.chg d8 xSb
          have ha5 := ha4.chg d8 xab
          have hA5 := hA4.chg d8 xbA
          have hN5 := hN4.chg d8 xbN
          have hs5 := hs4.chg d8 (fun b h => (xT b h).2.2)
          clear hD4 ha4 hA4 hN4 hs4 hb4 hbk4 d8 hall
          go_wp2_with fail
          refine (up_dk hD5 (hk.below hb5) torn (by omega)).mono ?_
          rintro e w9 ⟨rfl, hD6, d9⟩
          have hb6 := hD5.out d9 hb5
          have ha6 := ha5.chg d9 (fun b h1 h2 => xSa b h2 h1)
          have hbk6 := hbk5.chg d9 (fun b h1 h2 => xSb b h2 h1)
          have hN6 := hN5.chg d9 hN
          have hs6 := hs5.chg d9 (fun b h => (xT b h).1)
          clear hD5 ha5 hA5 hN5 hs5 hb5 hbk5 d9
          go_upto_block 4 with fail
          go_cut [16, 17] (fun v i wx => wx = w9 ∧ v = .bool ((keep.take (min keep.length D.loose.length)).any id))
          case first =>
            go_wp2_with fail
            go_loopw [16, 17] (fun v i wq => wq = w9 ∧ ∃ k : Nat, k ≤ keep.length ∧ k ≤ D.loose.length ∧ i = .int .i64 k ∧ v = .bool ((keep.take k).any id)) (fun _ i _ => keep.length - (intOf i).toNat)
            case atStart => exact ⟨rfl, 0, Nat.zero_le _, Nat.zero_le _, rfl, rfl⟩
            case round =>
              obtain ⟨rfl, k, hk1, hk2, rfl, rfl⟩ := hrel
              by_cases hlt2 : k < keep.length ∧ k < D.loose.length
              · obtain ⟨hl1, hl2⟩ := hlt2
                obtain ⟨_, _, _, hke, _, _, hkp⟩ := hk.below hb6
                obtain ⟨bk, offk, hAk, _, _, hkc⟩ := hkp (by omega)
                injection hke with hke _ _
                rw [hAk] at hke
                have hcell := hkc k _ (by rw [bools, List.getElem?_map, List.getElem?_eq_getElem hl1]; rfl)
                clear hkc hkp
                subst hke
                have hany : (keep.take (k + 1)).any id = ((keep.take k).any id || keep[k]) := by
                  rw [List.take_succ_eq_append_getElem hl1, List.any_append]; simp
                have Hany := Lib.hid hany; clear hany
                generalize keep[k] = kb at *
                cases hsm : (keep.take k).any id
                · go_wp2_with fail
                  refine ⟨⟨trivial, k + 1, by omega, by omega, by go_num, ?_⟩, by simp [intOf]; omega⟩
                  rw [Hany.out, hsm]; rfl
                · go_wp2_with fail
                  refine ⟨⟨trivial, k + 1, by omega, by omega, by go_num, ?_⟩, by simp [intOf]; omega⟩
                  rw [Hany.out, hsm]; rfl
              · rcases (by omega : k = keep.length ∨ (k < keep.length ∧ k = D.loose.length)) with hx | ⟨hx, hx2⟩
                · have hxx : ¬ (k : Int) < (keep.length : Int) := by omega
                  go_wp2_with fail
                  go_meet
                  exact ⟨rfl, by rw [Nat.min_eq_left (by omega), List.take_length]⟩
                · have hxx : (k : Int) < (keep.length : Int) := by omega
                  have hxx2 : ¬ (k : Int) < (D.loose.length : Int) := by omega
                  go_wp2_with fail
                  go_meet
                  exact ⟨rfl, by rw [Nat.min_eq_right (by omega), ← hx2]⟩
          case rest =>
            obtain ⟨rfl, rfl⟩ := hcut
            have hsome : (keep.take (min keep.length D.loose.length)).any id = false → ∀ i, i < D.loose.length → keep[i]? ≠ some true := fun hs i hi e => by
              obtain ⟨hi2, he⟩ := List.getElem?_eq_some_iff.1 e
              rw [List.any_eq_false] at hs
              exact hs true (List.mem_iff_getElem?.2 ⟨i, by rw [List.getElem?_take_of_lt (by omega)]; exact e⟩) rfl
            generalize (keep.take (min keep.length D.loose.length)).any id = sm at *
            have hrd : ∀ k : Nat, (hk8 : k < 8) → ∃ x y z : List Int, sy[k]? = some x ∧ now[k]? = some y ∧ (D.up [] torn).read k = (x, 0) ∧ (D.up (List.replicate D.loose.length true) (-1)).read k = (y, 0) ∧ (D.up keep torn).read k = (z, 0) ∧ z.length = 256 ∧ (sm = false → z = x) ∧ (torn < 0 → wroteF gs k = false → z = x) := fun k hk8 => by
              refine ⟨sy[k]'(by rw [hI.syl]; exact hk8), now[k]'(by rw [hI.nowl]; exact hk8), _, List.getElem?_eq_getElem _, List.getElem?_eq_getElem _, hI.none_read (fun i _ => by simp) torn hk8, hI.all_read hk8, up_read D hI.blocks keep torn k hk8, ?_, fun hs => ?_, fun _ hw => ?_⟩
              · have := hD6.fine.read_length k
                rw [up_read D hI.blocks keep torn k hk8] at this
                exact this
              · have := hI.none_read (hsome hs) torn hk8
                rw [up_read D hI.blocks keep torn k hk8] at this
                exact congrArg Prod.fst this
              · have := hI.other_read keep torn hk8 hw
                rw [up_read D hI.blocks keep torn k hk8] at this
                exact congrArg Prod.fst this
            have hsyl := hI.syl
            have hnowl := hI.nowl
            have hz := (zero_of_info info_block).1
            obtain ⟨Z, hZ⟩ : ∃ Z, Z = (cu8 noughts).toArray := ⟨_, rfl⟩
            rw [← hZ] at hz
            have hZs : Z.size = 256 := by rw [hZ, List.size_toArray, cu8_length, noughts, List.length_replicate]
            clear hZ
            go_wp2_with fail
            go_loopw [18] (fun i wq => ∃ k : Nat, k ≤ 8 ∧ i = .int .i64 k ∧ Below wc.heap.size wc wq) (fun i _ => 8 - (intOf i).toNat)
            case atStart => exact ⟨0, by omega, rfl, Below.refl _ _⟩
            case round =>
              obtain ⟨k, hk', rfl, hB⟩ := hrel
              by_cases hk8 : k < 8
              · obtain ⟨x, y, z, ex, ey, r1, r2, r3, hzl, c1, c2⟩ := hrd k hk8
                have hxl : x.length = 256 := hsl x (List.mem_of_getElem? ex)
                have hyl : y.length = 256 := hnl y (List.mem_of_getElem? ey)
                have hwk : (Lit.int .i64 (k : Int)).wf = true := by simp [Lit.wf, IntKind.min, IntKind.max, IntKind.signed, IntKind.bits]; omega
                have hys := (zero_of_info info_block).2
                have hst := fun (l : List Int) (hl : l.length = 256) w => run_storeCells_new (P := Try.prog) w 35 Z (cu8 l).toArray (by rw [List.size_toArray, cu8_length, hl]; exact hys) (by rw [hZs, List.size_toArray, cu8_length, hl]) (all_oneCell_toArray (cu8_one _))
                have hst1 := hst x hxl
                have hst2 := hst y hyl
                have hst3 := hst z hzl
                have hx1 : (cu8 x).toArray.size = 256 := by rw [List.size_toArray, cu8_length, hxl]
                have hx2 : (cu8 y).toArray.size = 256 := by rw [List.size_toArray, cu8_length, hyl]
                have hx3 : (cu8 z).toArray.size = 256 := by rw [List.size_toArray, cu8_length, hzl]
                clear hys hst
                go_wp2_with fail
                refine (read_dk (ha6.below hB) hwk (by omega)).mono ?_
                rintro e v1 ⟨rfl, f1⟩
                rw [r1]
                simp only
                have B1 := hB.trans (f1.mono hB.size)
                go_wp2_with fail
                simp only [Try.sizeOf35, Result.andThen, ↓reduceIte, hst1]
                rw [Oper.upon_skip]
                go_wp2_with fail
                have k1 := Blk.new v1 35 (cu8 x).toArray
                have B2 := B1.alloc B1.size (.cells (cu8 x).toArray 35)
                generalize v1.alloc (.cells (cu8 x).toArray 35) = v2 at *
                generalize v1.heap.size = X1 at *
                clear B1 f1
                refine (read_dk (hbk6.below B2) hwk (by omega)).mono ?_
                rintro e v3 ⟨rfl, f3⟩
                rw [r2]
                simp only
                have B3 := B2.trans (f3.mono B2.size)
                have k3 := k1.below f3 k1.lt
                clear B2 k1 f3
                go_wp2_with fail
                simp only [Try.sizeOf35, Result.andThen, ↓reduceIte, hst2]
                rw [Oper.upon_skip]
                go_wp2_with fail
                have j4 := Blk.new v3 35 (cu8 y).toArray
                have k4 := k3.alloc (.cells (cu8 y).toArray 35)
                have B4 := B3.alloc B3.size (.cells (cu8 y).toArray 35)
                generalize v3.alloc (.cells (cu8 y).toArray 35) = v4 at *
                generalize v3.heap.size = X2 at *
                clear B3 k3
                refine (read_dk (hD6.below B4) hwk (by omega)).mono ?_
                rintro e v5 ⟨rfl, f5⟩
                rw [r3]
                simp only
                have B5 := B4.trans (f5.mono B4.size)
                have k5 := k4.below f5 k4.lt
                have j5 := j4.below f5 j4.lt
                clear B4 k4 j4 f5
                go_wp2_with fail
                simp only [Try.sizeOf35, Result.andThen, ↓reduceIte, hst3]
                rw [Oper.upon_skip]
                go_wp2_with fail
                have i6 := Blk.new v5 35 (cu8 z).toArray
                have k6 := k5.alloc (.cells (cu8 z).toArray 35)
                have j6 := j5.alloc (.cells (cu8 z).toArray 35)
                have B6 := B5.alloc B5.size (.cells (cu8 z).toArray 35)
                generalize v5.alloc (.cells (cu8 z).toArray 35) = v6 at *
                generalize v5.heap.size = X3 at *
                clear B5 k5 j5 hst1 hst2 hst3
                obtain ⟨bs, offs, hAs, _, hbs', hrs⟩ := blocks_at (l := sy) (by rw [hsyl]; exact hs6) hsl (k := k) (by omega)
                subst hAs
                have hSE : ∀ w', Below v6.heap.size v6 w' → Below wc.heap.size wc w' := fun w' hb => B6.trans (hb.mono B6.size)
                have BW : ∀ w', Below v6.heap.size v6 w' → Below w.heap.size w w' := fun w' hb => hb6.trans ((hSE w' hb).mono hb6.size)
                have hS0 : Below v6.heap.size v6 v6.drew := (Below.refl _ _).drew
                have g1 : ∀ w', Below v6.heap.size v6 w' → w'.rangeAt X1 0 (cu8 x) := fun w' hb => (k6.below hb k6.lt).range
                have g2 : ∀ w', Below v6.heap.size v6 w' → w'.rangeAt X2 0 (cu8 y) := fun w' hb => (j6.below hb j6.lt).range
                have g3 : ∀ w', Below v6.heap.size v6 w' → w'.rangeAt X3 0 (cu8 z) := fun w' hb => (i6.below hb i6.lt).range
                have g4 : ∀ w', Below v6.heap.size v6 w' → w'.rangeAt bs (offs + k * 256) (cu8 x) := fun w' hb i v hv => by
                  rw [List.getElem?_eq_getElem (by omega)] at ex
                  injection ex with ex
                  rw [ex] at hrs
                  exact ((hSE w' hb).cell (p := ⟨bs, offs + k * 256 + i, none⟩) hbs').trans (hrs i v hv)
                have g5 : ∀ w', Below v6.heap.size v6 w' → w'.rangeAt Nb (k * 256) (cu8 y) := fun w' hb i v hv => by
                  have hN7 := hN6.below (hSE w' hb) hN6.lt
                  rw [hN7.cell]
                  rw [List.getElem?_toArray]
                  have hi : i < 256 := by
                    have := (List.getElem?_eq_some_iff.1 hv).1
                    rw [cu8_length, hyl] at this; exact this
                  exact (flatB_get now hnl k y ey i hi).trans hv
                have hi' : ∀ l : List Int, l.length = 256 → (Try.prog.info? 35).map (·.size) = some (cu8 l).length := fun l hl => by rw [cu8_length, hl]; exact (zero_of_info info_block).2
                have hix := hi' x hxl
                have hiy := hi' y hyl
                have hiz := hi' z hzl
                clear hi' hx1 hx2 hx3 r1 r2 r3
                have c2' := Lib.hid c2; clear c2; have c2 := c2'; clear c2'
                refine wp_region_segs [([0, 1, 2, 3, 4, 5, 6, 7, 8, 9, 10, 11, 12, 13, 14, 15, 16, 17, 18, 19, 20, 21, 22, 23, 24, 25, 26, 27, 28, 29, 30, 31, 32, 33, 34, 35, 36, 37, 38, 39, 40, 41, 42], [43]), ([44, 45, 46, 47, 48, 49, 50, 51, 52, 53, 54], [])] (fun w' => Below v6.heap.size v6 w') (by kernel_rfl) (by kernel_rfl) (by kernel_rfl) (by kernel_rfl) hS0 ?_
                refine (show HoistK _ _ _ [0, 1, 2, 3, 4, 5, 6, 7, 8, 9, 10, 11, 12, 13, 14, 15, 16, 17, 18, 19, 20, 21, 22, 23, 24, 25, 26, 27, 28, 29, 30, 31, 32, 33, 34, 35, 36, 37, 38, 39, 40, 41, 42] _ _ from ?_)
                (refine HoistK.load (by rfl) (by kernel_rfl) 35 _ rfl X1 (0) rfl (cu8 x) _ g1 Try.underlying35 rfl hix ?_; simp only [Act.put, List.setIfInBounds_toArray, List.getElem_toArray, List.getElem_cons_zero, List.set_cons_succ, List.set_cons_zero])
                (refine HoistK.yes (by rfl) (by kernel_rfl) ⟨?_, fun w hSw => ?_, ?_⟩; rotate_left; (· go_simp; try with_reducible rfl); simp only [Act.put, List.setIfInBounds_toArray, List.getElem_toArray, List.getElem_cons_succ, List.getElem_cons_zero, List.set_cons_succ, List.set_cons_zero])
                (refine HoistK.yes (by rfl) (by kernel_rfl) ⟨?_, fun w hSw => ?_, ?_⟩; rotate_left; (· go_simp; try with_reducible rfl); simp only [Act.put, List.setIfInBounds_toArray, List.getElem_toArray, List.getElem_cons_succ, List.getElem_cons_zero, List.set_cons_succ, List.set_cons_zero])
                (refine HoistK.yes (by rfl) (by kernel_rfl) ⟨?_, fun w hSw => ?_, ?_⟩; rotate_left; (· go_simp; simp only [Try.sizeOf35, Result.andThen]; try with_reducible rfl); simp only [Act.put, List.setIfInBounds_toArray, List.getElem_toArray, List.getElem_cons_succ, List.getElem_cons_zero, List.set_cons_succ, List.set_cons_zero])
                (refine HoistK.load (by rfl) (by kernel_rfl) 35 _ rfl bs (offs + k * 256) rfl (cu8 x) _ g4 Try.underlying35 rfl hix ?_; simp only [Act.put, List.setIfInBounds_toArray, List.getElem_toArray, List.getElem_cons_succ, List.getElem_cons_zero, List.set_cons_succ, List.set_cons_zero])
                (refine HoistK.yes (by rfl) (by kernel_rfl) ⟨.bool false, fun w hSw => ?_, ?_⟩; (· have q := run_equal_block w x x hxl hxl; rw [decide_eq_true rfl] at q; go_simp); simp only [Act.put, List.setIfInBounds_toArray, List.getElem_toArray, List.getElem_cons_succ, List.getElem_cons_zero, List.set_cons_succ, List.set_cons_zero])
                (refine HoistK.yes (by rfl) (by kernel_rfl) ⟨?_, fun w hSw => ?_, ?_⟩; rotate_left; (· go_simp; try with_reducible rfl); simp only [Act.put, List.setIfInBounds_toArray, List.getElem_toArray, List.getElem_cons_succ, List.getElem_cons_zero, List.set_cons_succ, List.set_cons_zero])
                (refine HoistK.load (by rfl) (by kernel_rfl) 35 _ rfl X2 (0) rfl (cu8 y) _ g2 Try.underlying35 rfl hiy ?_; simp only [Act.put, List.setIfInBounds_toArray, List.getElem_toArray, List.getElem_cons_succ, List.getElem_cons_zero, List.set_cons_succ, List.set_cons_zero])
                (refine HoistK.yes (by rfl) (by kernel_rfl) ⟨?_, fun w hSw => ?_, ?_⟩; rotate_left; (· go_simp; try with_reducible rfl); simp only [Act.put, List.setIfInBounds_toArray, List.getElem_toArray, List.getElem_cons_succ, List.getElem_cons_zero, List.set_cons_succ, List.set_cons_zero])
                (refine HoistK.yes (by rfl) (by kernel_rfl) ⟨?_, fun w hSw => ?_, ?_⟩; rotate_left; (· go_simp; try with_reducible rfl); simp only [Act.put, List.setIfInBounds_toArray, List.getElem_toArray, List.getElem_cons_succ, List.getElem_cons_zero, List.set_cons_succ, List.set_cons_zero])
                (refine HoistK.yes (by rfl) (by kernel_rfl) ⟨?_, fun w hSw => ?_, ?_⟩; rotate_left; (· go_simp; simp only [Try.sizeOf35, Result.andThen]; try with_reducible rfl); simp only [Act.put, List.setIfInBounds_toArray, List.getElem_toArray, List.getElem_cons_succ, List.getElem_cons_zero, List.set_cons_succ, List.set_cons_zero])
                (refine HoistK.load (by rfl) (by kernel_rfl) 35 _ rfl Nb (k * 256) rfl (cu8 y) _ g5 Try.underlying35 rfl hiy ?_; simp only [Act.put, List.setIfInBounds_toArray, List.getElem_toArray, List.getElem_cons_succ, List.getElem_cons_zero, List.set_cons_succ, List.set_cons_zero])
                (refine HoistK.yes (by rfl) (by kernel_rfl) ⟨.bool false, fun w hSw => ?_, ?_⟩; (· have q := run_equal_block w y y hyl hyl; rw [decide_eq_true rfl] at q; go_simp); simp only [Act.put, List.setIfInBounds_toArray, List.getElem_toArray, List.getElem_cons_succ, List.getElem_cons_zero, List.set_cons_succ, List.set_cons_zero])
                (refine HoistK.yes (by rfl) (by kernel_rfl) ⟨?_, fun w hSw => ?_, ?_⟩; rotate_left; (· go_simp; try with_reducible rfl); simp only [Act.put, List.setIfInBounds_toArray, List.getElem_toArray, List.getElem_cons_succ, List.getElem_cons_zero, List.set_cons_succ, List.set_cons_zero])
                (refine HoistK.yes (by rfl) (by kernel_rfl) ⟨?_, fun w hSw => ?_, ?_⟩; rotate_left; (· go_simp; try with_reducible rfl); simp only [Act.put, List.setIfInBounds_toArray, List.getElem_toArray, List.getElem_cons_succ, List.getElem_cons_zero, List.set_cons_succ, List.set_cons_zero])
                cases sm
                · have hzx := Lib.hid (c1 rfl)
                  clear c1
                  (refine HoistK.yes (by rfl) (by kernel_rfl) ⟨?_, fun w hSw => ?_, ?_⟩; rotate_left; (· go_simp; try with_reducible rfl); simp only [Act.put, List.setIfInBounds_toArray, List.getElem_toArray, List.getElem_cons_succ, List.getElem_cons_zero, List.set_cons_succ, List.set_cons_zero])
                  (refine HoistK.yes (by rfl) (by kernel_rfl) ⟨?_, fun w hSw => ?_, ?_⟩; rotate_left; (· go_simp; try with_reducible rfl); simp only [Act.put, List.setIfInBounds_toArray, List.getElem_toArray, List.getElem_cons_succ, List.getElem_cons_zero, List.set_cons_succ, List.set_cons_zero])
                  (refine HoistK.yes (by rfl) (by kernel_rfl) ⟨?_, fun w hSw => ?_, ?_⟩; rotate_left; (· go_simp; try with_reducible rfl); simp only [Act.put, List.setIfInBounds_toArray, List.getElem_toArray, List.getElem_cons_succ, List.getElem_cons_zero, List.set_cons_succ, List.set_cons_zero])
                  (refine HoistK.load (by rfl) (by kernel_rfl) 35 _ rfl X3 (0) rfl (cu8 z) _ g3 Try.underlying35 rfl hiz ?_; simp only [Act.put, List.setIfInBounds_toArray, List.getElem_toArray, List.getElem_cons_succ, List.getElem_cons_zero, List.set_cons_succ, List.set_cons_zero])
                  (refine HoistK.yes (by rfl) (by kernel_rfl) ⟨?_, fun w hSw => ?_, ?_⟩; rotate_left; (· go_simp; try with_reducible rfl); simp only [Act.put, List.setIfInBounds_toArray, List.getElem_toArray, List.getElem_cons_succ, List.getElem_cons_zero, List.set_cons_succ, List.set_cons_zero])
                  (refine HoistK.yes (by rfl) (by kernel_rfl) ⟨?_, fun w hSw => ?_, ?_⟩; rotate_left; (· go_simp; try with_reducible rfl); simp only [Act.put, List.setIfInBounds_toArray, List.getElem_toArray, List.getElem_cons_succ, List.getElem_cons_zero, List.set_cons_succ, List.set_cons_zero])
                  (refine HoistK.yes (by rfl) (by kernel_rfl) ⟨?_, fun w hSw => ?_, ?_⟩; rotate_left; (· go_simp; simp only [Try.sizeOf35, Result.andThen]; try with_reducible rfl); simp only [Act.put, List.setIfInBounds_toArray, List.getElem_toArray, List.getElem_cons_succ, List.getElem_cons_zero, List.set_cons_succ, List.set_cons_zero])
                  (refine HoistK.load (by rfl) (by kernel_rfl) 35 _ rfl bs (offs + k * 256) rfl (cu8 x) _ g4 Try.underlying35 rfl hix ?_; simp only [Act.put, List.setIfInBounds_toArray, List.getElem_toArray, List.getElem_cons_succ, List.getElem_cons_zero, List.set_cons_succ, List.set_cons_zero])
                  (refine HoistK.yes (by rfl) (by kernel_rfl) ⟨.bool false, fun w hSw => ?_, ?_⟩; (· have q := run_equal_block w z x hzl hxl; rw [decide_eq_true hzx.out] at q; go_simp); simp only [Act.put, List.setIfInBounds_toArray, List.getElem_toArray, List.getElem_cons_succ, List.getElem_cons_zero, List.set_cons_succ, List.set_cons_zero])
                  (refine HoistK.yes (by rfl) (by kernel_rfl) ⟨?_, fun w hSw => ?_, ?_⟩; rotate_left; (· go_simp; try with_reducible rfl); simp only [Act.put, List.setIfInBounds_toArray, List.getElem_toArray, List.getElem_cons_succ, List.getElem_cons_zero, List.set_cons_succ, List.set_cons_zero])
                  (refine HoistK.yes (by rfl) (by kernel_rfl) ⟨?_, fun w hSw => ?_, ?_⟩; rotate_left; (· go_simp; try with_reducible rfl); simp only [Act.put, List.setIfInBounds_toArray, List.getElem_toArray, List.getElem_cons_succ, List.getElem_cons_zero, List.set_cons_succ, List.set_cons_zero])
                  (refine HoistK.yes (by rfl) (by kernel_rfl) ⟨?_, fun w hSw => ?_, ?_⟩; rotate_left; (· go_simp; try with_reducible rfl); simp only [Act.put, List.setIfInBounds_toArray, List.getElem_toArray, List.getElem_cons_succ, List.getElem_cons_zero, List.set_cons_succ, List.set_cons_zero])
                  (refine HoistK.yes (by rfl) (by kernel_rfl) ⟨?_, fun w hSw => ?_, ?_⟩; rotate_left; (· go_simp; try with_reducible rfl); simp only [Act.put, List.setIfInBounds_toArray, List.getElem_toArray, List.getElem_cons_succ, List.getElem_cons_zero, List.set_cons_succ, List.set_cons_zero])
                  (refine HoistK.yes (by rfl) (by kernel_rfl) ⟨?_, fun w hSw => ?_, ?_⟩; rotate_left; (· go_simp; try with_reducible rfl); simp only [Act.put, List.setIfInBounds_toArray, List.getElem_toArray, List.getElem_cons_succ, List.getElem_cons_zero, List.set_cons_succ, List.set_cons_zero])
                  (refine HoistK.yes (by rfl) (by kernel_rfl) ⟨?_, fun w hSw => ?_, ?_⟩; rotate_left; (· go_simp; simp only [Try.sizeOf35, Result.andThen]; try with_reducible rfl); simp only [Act.put, List.setIfInBounds_toArray, List.getElem_toArray, List.getElem_cons_succ, List.getElem_cons_zero, List.set_cons_succ, List.set_cons_zero])
                  (refine HoistK.load (by rfl) (by kernel_rfl) 35 _ rfl bs (offs + k * 256) rfl (cu8 x) _ g4 Try.underlying35 rfl hix ?_; simp only [Act.put, List.setIfInBounds_toArray, List.getElem_toArray, List.getElem_cons_succ, List.getElem_cons_zero, List.set_cons_succ, List.set_cons_zero])
                  (refine HoistK.yes (by rfl) (by kernel_rfl) ⟨?_, fun w hSw => ?_, ?_⟩; rotate_left; (· go_simp; try with_reducible rfl); simp only [Act.put, List.setIfInBounds_toArray, List.getElem_toArray, List.getElem_cons_succ, List.getElem_cons_zero, List.set_cons_succ, List.set_cons_zero])
                  (refine HoistK.yes (by rfl) (by kernel_rfl) ⟨?_, fun w hSw => ?_, ?_⟩; rotate_left; (· go_simp; try with_reducible rfl); simp only [Act.put, List.setIfInBounds_toArray, List.getElem_toArray, List.getElem_cons_succ, List.getElem_cons_zero, List.set_cons_succ, List.set_cons_zero])
                  (refine HoistK.yes (by rfl) (by kernel_rfl) ⟨?_, fun w hSw => ?_, ?_⟩; rotate_left; (· go_simp; simp only [Try.sizeOf35, Result.andThen]; try with_reducible rfl); simp only [Act.put, List.setIfInBounds_toArray, List.getElem_toArray, List.getElem_cons_succ, List.getElem_cons_zero, List.set_cons_succ, List.set_cons_zero])
                  (refine HoistK.load (by rfl) (by kernel_rfl) 35 _ rfl Nb (k * 256) rfl (cu8 y) _ g5 Try.underlying35 rfl hiy ?_; simp only [Act.put, List.setIfInBounds_toArray, List.getElem_toArray, List.getElem_cons_succ, List.getElem_cons_zero, List.set_cons_succ, List.set_cons_zero])
                  by_cases hxy0 : x = y
                  · have hxy := Lib.hid hxy0; clear hxy0
                    by_cases ht : torn < 0
                    · cases hwro : wroteF gs k
                      · skip
                        (refine HoistK.yes (by rfl) (by kernel_rfl) ⟨.bool true, fun w hSw => ?_, ?_⟩; (· have q := run_equal_block w x y hxl hyl; rw [decide_eq_true hxy.out] at q; go_simp); simp only [Act.put, List.setIfInBounds_toArray, List.getElem_toArray, List.getElem_cons_succ, List.getElem_cons_zero, List.set_cons_succ, List.set_cons_zero])
                        (refine HoistK.yes (by rfl) (by kernel_rfl) ⟨?_, fun w hSw => ?_, ?_⟩; rotate_left; (· go_simp; try with_reducible rfl); simp only [Act.put, List.setIfInBounds_toArray, List.getElem_toArray, List.getElem_cons_succ, List.getElem_cons_zero, List.set_cons_succ, List.set_cons_zero])
                        (refine HoistK.yes (by rfl) (by kernel_rfl) ⟨?_, fun w hSw => ?_, ?_⟩; rotate_left; (· go_simp; try with_reducible rfl); simp only [Act.put, List.setIfInBounds_toArray, List.getElem_toArray, List.getElem_cons_succ, List.getElem_cons_zero, List.set_cons_succ, List.set_cons_zero])
                        (refine HoistK.yes (by rfl) (by kernel_rfl) ⟨?_, fun w hSw => ?_, ?_⟩; rotate_left; (· go_simp; try with_reducible rfl); simp only [Act.put, List.setIfInBounds_toArray, List.getElem_toArray, List.getElem_cons_succ, List.getElem_cons_zero, List.set_cons_succ, List.set_cons_zero])
                        (refine HoistK.yes (by rfl) (by kernel_rfl) ⟨?_, fun w hSw => ?_, ?_⟩; rotate_left; (· go_simp; try with_reducible rfl); simp only [Act.put, List.setIfInBounds_toArray, List.getElem_toArray, List.getElem_cons_succ, List.getElem_cons_zero, List.set_cons_succ, List.set_cons_zero])
                        (refine HoistK.yes (by rfl) (by kernel_rfl) ⟨?_, fun w hSw => ?_, ?_⟩; rotate_left; (· go_simp; try with_reducible rfl); simp only [Act.put, List.setIfInBounds_toArray, List.getElem_toArray, List.getElem_cons_succ, List.getElem_cons_zero, List.set_cons_succ, List.set_cons_zero])
                        (refine HoistK.yes (by rfl) (by kernel_rfl) ⟨?_, fun w hSw => ?_, ?_⟩; rotate_left; (· go_simp; try with_reducible rfl); simp only [Act.put, List.setIfInBounds_toArray, List.getElem_toArray, List.getElem_cons_succ, List.getElem_cons_zero, List.set_cons_succ, List.set_cons_zero])
                        (refine HoistK.yes (by rfl) (by kernel_rfl) ⟨?_, fun w hSw => ?_, ?_⟩; rotate_left; (· go_simp; try with_reducible rfl); simp only [Act.put, List.setIfInBounds_toArray, List.getElem_toArray, List.getElem_cons_succ, List.getElem_cons_zero, List.set_cons_succ, List.set_cons_zero])
                        refine HoistK.nil_ ?_
                        simp only [opsAt, List.filterMap_cons, List.filterMap_nil, List.getElem?_toArray, List.getElem?_cons_succ, List.getElem?_cons_zero]
                        refine EffS.cons_ fun _ hQ1 => ?_
                        go_wp2_with fail
                        refine (wrote_any A cap gs k _ (hrow.below (BW _ hS0)) hsz).mono ?_
                        rintro e v7 ⟨rfl, rfl⟩
                        rw [hwro]
                        go_wp2_with fail
                        refine hQ1 _ _ hS0 (EffS.nil_ ?_)
                        clear hQ1
                        refine (show HoistK _ _ _ [44, 45, 46, 47, 48, 49, 50, 51, 52, 53, 54] _ _ from ?_)
                        (refine HoistK.yes (by rfl) (by kernel_rfl) ⟨?_, fun w hSw => ?_, ?_⟩; rotate_left; (· go_simp; try with_reducible rfl); simp only [Act.put, List.setIfInBounds_toArray, List.getElem_toArray, List.getElem_cons_succ, List.getElem_cons_zero, List.set_cons_succ, List.set_cons_zero])
                        (refine HoistK.yes (by rfl) (by kernel_rfl) ⟨?_, fun w hSw => ?_, ?_⟩; rotate_left; (· go_simp; try with_reducible rfl); simp only [Act.put, List.setIfInBounds_toArray, List.getElem_toArray, List.getElem_cons_succ, List.getElem_cons_zero, List.set_cons_succ, List.set_cons_zero])
                        (refine HoistK.yes (by rfl) (by kernel_rfl) ⟨?_, fun w hSw => ?_, ?_⟩; rotate_left; (· go_simp; try with_reducible rfl); simp only [Act.put, List.setIfInBounds_toArray, List.getElem_toArray, List.getElem_cons_succ, List.getElem_cons_zero, List.set_cons_succ, List.set_cons_zero])
                        (refine HoistK.load (by rfl) (by kernel_rfl) 35 _ rfl X3 (0) rfl (cu8 z) _ g3 Try.underlying35 rfl hiz ?_; simp only [Act.put, List.setIfInBounds_toArray, List.getElem_toArray, List.getElem_cons_succ, List.getElem_cons_zero, List.set_cons_succ, List.set_cons_zero])
                        (refine HoistK.yes (by rfl) (by kernel_rfl) ⟨?_, fun w hSw => ?_, ?_⟩; rotate_left; (· go_simp; try with_reducible rfl); simp only [Act.put, List.setIfInBounds_toArray, List.getElem_toArray, List.getElem_cons_succ, List.getElem_cons_zero, List.set_cons_succ, List.set_cons_zero])
                        (refine HoistK.yes (by rfl) (by kernel_rfl) ⟨?_, fun w hSw => ?_, ?_⟩; rotate_left; (· go_simp; try with_reducible rfl); simp only [Act.put, List.setIfInBounds_toArray, List.getElem_toArray, List.getElem_cons_succ, List.getElem_cons_zero, List.set_cons_succ, List.set_cons_zero])
                        (refine HoistK.yes (by rfl) (by kernel_rfl) ⟨?_, fun w hSw => ?_, ?_⟩; rotate_left; (· go_simp; simp only [Try.sizeOf35, Result.andThen]; try with_reducible rfl); simp only [Act.put, List.setIfInBounds_toArray, List.getElem_toArray, List.getElem_cons_succ, List.getElem_cons_zero, List.set_cons_succ, List.set_cons_zero])
                        (refine HoistK.load (by rfl) (by kernel_rfl) 35 _ rfl bs (offs + k * 256) rfl (cu8 x) _ g4 Try.underlying35 rfl hix ?_; simp only [Act.put, List.setIfInBounds_toArray, List.getElem_toArray, List.getElem_cons_succ, List.getElem_cons_zero, List.set_cons_succ, List.set_cons_zero])
                        (refine HoistK.yes (by rfl) (by kernel_rfl) ⟨.bool false, fun w hSw => ?_, ?_⟩; (· have q := run_equal_block w z x hzl hxl; rw [decide_eq_true hzx.out] at q; go_simp); simp only [Act.put, List.setIfInBounds_toArray, List.getElem_toArray, List.getElem_cons_succ, List.getElem_cons_zero, List.set_cons_succ, List.set_cons_zero])
                        (refine HoistK.yes (by rfl) (by kernel_rfl) ⟨?_, fun w hSw => ?_, ?_⟩; rotate_left; (· go_simp; try with_reducible rfl); simp only [Act.put, List.setIfInBounds_toArray, List.getElem_toArray, List.getElem_cons_succ, List.getElem_cons_zero, List.set_cons_succ, List.set_cons_zero])
                        (refine HoistK.yes (by rfl) (by kernel_rfl) ⟨?_, fun w hSw => ?_, ?_⟩; rotate_left; (· go_simp; try with_reducible rfl); simp only [Act.put, List.setIfInBounds_toArray, List.getElem_toArray, List.getElem_cons_succ, List.getElem_cons_zero, List.set_cons_succ, List.set_cons_zero])
                        refine HoistK.nil_ (EffS.nil_ (fun Q' hQ' => ?_))
                        go_wp2
                        exact ⟨⟨k + 1, by omega, by go_num, B6.drew⟩, by simp [intOf]; omega⟩
                      · skip
                        (refine HoistK.yes (by rfl) (by kernel_rfl) ⟨.bool true, fun w hSw => ?_, ?_⟩; (· have q := run_equal_block w x y hxl hyl; rw [decide_eq_true hxy.out] at q; go_simp); simp only [Act.put, List.setIfInBounds_toArray, List.getElem_toArray, List.getElem_cons_succ, List.getElem_cons_zero, List.set_cons_succ, List.set_cons_zero])
                        (refine HoistK.yes (by rfl) (by kernel_rfl) ⟨?_, fun w hSw => ?_, ?_⟩; rotate_left; (· go_simp; try with_reducible rfl); simp only [Act.put, List.setIfInBounds_toArray, List.getElem_toArray, List.getElem_cons_succ, List.getElem_cons_zero, List.set_cons_succ, List.set_cons_zero])
                        (refine HoistK.yes (by rfl) (by kernel_rfl) ⟨?_, fun w hSw => ?_, ?_⟩; rotate_left; (· go_simp; try with_reducible rfl); simp only [Act.put, List.setIfInBounds_toArray, List.getElem_toArray, List.getElem_cons_succ, List.getElem_cons_zero, List.set_cons_succ, List.set_cons_zero])
                        (refine HoistK.yes (by rfl) (by kernel_rfl) ⟨?_, fun w hSw => ?_, ?_⟩; rotate_left; (· go_simp; try with_reducible rfl); simp only [Act.put, List.setIfInBounds_toArray, List.getElem_toArray, List.getElem_cons_succ, List.getElem_cons_zero, List.set_cons_succ, List.set_cons_zero])
                        (refine HoistK.yes (by rfl) (by kernel_rfl) ⟨?_, fun w hSw => ?_, ?_⟩; rotate_left; (· go_simp; try with_reducible rfl); simp only [Act.put, List.setIfInBounds_toArray, List.getElem_toArray, List.getElem_cons_succ, List.getElem_cons_zero, List.set_cons_succ, List.set_cons_zero])
                        (refine HoistK.yes (by rfl) (by kernel_rfl) ⟨?_, fun w hSw => ?_, ?_⟩; rotate_left; (· go_simp; try with_reducible rfl); simp only [Act.put, List.setIfInBounds_toArray, List.getElem_toArray, List.getElem_cons_succ, List.getElem_cons_zero, List.set_cons_succ, List.set_cons_zero])
                        (refine HoistK.yes (by rfl) (by kernel_rfl) ⟨?_, fun w hSw => ?_, ?_⟩; rotate_left; (· go_simp; try with_reducible rfl); simp only [Act.put, List.setIfInBounds_toArray, List.getElem_toArray, List.getElem_cons_succ, List.getElem_cons_zero, List.set_cons_succ, List.set_cons_zero])
                        (refine HoistK.yes (by rfl) (by kernel_rfl) ⟨?_, fun w hSw => ?_, ?_⟩; rotate_left; (· go_simp; try with_reducible rfl); simp only [Act.put, List.setIfInBounds_toArray, List.getElem_toArray, List.getElem_cons_succ, List.getElem_cons_zero, List.set_cons_succ, List.set_cons_zero])
                        refine HoistK.nil_ ?_
                        simp only [opsAt, List.filterMap_cons, List.filterMap_nil, List.getElem?_toArray, List.getElem?_cons_succ, List.getElem?_cons_zero]
                        refine EffS.cons_ fun _ hQ1 => ?_
                        go_wp2_with fail
                        refine (wrote_any A cap gs k _ (hrow.below (BW _ hS0)) hsz).mono ?_
                        rintro e v7 ⟨rfl, rfl⟩
                        rw [hwro]
                        go_wp2_with fail
                        refine hQ1 _ _ hS0 (EffS.nil_ ?_)
                        clear hQ1
                        refine (show HoistK _ _ _ [44, 45, 46, 47, 48, 49, 50, 51, 52, 53, 54] _ _ from ?_)
                        (refine HoistK.yes (by rfl) (by kernel_rfl) ⟨?_, fun w hSw => ?_, ?_⟩; rotate_left; (· go_simp; try with_reducible rfl); simp only [Act.put, List.setIfInBounds_toArray, List.getElem_toArray, List.getElem_cons_succ, List.getElem_cons_zero, List.set_cons_succ, List.set_cons_zero])
                        (refine HoistK.yes (by rfl) (by kernel_rfl) ⟨?_, fun w hSw => ?_, ?_⟩; rotate_left; (· go_simp; try with_reducible rfl); simp only [Act.put, List.setIfInBounds_toArray, List.getElem_toArray, List.getElem_cons_succ, List.getElem_cons_zero, List.set_cons_succ, List.set_cons_zero])
                        (refine HoistK.yes (by rfl) (by kernel_rfl) ⟨?_, fun w hSw => ?_, ?_⟩; rotate_left; (· go_simp; try with_reducible rfl); simp only [Act.put, List.setIfInBounds_toArray, List.getElem_toArray, List.getElem_cons_succ, List.getElem_cons_zero, List.set_cons_succ, List.set_cons_zero])
                        (refine HoistK.no (by rfl) (by kernel_rfl) ?_; simp only [Act.put, List.setIfInBounds_toArray, List.getElem_toArray, List.getElem_cons_succ, List.getElem_cons_zero, List.set_cons_succ, List.set_cons_zero])
                        (refine HoistK.no (by rfl) (by kernel_rfl) ?_; simp only [Act.put, List.setIfInBounds_toArray, List.getElem_toArray, List.getElem_cons_succ, List.getElem_cons_zero, List.set_cons_succ, List.set_cons_zero])
                        (refine HoistK.no (by rfl) (by kernel_rfl) ?_; simp only [Act.put, List.setIfInBounds_toArray, List.getElem_toArray, List.getElem_cons_succ, List.getElem_cons_zero, List.set_cons_succ, List.set_cons_zero])
                        (refine HoistK.no (by rfl) (by kernel_rfl) ?_; simp only [Act.put, List.setIfInBounds_toArray, List.getElem_toArray, List.getElem_cons_succ, List.getElem_cons_zero, List.set_cons_succ, List.set_cons_zero])
                        (refine HoistK.no (by rfl) (by kernel_rfl) ?_; simp only [Act.put, List.setIfInBounds_toArray, List.getElem_toArray, List.getElem_cons_succ, List.getElem_cons_zero, List.set_cons_succ, List.set_cons_zero])
                        (refine HoistK.no (by rfl) (by kernel_rfl) ?_; simp only [Act.put, List.setIfInBounds_toArray, List.getElem_toArray, List.getElem_cons_succ, List.getElem_cons_zero, List.set_cons_succ, List.set_cons_zero])
                        (refine HoistK.yes (by rfl) (by kernel_rfl) ⟨?_, fun w hSw => ?_, ?_⟩; rotate_left; (· go_simp; try with_reducible rfl); simp only [Act.put, List.setIfInBounds_toArray, List.getElem_toArray, List.getElem_cons_succ, List.getElem_cons_zero, List.set_cons_succ, List.set_cons_zero])
                        (refine HoistK.yes (by rfl) (by kernel_rfl) ⟨?_, fun w hSw => ?_, ?_⟩; rotate_left; (· go_simp; try with_reducible rfl); simp only [Act.put, List.setIfInBounds_toArray, List.getElem_toArray, List.getElem_cons_succ, List.getElem_cons_zero, List.set_cons_succ, List.set_cons_zero])
                        refine HoistK.nil_ (EffS.nil_ (fun Q' hQ' => ?_))
                        go_wp2
                        exact ⟨⟨k + 1, by omega, by go_num, B6.drew⟩, by simp [intOf]; omega⟩
                    · skip
                      (refine HoistK.yes (by rfl) (by kernel_rfl) ⟨.bool true, fun w hSw => ?_, ?_⟩; (· have q := run_equal_block w x y hxl hyl; rw [decide_eq_true hxy.out] at q; go_simp); simp only [Act.put, List.setIfInBounds_toArray, List.getElem_toArray, List.getElem_cons_succ, List.getElem_cons_zero, List.set_cons_succ, List.set_cons_zero])
                      (refine HoistK.yes (by rfl) (by kernel_rfl) ⟨?_, fun w hSw => ?_, ?_⟩; rotate_left; (· go_simp; try with_reducible rfl); simp only [Act.put, List.setIfInBounds_toArray, List.getElem_toArray, List.getElem_cons_succ, List.getElem_cons_zero, List.set_cons_succ, List.set_cons_zero])
                      (refine HoistK.yes (by rfl) (by kernel_rfl) ⟨?_, fun w hSw => ?_, ?_⟩; rotate_left; (· go_simp; try with_reducible rfl); simp only [Act.put, List.setIfInBounds_toArray, List.getElem_toArray, List.getElem_cons_succ, List.getElem_cons_zero, List.set_cons_succ, List.set_cons_zero])
                      (refine HoistK.yes (by rfl) (by kernel_rfl) ⟨?_, fun w hSw => ?_, ?_⟩; rotate_left; (· go_simp; try with_reducible rfl); simp only [Act.put, List.setIfInBounds_toArray, List.getElem_toArray, List.getElem_cons_succ, List.getElem_cons_zero, List.set_cons_succ, List.set_cons_zero])
                      (refine HoistK.yes (by rfl) (by kernel_rfl) ⟨?_, fun w hSw => ?_, ?_⟩; rotate_left; (· go_simp; try with_reducible rfl); simp only [Act.put, List.setIfInBounds_toArray, List.getElem_toArray, List.getElem_cons_succ, List.getElem_cons_zero, List.set_cons_succ, List.set_cons_zero])
                      (refine HoistK.yes (by rfl) (by kernel_rfl) ⟨?_, fun w hSw => ?_, ?_⟩; rotate_left; (· go_simp; try with_reducible rfl); simp only [Act.put, List.setIfInBounds_toArray, List.getElem_toArray, List.getElem_cons_succ, List.getElem_cons_zero, List.set_cons_succ, List.set_cons_zero])
                      (refine HoistK.no (by rfl) (by kernel_rfl) ?_; simp only [Act.put, List.setIfInBounds_toArray, List.getElem_toArray, List.getElem_cons_succ, List.getElem_cons_zero, List.set_cons_succ, List.set_cons_zero])
                      (refine HoistK.no (by rfl) (by kernel_rfl) ?_; simp only [Act.put, List.setIfInBounds_toArray, List.getElem_toArray, List.getElem_cons_succ, List.getElem_cons_zero, List.set_cons_succ, List.set_cons_zero])
                      refine HoistK.nil_ ?_
                      simp only [opsAt, List.filterMap_cons, List.filterMap_nil, List.getElem?_toArray, List.getElem?_cons_succ, List.getElem?_cons_zero]
                      refine EffS.cons_ fun _ hQ1 => ?_
                      go_wp2_with fail
                      refine hQ1 _ _ hS0 (EffS.nil_ ?_)
                      clear hQ1
                      refine (show HoistK _ _ _ [44, 45, 46, 47, 48, 49, 50, 51, 52, 53, 54] _ _ from ?_)
                      (refine HoistK.no (by rfl) (by kernel_rfl) ?_; simp only [Act.put, List.setIfInBounds_toArray, List.getElem_toArray, List.getElem_cons_succ, List.getElem_cons_zero, List.set_cons_succ, List.set_cons_zero])
                      (refine HoistK.yes (by rfl) (by kernel_rfl) ⟨?_, fun w hSw => ?_, ?_⟩; rotate_left; (· go_simp; try with_reducible rfl); simp only [Act.put, List.setIfInBounds_toArray, List.getElem_toArray, List.getElem_cons_succ, List.getElem_cons_zero, List.set_cons_succ, List.set_cons_zero])
                      (refine HoistK.yes (by rfl) (by kernel_rfl) ⟨?_, fun w hSw => ?_, ?_⟩; rotate_left; (· go_simp; try with_reducible rfl); simp only [Act.put, List.setIfInBounds_toArray, List.getElem_toArray, List.getElem_cons_succ, List.getElem_cons_zero, List.set_cons_succ, List.set_cons_zero])
                      (refine HoistK.no (by rfl) (by kernel_rfl) ?_; simp only [Act.put, List.setIfInBounds_toArray, List.getElem_toArray, List.getElem_cons_succ, List.getElem_cons_zero, List.set_cons_succ, List.set_cons_zero])
                      (refine HoistK.no (by rfl) (by kernel_rfl) ?_; simp only [Act.put, List.setIfInBounds_toArray, List.getElem_toArray, List.getElem_cons_succ, List.getElem_cons_zero, List.set_cons_succ, List.set_cons_zero])
                      (refine HoistK.no (by rfl) (by kernel_rfl) ?_; simp only [Act.put, List.setIfInBounds_toArray, List.getElem_toArray, List.getElem_cons_succ, List.getElem_cons_zero, List.set_cons_succ, List.set_cons_zero])
                      (refine HoistK.no (by rfl) (by kernel_rfl) ?_; simp only [Act.put, List.setIfInBounds_toArray, List.getElem_toArray, List.getElem_cons_succ, List.getElem_cons_zero, List.set_cons_succ, List.set_cons_zero])
                      (refine HoistK.no (by rfl) (by kernel_rfl) ?_; simp only [Act.put, List.setIfInBounds_toArray, List.getElem_toArray, List.getElem_cons_succ, List.getElem_cons_zero, List.set_cons_succ, List.set_cons_zero])
                      (refine HoistK.no (by rfl) (by kernel_rfl) ?_; simp only [Act.put, List.setIfInBounds_toArray, List.getElem_toArray, List.getElem_cons_succ, List.getElem_cons_zero, List.set_cons_succ, List.set_cons_zero])
                      (refine HoistK.yes (by rfl) (by kernel_rfl) ⟨?_, fun w hSw => ?_, ?_⟩; rotate_left; (· go_simp; try with_reducible rfl); simp only [Act.put, List.setIfInBounds_toArray, List.getElem_toArray, List.getElem_cons_succ, List.getElem_cons_zero, List.set_cons_succ, List.set_cons_zero])
                      (refine HoistK.yes (by rfl) (by kernel_rfl) ⟨?_, fun w hSw => ?_, ?_⟩; rotate_left; (· go_simp; try with_reducible rfl); simp only [Act.put, List.setIfInBounds_toArray, List.getElem_toArray, List.getElem_cons_succ, List.getElem_cons_zero, List.set_cons_succ, List.set_cons_zero])
                      refine HoistK.nil_ (EffS.nil_ (fun Q' hQ' => ?_))
                      go_wp2
                      exact ⟨⟨k + 1, by omega, by go_num, B6.drew⟩, by simp [intOf]; omega⟩
                  · have hxy := hxy0; clear hxy0
                    (refine HoistK.yes (by rfl) (by kernel_rfl) ⟨.bool false, fun w hSw => ?_, ?_⟩; (· have q := run_equal_block w x y hxl hyl; rw [decide_eq_false hxy] at q; go_simp); simp only [Act.put, List.setIfInBounds_toArray, List.getElem_toArray, List.getElem_cons_succ, List.getElem_cons_zero, List.set_cons_succ, List.set_cons_zero])
                    (refine HoistK.yes (by rfl) (by kernel_rfl) ⟨?_, fun w hSw => ?_, ?_⟩; rotate_left; (· go_simp; try with_reducible rfl); simp only [Act.put, List.setIfInBounds_toArray, List.getElem_toArray, List.getElem_cons_succ, List.getElem_cons_zero, List.set_cons_succ, List.set_cons_zero])
                    (refine HoistK.no (by rfl) (by kernel_rfl) ?_; simp only [Act.put, List.setIfInBounds_toArray, List.getElem_toArray, List.getElem_cons_succ, List.getElem_cons_zero, List.set_cons_succ, List.set_cons_zero])
                    (refine HoistK.no (by rfl) (by kernel_rfl) ?_; simp only [Act.put, List.setIfInBounds_toArray, List.getElem_toArray, List.getElem_cons_succ, List.getElem_cons_zero, List.set_cons_succ, List.set_cons_zero])
                    (refine HoistK.yes (by rfl) (by kernel_rfl) ⟨?_, fun w hSw => ?_, ?_⟩; rotate_left; (· go_simp; try with_reducible rfl); simp only [Act.put, List.setIfInBounds_toArray, List.getElem_toArray, List.getElem_cons_succ, List.getElem_cons_zero, List.set_cons_succ, List.set_cons_zero])
                    (refine HoistK.yes (by rfl) (by kernel_rfl) ⟨?_, fun w hSw => ?_, ?_⟩; rotate_left; (· go_simp; try with_reducible rfl); simp only [Act.put, List.setIfInBounds_toArray, List.getElem_toArray, List.getElem_cons_succ, List.getElem_cons_zero, List.set_cons_succ, List.set_cons_zero])
                    (refine HoistK.no (by rfl) (by kernel_rfl) ?_; simp only [Act.put, List.setIfInBounds_toArray, List.getElem_toArray, List.getElem_cons_succ, List.getElem_cons_zero, List.set_cons_succ, List.set_cons_zero])
                    (refine HoistK.no (by rfl) (by kernel_rfl) ?_; simp only [Act.put, List.setIfInBounds_toArray, List.getElem_toArray, List.getElem_cons_succ, List.getElem_cons_zero, List.set_cons_succ, List.set_cons_zero])
                    refine HoistK.nil_ ?_
                    simp only [opsAt, List.filterMap_cons, List.filterMap_nil, List.getElem?_toArray, List.getElem?_cons_succ, List.getElem?_cons_zero]
                    refine EffS.cons_ fun _ hQ1 => ?_
                    go_wp2_with fail
                    refine hQ1 _ _ hS0 (EffS.nil_ ?_)
                    clear hQ1
                    refine (show HoistK _ _ _ [44, 45, 46, 47, 48, 49, 50, 51, 52, 53, 54] _ _ from ?_)
                    (refine HoistK.no (by rfl) (by kernel_rfl) ?_; simp only [Act.put, List.setIfInBounds_toArray, List.getElem_toArray, List.getElem_cons_succ, List.getElem_cons_zero, List.set_cons_succ, List.set_cons_zero])
                    (refine HoistK.yes (by rfl) (by kernel_rfl) ⟨?_, fun w hSw => ?_, ?_⟩; rotate_left; (· go_simp; try with_reducible rfl); simp only [Act.put, List.setIfInBounds_toArray, List.getElem_toArray, List.getElem_cons_succ, List.getElem_cons_zero, List.set_cons_succ, List.set_cons_zero])
                    (refine HoistK.yes (by rfl) (by kernel_rfl) ⟨?_, fun w hSw => ?_, ?_⟩; rotate_left; (· go_simp; try with_reducible rfl); simp only [Act.put, List.setIfInBounds_toArray, List.getElem_toArray, List.getElem_cons_succ, List.getElem_cons_zero, List.set_cons_succ, List.set_cons_zero])
                    (refine HoistK.no (by rfl) (by kernel_rfl) ?_; simp only [Act.put, List.setIfInBounds_toArray, List.getElem_toArray, List.getElem_cons_succ, List.getElem_cons_zero, List.set_cons_succ, List.set_cons_zero])
                    (refine HoistK.no (by rfl) (by kernel_rfl) ?_; simp only [Act.put, List.setIfInBounds_toArray, List.getElem_toArray, List.getElem_cons_succ, List.getElem_cons_zero, List.set_cons_succ, List.set_cons_zero])
                    (refine HoistK.no (by rfl) (by kernel_rfl) ?_; simp only [Act.put, List.setIfInBounds_toArray, List.getElem_toArray, List.getElem_cons_succ, List.getElem_cons_zero, List.set_cons_succ, List.set_cons_zero])
                    (refine HoistK.no (by rfl) (by kernel_rfl) ?_; simp only [Act.put, List.setIfInBounds_toArray, List.getElem_toArray, List.getElem_cons_succ, List.getElem_cons_zero, List.set_cons_succ, List.set_cons_zero])
                    (refine HoistK.no (by rfl) (by kernel_rfl) ?_; simp only [Act.put, List.setIfInBounds_toArray, List.getElem_toArray, List.getElem_cons_succ, List.getElem_cons_zero, List.set_cons_succ, List.set_cons_zero])
                    (refine HoistK.no (by rfl) (by kernel_rfl) ?_; simp only [Act.put, List.setIfInBounds_toArray, List.getElem_toArray, List.getElem_cons_succ, List.getElem_cons_zero, List.set_cons_succ, List.set_cons_zero])
                    (refine HoistK.yes (by rfl) (by kernel_rfl) ⟨?_, fun w hSw => ?_, ?_⟩; rotate_left; (· go_simp; try with_reducible rfl); simp only [Act.put, List.setIfInBounds_toArray, List.getElem_toArray, List.getElem_cons_succ, List.getElem_cons_zero, List.set_cons_succ, List.set_cons_zero])
                    (refine HoistK.yes (by rfl) (by kernel_rfl) ⟨?_, fun w hSw => ?_, ?_⟩; rotate_left; (· go_simp; try with_reducible rfl); simp only [Act.put, List.setIfInBounds_toArray, List.getElem_toArray, List.getElem_cons_succ, List.getElem_cons_zero, List.set_cons_succ, List.set_cons_zero])
                    refine HoistK.nil_ (EffS.nil_ (fun Q' hQ' => ?_))
                    go_wp2
                    exact ⟨⟨k + 1, by omega, by go_num, B6.drew⟩, by simp [intOf]; omega⟩
                · skip
                  clear c1
                  (refine HoistK.yes (by rfl) (by kernel_rfl) ⟨?_, fun w hSw => ?_, ?_⟩; rotate_left; (· go_simp; try with_reducible rfl); simp only [Act.put, List.setIfInBounds_toArray, List.getElem_toArray, List.getElem_cons_succ, List.getElem_cons_zero, List.set_cons_succ, List.set_cons_zero])
                  (refine HoistK.yes (by rfl) (by kernel_rfl) ⟨?_, fun w hSw => ?_, ?_⟩; rotate_left; (· go_simp; try with_reducible rfl); simp only [Act.put, List.setIfInBounds_toArray, List.getElem_toArray, List.getElem_cons_succ, List.getElem_cons_zero, List.set_cons_succ, List.set_cons_zero])
                  (refine HoistK.yes (by rfl) (by kernel_rfl) ⟨?_, fun w hSw => ?_, ?_⟩; rotate_left; (· go_simp; try with_reducible rfl); simp only [Act.put, List.setIfInBounds_toArray, List.getElem_toArray, List.getElem_cons_succ, List.getElem_cons_zero, List.set_cons_succ, List.set_cons_zero])
                  (refine HoistK.no (by rfl) (by kernel_rfl) ?_; simp only [Act.put, List.setIfInBounds_toArray, List.getElem_toArray, List.getElem_cons_succ, List.getElem_cons_zero, List.set_cons_succ, List.set_cons_zero])
                  (refine HoistK.no (by rfl) (by kernel_rfl) ?_; simp only [Act.put, List.setIfInBounds_toArray, List.getElem_toArray, List.getElem_cons_succ, List.getElem_cons_zero, List.set_cons_succ, List.set_cons_zero])
                  (refine HoistK.no (by rfl) (by kernel_rfl) ?_; simp only [Act.put, List.setIfInBounds_toArray, List.getElem_toArray, List.getElem_cons_succ, List.getElem_cons_zero, List.set_cons_succ, List.set_cons_zero])
                  (refine HoistK.no (by rfl) (by kernel_rfl) ?_; simp only [Act.put, List.setIfInBounds_toArray, List.getElem_toArray, List.getElem_cons_succ, List.getElem_cons_zero, List.set_cons_succ, List.set_cons_zero])
                  (refine HoistK.no (by rfl) (by kernel_rfl) ?_; simp only [Act.put, List.setIfInBounds_toArray, List.getElem_toArray, List.getElem_cons_succ, List.getElem_cons_zero, List.set_cons_succ, List.set_cons_zero])
                  (refine HoistK.no (by rfl) (by kernel_rfl) ?_; simp only [Act.put, List.setIfInBounds_toArray, List.getElem_toArray, List.getElem_cons_succ, List.getElem_cons_zero, List.set_cons_succ, List.set_cons_zero])
                  (refine HoistK.yes (by rfl) (by kernel_rfl) ⟨?_, fun w hSw => ?_, ?_⟩; rotate_left; (· go_simp; try with_reducible rfl); simp only [Act.put, List.setIfInBounds_toArray, List.getElem_toArray, List.getElem_cons_succ, List.getElem_cons_zero, List.set_cons_succ, List.set_cons_zero])
                  (refine HoistK.yes (by rfl) (by kernel_rfl) ⟨?_, fun w hSw => ?_, ?_⟩; rotate_left; (· go_simp; try with_reducible rfl); simp only [Act.put, List.setIfInBounds_toArray, List.getElem_toArray, List.getElem_cons_succ, List.getElem_cons_zero, List.set_cons_succ, List.set_cons_zero])
                  (refine HoistK.yes (by rfl) (by kernel_rfl) ⟨?_, fun w hSw => ?_, ?_⟩; rotate_left; (· go_simp; try with_reducible rfl); simp only [Act.put, List.setIfInBounds_toArray, List.getElem_toArray, List.getElem_cons_succ, List.getElem_cons_zero, List.set_cons_succ, List.set_cons_zero])
                  (refine HoistK.yes (by rfl) (by kernel_rfl) ⟨?_, fun w hSw => ?_, ?_⟩; rotate_left; (· go_simp; try with_reducible rfl); simp only [Act.put, List.setIfInBounds_toArray, List.getElem_toArray, List.getElem_cons_succ, List.getElem_cons_zero, List.set_cons_succ, List.set_cons_zero])
                  (refine HoistK.yes (by rfl) (by kernel_rfl) ⟨?_, fun w hSw => ?_, ?_⟩; rotate_left; (· go_simp; try with_reducible rfl); simp only [Act.put, List.setIfInBounds_toArray, List.getElem_toArray, List.getElem_cons_succ, List.getElem_cons_zero, List.set_cons_succ, List.set_cons_zero])
                  (refine HoistK.yes (by rfl) (by kernel_rfl) ⟨?_, fun w hSw => ?_, ?_⟩; rotate_left; (· go_simp; simp only [Try.sizeOf35, Result.andThen]; try with_reducible rfl); simp only [Act.put, List.setIfInBounds_toArray, List.getElem_toArray, List.getElem_cons_succ, List.getElem_cons_zero, List.set_cons_succ, List.set_cons_zero])
                  (refine HoistK.load (by rfl) (by kernel_rfl) 35 _ rfl bs (offs + k * 256) rfl (cu8 x) _ g4 Try.underlying35 rfl hix ?_; simp only [Act.put, List.setIfInBounds_toArray, List.getElem_toArray, List.getElem_cons_succ, List.getElem_cons_zero, List.set_cons_succ, List.set_cons_zero])
                  (refine HoistK.yes (by rfl) (by kernel_rfl) ⟨?_, fun w hSw => ?_, ?_⟩; rotate_left; (· go_simp; try with_reducible rfl); simp only [Act.put, List.setIfInBounds_toArray, List.getElem_toArray, List.getElem_cons_succ, List.getElem_cons_zero, List.set_cons_succ, List.set_cons_zero])
                  (refine HoistK.yes (by rfl) (by kernel_rfl) ⟨?_, fun w hSw => ?_, ?_⟩; rotate_left; (· go_simp; try with_reducible rfl); simp only [Act.put, List.setIfInBounds_toArray, List.getElem_toArray, List.getElem_cons_succ, List.getElem_cons_zero, List.set_cons_succ, List.set_cons_zero])
                  (refine HoistK.yes (by rfl) (by kernel_rfl) ⟨?_, fun w hSw => ?_, ?_⟩; rotate_left; (· go_simp; simp only [Try.sizeOf35, Result.andThen]; try with_reducible rfl); simp only [Act.put, List.setIfInBounds_toArray, List.getElem_toArray, List.getElem_cons_succ, List.getElem_cons_zero, List.set_cons_succ, List.set_cons_zero])
                  (refine HoistK.load (by rfl) (by kernel_rfl) 35 _ rfl Nb (k * 256) rfl (cu8 y) _ g5 Try.underlying35 rfl hiy ?_; simp only [Act.put, List.setIfInBounds_toArray, List.getElem_toArray, List.getElem_cons_succ, List.getElem_cons_zero, List.set_cons_succ, List.set_cons_zero])
                  by_cases hxy0 : x = y
                  · have hxy := Lib.hid hxy0; clear hxy0
                    by_cases ht : torn < 0
                    · cases hwro : wroteF gs k
                      · have hzx := Lib.hid (c2.out ht hwro)
                        (refine HoistK.yes (by rfl) (by kernel_rfl) ⟨.bool true, fun w hSw => ?_, ?_⟩; (· have q := run_equal_block w x y hxl hyl; rw [decide_eq_true hxy.out] at q; go_simp); simp only [Act.put, List.setIfInBounds_toArray, List.getElem_toArray, List.getElem_cons_succ, List.getElem_cons_zero, List.set_cons_succ, List.set_cons_zero])
                        (refine HoistK.yes (by rfl) (by kernel_rfl) ⟨?_, fun w hSw => ?_, ?_⟩; rotate_left; (· go_simp; try with_reducible rfl); simp only [Act.put, List.setIfInBounds_toArray, List.getElem_toArray, List.getElem_cons_succ, List.getElem_cons_zero, List.set_cons_succ, List.set_cons_zero])
                        (refine HoistK.yes (by rfl) (by kernel_rfl) ⟨?_, fun w hSw => ?_, ?_⟩; rotate_left; (· go_simp; try with_reducible rfl); simp only [Act.put, List.setIfInBounds_toArray, List.getElem_toArray, List.getElem_cons_succ, List.getElem_cons_zero, List.set_cons_succ, List.set_cons_zero])
                        (refine HoistK.yes (by rfl) (by kernel_rfl) ⟨?_, fun w hSw => ?_, ?_⟩; rotate_left; (· go_simp; try with_reducible rfl); simp only [Act.put, List.setIfInBounds_toArray, List.getElem_toArray, List.getElem_cons_succ, List.getElem_cons_zero, List.set_cons_succ, List.set_cons_zero])
                        (refine HoistK.yes (by rfl) (by kernel_rfl) ⟨?_, fun w hSw => ?_, ?_⟩; rotate_left; (· go_simp; try with_reducible rfl); simp only [Act.put, List.setIfInBounds_toArray, List.getElem_toArray, List.getElem_cons_succ, List.getElem_cons_zero, List.set_cons_succ, List.set_cons_zero])
                        (refine HoistK.yes (by rfl) (by kernel_rfl) ⟨?_, fun w hSw => ?_, ?_⟩; rotate_left; (· go_simp; try with_reducible rfl); simp only [Act.put, List.setIfInBounds_toArray, List.getElem_toArray, List.getElem_cons_succ, List.getElem_cons_zero, List.set_cons_succ, List.set_cons_zero])
                        (refine HoistK.yes (by rfl) (by kernel_rfl) ⟨?_, fun w hSw => ?_, ?_⟩; rotate_left; (· go_simp; try with_reducible rfl); simp only [Act.put, List.setIfInBounds_toArray, List.getElem_toArray, List.getElem_cons_succ, List.getElem_cons_zero, List.set_cons_succ, List.set_cons_zero])
                        (refine HoistK.yes (by rfl) (by kernel_rfl) ⟨?_, fun w hSw => ?_, ?_⟩; rotate_left; (· go_simp; try with_reducible rfl); simp only [Act.put, List.setIfInBounds_toArray, List.getElem_toArray, List.getElem_cons_succ, List.getElem_cons_zero, List.set_cons_succ, List.set_cons_zero])
                        refine HoistK.nil_ ?_
                        simp only [opsAt, List.filterMap_cons, List.filterMap_nil, List.getElem?_toArray, List.getElem?_cons_succ, List.getElem?_cons_zero]
                        refine EffS.cons_ fun _ hQ1 => ?_
                        go_wp2_with fail
                        refine (wrote_any A cap gs k _ (hrow.below (BW _ hS0)) hsz).mono ?_
                        rintro e v7 ⟨rfl, rfl⟩
                        rw [hwro]
                        go_wp2_with fail
                        refine hQ1 _ _ hS0 (EffS.nil_ ?_)
                        clear hQ1
                        refine (show HoistK _ _ _ [44, 45, 46, 47, 48, 49, 50, 51, 52, 53, 54] _ _ from ?_)
                        (refine HoistK.yes (by rfl) (by kernel_rfl) ⟨?_, fun w hSw => ?_, ?_⟩; rotate_left; (· go_simp; try with_reducible rfl); simp only [Act.put, List.setIfInBounds_toArray, List.getElem_toArray, List.getElem_cons_succ, List.getElem_cons_zero, List.set_cons_succ, List.set_cons_zero])
                        (refine HoistK.yes (by rfl) (by kernel_rfl) ⟨?_, fun w hSw => ?_, ?_⟩; rotate_left; (· go_simp; try with_reducible rfl); simp only [Act.put, List.setIfInBounds_toArray, List.getElem_toArray, List.getElem_cons_succ, List.getElem_cons_zero, List.set_cons_succ, List.set_cons_zero])
                        (refine HoistK.yes (by rfl) (by kernel_rfl) ⟨?_, fun w hSw => ?_, ?_⟩; rotate_left; (· go_simp; try with_reducible rfl); simp only [Act.put, List.setIfInBounds_toArray, List.getElem_toArray, List.getElem_cons_succ, List.getElem_cons_zero, List.set_cons_succ, List.set_cons_zero])
                        (refine HoistK.load (by rfl) (by kernel_rfl) 35 _ rfl X3 (0) rfl (cu8 z) _ g3 Try.underlying35 rfl hiz ?_; simp only [Act.put, List.setIfInBounds_toArray, List.getElem_toArray, List.getElem_cons_succ, List.getElem_cons_zero, List.set_cons_succ, List.set_cons_zero])
                        (refine HoistK.yes (by rfl) (by kernel_rfl) ⟨?_, fun w hSw => ?_, ?_⟩; rotate_left; (· go_simp; try with_reducible rfl); simp only [Act.put, List.setIfInBounds_toArray, List.getElem_toArray, List.getElem_cons_succ, List.getElem_cons_zero, List.set_cons_succ, List.set_cons_zero])
                        (refine HoistK.yes (by rfl) (by kernel_rfl) ⟨?_, fun w hSw => ?_, ?_⟩; rotate_left; (· go_simp; try with_reducible rfl); simp only [Act.put, List.setIfInBounds_toArray, List.getElem_toArray, List.getElem_cons_succ, List.getElem_cons_zero, List.set_cons_succ, List.set_cons_zero])
                        (refine HoistK.yes (by rfl) (by kernel_rfl) ⟨?_, fun w hSw => ?_, ?_⟩; rotate_left; (· go_simp; simp only [Try.sizeOf35, Result.andThen]; try with_reducible rfl); simp only [Act.put, List.setIfInBounds_toArray, List.getElem_toArray, List.getElem_cons_succ, List.getElem_cons_zero, List.set_cons_succ, List.set_cons_zero])
                        (refine HoistK.load (by rfl) (by kernel_rfl) 35 _ rfl bs (offs + k * 256) rfl (cu8 x) _ g4 Try.underlying35 rfl hix ?_; simp only [Act.put, List.setIfInBounds_toArray, List.getElem_toArray, List.getElem_cons_succ, List.getElem_cons_zero, List.set_cons_succ, List.set_cons_zero])
                        (refine HoistK.yes (by rfl) (by kernel_rfl) ⟨.bool false, fun w hSw => ?_, ?_⟩; (· have q := run_equal_block w z x hzl hxl; rw [decide_eq_true hzx.out] at q; go_simp); simp only [Act.put, List.setIfInBounds_toArray, List.getElem_toArray, List.getElem_cons_succ, List.getElem_cons_zero, List.set_cons_succ, List.set_cons_zero])
                        (refine HoistK.yes (by rfl) (by kernel_rfl) ⟨?_, fun w hSw => ?_, ?_⟩; rotate_left; (· go_simp; try with_reducible rfl); simp only [Act.put, List.setIfInBounds_toArray, List.getElem_toArray, List.getElem_cons_succ, List.getElem_cons_zero, List.set_cons_succ, List.set_cons_zero])
                        (refine HoistK.yes (by rfl) (by kernel_rfl) ⟨?_, fun w hSw => ?_, ?_⟩; rotate_left; (· go_simp; try with_reducible rfl); simp only [Act.put, List.setIfInBounds_toArray, List.getElem_toArray, List.getElem_cons_succ, List.getElem_cons_zero, List.set_cons_succ, List.set_cons_zero])
                        refine HoistK.nil_ (EffS.nil_ (fun Q' hQ' => ?_))
                        go_wp2
                        exact ⟨⟨k + 1, by omega, by go_num, B6.drew⟩, by simp [intOf]; omega⟩
                      · skip
                        (refine HoistK.yes (by rfl) (by kernel_rfl) ⟨.bool true, fun w hSw => ?_, ?_⟩; (· have q := run_equal_block w x y hxl hyl; rw [decide_eq_true hxy.out] at q; go_simp); simp only [Act.put, List.setIfInBounds_toArray, List.getElem_toArray, List.getElem_cons_succ, List.getElem_cons_zero, List.set_cons_succ, List.set_cons_zero])
                        (refine HoistK.yes (by rfl) (by kernel_rfl) ⟨?_, fun w hSw => ?_, ?_⟩; rotate_left; (· go_simp; try with_reducible rfl); simp only [Act.put, List.setIfInBounds_toArray, List.getElem_toArray, List.getElem_cons_succ, List.getElem_cons_zero, List.set_cons_succ, List.set_cons_zero])
                        (refine HoistK.yes (by rfl) (by kernel_rfl) ⟨?_, fun w hSw => ?_, ?_⟩; rotate_left; (· go_simp; try with_reducible rfl); simp only [Act.put, List.setIfInBounds_toArray, List.getElem_toArray, List.getElem_cons_succ, List.getElem_cons_zero, List.set_cons_succ, List.set_cons_zero])
                        (refine HoistK.yes (by rfl) (by kernel_rfl) ⟨?_, fun w hSw => ?_, ?_⟩; rotate_left; (· go_simp; try with_reducible rfl); simp only [Act.put, List.setIfInBounds_toArray, List.getElem_toArray, List.getElem_cons_succ, List.getElem_cons_zero, List.set_cons_succ, List.set_cons_zero])
                        (refine HoistK.yes (by rfl) (by kernel_rfl) ⟨?_, fun w hSw => ?_, ?_⟩; rotate_left; (· go_simp; try with_reducible rfl); simp only [Act.put, List.setIfInBounds_toArray, List.getElem_toArray, List.getElem_cons_succ, List.getElem_cons_zero, List.set_cons_succ, List.set_cons_zero])
                        (refine HoistK.yes (by rfl) (by kernel_rfl) ⟨?_, fun w hSw => ?_, ?_⟩; rotate_left; (· go_simp; try with_reducible rfl); simp only [Act.put, List.setIfInBounds_toArray, List.getElem_toArray, List.getElem_cons_succ, List.getElem_cons_zero, List.set_cons_succ, List.set_cons_zero])
                        (refine HoistK.yes (by rfl) (by kernel_rfl) ⟨?_, fun w hSw => ?_, ?_⟩; rotate_left; (· go_simp; try with_reducible rfl); simp only [Act.put, List.setIfInBounds_toArray, List.getElem_toArray, List.getElem_cons_succ, List.getElem_cons_zero, List.set_cons_succ, List.set_cons_zero])
                        (refine HoistK.yes (by rfl) (by kernel_rfl) ⟨?_, fun w hSw => ?_, ?_⟩; rotate_left; (· go_simp; try with_reducible rfl); simp only [Act.put, List.setIfInBounds_toArray, List.getElem_toArray, List.getElem_cons_succ, List.getElem_cons_zero, List.set_cons_succ, List.set_cons_zero])
                        refine HoistK.nil_ ?_
                        simp only [opsAt, List.filterMap_cons, List.filterMap_nil, List.getElem?_toArray, List.getElem?_cons_succ, List.getElem?_cons_zero]
                        refine EffS.cons_ fun _ hQ1 => ?_
                        go_wp2_with fail
                        refine (wrote_any A cap gs k _ (hrow.below (BW _ hS0)) hsz).mono ?_
                        rintro e v7 ⟨rfl, rfl⟩
                        rw [hwro]
                        go_wp2_with fail
                        refine hQ1 _ _ hS0 (EffS.nil_ ?_)
                        clear hQ1
                        refine (show HoistK _ _ _ [44, 45, 46, 47, 48, 49, 50, 51, 52, 53, 54] _ _ from ?_)
                        (refine HoistK.yes (by rfl) (by kernel_rfl) ⟨?_, fun w hSw => ?_, ?_⟩; rotate_left; (· go_simp; try with_reducible rfl); simp only [Act.put, List.setIfInBounds_toArray, List.getElem_toArray, List.getElem_cons_succ, List.getElem_cons_zero, List.set_cons_succ, List.set_cons_zero])
                        (refine HoistK.yes (by rfl) (by kernel_rfl) ⟨?_, fun w hSw => ?_, ?_⟩; rotate_left; (· go_simp; try with_reducible rfl); simp only [Act.put, List.setIfInBounds_toArray, List.getElem_toArray, List.getElem_cons_succ, List.getElem_cons_zero, List.set_cons_succ, List.set_cons_zero])
                        (refine HoistK.yes (by rfl) (by kernel_rfl) ⟨?_, fun w hSw => ?_, ?_⟩; rotate_left; (· go_simp; try with_reducible rfl); simp only [Act.put, List.setIfInBounds_toArray, List.getElem_toArray, List.getElem_cons_succ, List.getElem_cons_zero, List.set_cons_succ, List.set_cons_zero])
                        (refine HoistK.no (by rfl) (by kernel_rfl) ?_; simp only [Act.put, List.setIfInBounds_toArray, List.getElem_toArray, List.getElem_cons_succ, List.getElem_cons_zero, List.set_cons_succ, List.set_cons_zero])
                        (refine HoistK.no (by rfl) (by kernel_rfl) ?_; simp only [Act.put, List.setIfInBounds_toArray, List.getElem_toArray, List.getElem_cons_succ, List.getElem_cons_zero, List.set_cons_succ, List.set_cons_zero])
                        (refine HoistK.no (by rfl) (by kernel_rfl) ?_; simp only [Act.put, List.setIfInBounds_toArray, List.getElem_toArray, List.getElem_cons_succ, List.getElem_cons_zero, List.set_cons_succ, List.set_cons_zero])
                        (refine HoistK.no (by rfl) (by kernel_rfl) ?_; simp only [Act.put, List.setIfInBounds_toArray, List.getElem_toArray, List.getElem_cons_succ, List.getElem_cons_zero, List.set_cons_succ, List.set_cons_zero])
                        (refine HoistK.no (by rfl) (by kernel_rfl) ?_; simp only [Act.put, List.setIfInBounds_toArray, List.getElem_toArray, List.getElem_cons_succ, List.getElem_cons_zero, List.set_cons_succ, List.set_cons_zero])
                        (refine HoistK.no (by rfl) (by kernel_rfl) ?_; simp only [Act.put, List.setIfInBounds_toArray, List.getElem_toArray, List.getElem_cons_succ, List.getElem_cons_zero, List.set_cons_succ, List.set_cons_zero])
                        (refine HoistK.yes (by rfl) (by kernel_rfl) ⟨?_, fun w hSw => ?_, ?_⟩; rotate_left; (· go_simp; try with_reducible rfl); simp only [Act.put, List.setIfInBounds_toArray, List.getElem_toArray, List.getElem_cons_succ, List.getElem_cons_zero, List.set_cons_succ, List.set_cons_zero])
                        (refine HoistK.yes (by rfl) (by kernel_rfl) ⟨?_, fun w hSw => ?_, ?_⟩; rotate_left; (· go_simp; try with_reducible rfl); simp only [Act.put, List.setIfInBounds_toArray, List.getElem_toArray, List.getElem_cons_succ, List.getElem_cons_zero, List.set_cons_succ, List.set_cons_zero])
                        refine HoistK.nil_ (EffS.nil_ (fun Q' hQ' => ?_))
                        go_wp2
                        exact ⟨⟨k + 1, by omega, by go_num, B6.drew⟩, by simp [intOf]; omega⟩
                    · skip
                      (refine HoistK.yes (by rfl) (by kernel_rfl) ⟨.bool true, fun w hSw => ?_, ?_⟩; (· have q := run_equal_block w x y hxl hyl; rw [decide_eq_true hxy.out] at q; go_simp); simp only [Act.put, List.setIfInBounds_toArray, List.getElem_toArray, List.getElem_cons_succ, List.getElem_cons_zero, List.set_cons_succ, List.set_cons_zero])
                      (refine HoistK.yes (by rfl) (by kernel_rfl) ⟨?_, fun w hSw => ?_, ?_⟩; rotate_left; (· go_simp; try with_reducible rfl); simp only [Act.put, List.setIfInBounds_toArray, List.getElem_toArray, List.getElem_cons_succ, List.getElem_cons_zero, List.set_cons_succ, List.set_cons_zero])
                      (refine HoistK.yes (by rfl) (by kernel_rfl) ⟨?_, fun w hSw => ?_, ?_⟩; rotate_left; (· go_simp; try with_reducible rfl); simp only [Act.put, List.setIfInBounds_toArray, List.getElem_toArray, List.getElem_cons_succ, List.getElem_cons_zero, List.set_cons_succ, List.set_cons_zero])
                      (refine HoistK.yes (by rfl) (by kernel_rfl) ⟨?_, fun w hSw => ?_, ?_⟩; rotate_left; (· go_simp; try with_reducible rfl); simp only [Act.put, List.setIfInBounds_toArray, List.getElem_toArray, List.getElem_cons_succ, List.getElem_cons_zero, List.set_cons_succ, List.set_cons_zero])
                      (refine HoistK.yes (by rfl) (by kernel_rfl) ⟨?_, fun w hSw => ?_, ?_⟩; rotate_left; (· go_simp; try with_reducible rfl); simp only [Act.put, List.setIfInBounds_toArray, List.getElem_toArray, List.getElem_cons_succ, List.getElem_cons_zero, List.set_cons_succ, List.set_cons_zero])
                      (refine HoistK.yes (by rfl) (by kernel_rfl) ⟨?_, fun w hSw => ?_, ?_⟩; rotate_left; (· go_simp; try with_reducible rfl); simp only [Act.put, List.setIfInBounds_toArray, List.getElem_toArray, List.getElem_cons_succ, List.getElem_cons_zero, List.set_cons_succ, List.set_cons_zero])
                      (refine HoistK.no (by rfl) (by kernel_rfl) ?_; simp only [Act.put, List.setIfInBounds_toArray, List.getElem_toArray, List.getElem_cons_succ, List.getElem_cons_zero, List.set_cons_succ, List.set_cons_zero])
                      (refine HoistK.no (by rfl) (by kernel_rfl) ?_; simp only [Act.put, List.setIfInBounds_toArray, List.getElem_toArray, List.getElem_cons_succ, List.getElem_cons_zero, List.set_cons_succ, List.set_cons_zero])
                      refine HoistK.nil_ ?_
                      simp only [opsAt, List.filterMap_cons, List.filterMap_nil, List.getElem?_toArray, List.getElem?_cons_succ, List.getElem?_cons_zero]
                      refine EffS.cons_ fun _ hQ1 => ?_
                      go_wp2_with fail
                      refine hQ1 _ _ hS0 (EffS.nil_ ?_)
                      clear hQ1
                      refine (show HoistK _ _ _ [44, 45, 46, 47, 48, 49, 50, 51, 52, 53, 54] _ _ from ?_)
                      (refine HoistK.no (by rfl) (by kernel_rfl) ?_; simp only [Act.put, List.setIfInBounds_toArray, List.getElem_toArray, List.getElem_cons_succ, List.getElem_cons_zero, List.set_cons_succ, List.set_cons_zero])
                      (refine HoistK.yes (by rfl) (by kernel_rfl) ⟨?_, fun w hSw => ?_, ?_⟩; rotate_left; (· go_simp; try with_reducible rfl); simp only [Act.put, List.setIfInBounds_toArray, List.getElem_toArray, List.getElem_cons_succ, List.getElem_cons_zero, List.set_cons_succ, List.set_cons_zero])
                      (refine HoistK.yes (by rfl) (by kernel_rfl) ⟨?_, fun w hSw => ?_, ?_⟩; rotate_left; (· go_simp; try with_reducible rfl); simp only [Act.put, List.setIfInBounds_toArray, List.getElem_toArray, List.getElem_cons_succ, List.getElem_cons_zero, List.set_cons_succ, List.set_cons_zero])
                      (refine HoistK.no (by rfl) (by kernel_rfl) ?_; simp only [Act.put, List.setIfInBounds_toArray, List.getElem_toArray, List.getElem_cons_succ, List.getElem_cons_zero, List.set_cons_succ, List.set_cons_zero])
                      (refine HoistK.no (by rfl) (by kernel_rfl) ?_; simp only [Act.put, List.setIfInBounds_toArray, List.getElem_toArray, List.getElem_cons_succ, List.getElem_cons_zero, List.set_cons_succ, List.set_cons_zero])
                      (refine HoistK.no (by rfl) (by kernel_rfl) ?_; simp only [Act.put, List.setIfInBounds_toArray, List.getElem_toArray, List.getElem_cons_succ, List.getElem_cons_zero, List.set_cons_succ, List.set_cons_zero])
                      (refine HoistK.no (by rfl) (by kernel_rfl) ?_; simp only [Act.put, List.setIfInBounds_toArray, List.getElem_toArray, List.getElem_cons_succ, List.getElem_cons_zero, List.set_cons_succ, List.set_cons_zero])
                      (refine HoistK.no (by rfl) (by kernel_rfl) ?_; simp only [Act.put, List.setIfInBounds_toArray, List.getElem_toArray, List.getElem_cons_succ, List.getElem_cons_zero, List.set_cons_succ, List.set_cons_zero])
                      (refine HoistK.no (by rfl) (by kernel_rfl) ?_; simp only [Act.put, List.setIfInBounds_toArray, List.getElem_toArray, List.getElem_cons_succ, List.getElem_cons_zero, List.set_cons_succ, List.set_cons_zero])
                      (refine HoistK.yes (by rfl) (by kernel_rfl) ⟨?_, fun w hSw => ?_, ?_⟩; rotate_left; (· go_simp; try with_reducible rfl); simp only [Act.put, List.setIfInBounds_toArray, List.getElem_toArray, List.getElem_cons_succ, List.getElem_cons_zero, List.set_cons_succ, List.set_cons_zero])
                      (refine HoistK.yes (by rfl) (by kernel_rfl) ⟨?_, fun w hSw => ?_, ?_⟩; rotate_left; (· go_simp; try with_reducible rfl); simp only [Act.put, List.setIfInBounds_toArray, List.getElem_toArray, List.getElem_cons_succ, List.getElem_cons_zero, List.set_cons_succ, List.set_cons_zero])
                      refine HoistK.nil_ (EffS.nil_ (fun Q' hQ' => ?_))
                      go_wp2
                      exact ⟨⟨k + 1, by omega, by go_num, B6.drew⟩, by simp [intOf]; omega⟩
                  · have hxy := hxy0; clear hxy0
                    (refine HoistK.yes (by rfl) (by kernel_rfl) ⟨.bool false, fun w hSw => ?_, ?_⟩; (· have q := run_equal_block w x y hxl hyl; rw [decide_eq_false hxy] at q; go_simp); simp only [Act.put, List.setIfInBounds_toArray, List.getElem_toArray, List.getElem_cons_succ, List.getElem_cons_zero, List.set_cons_succ, List.set_cons_zero])
                    (refine HoistK.yes (by rfl) (by kernel_rfl) ⟨?_, fun w hSw => ?_, ?_⟩; rotate_left; (· go_simp; try with_reducible rfl); simp only [Act.put, List.setIfInBounds_toArray, List.getElem_toArray, List.getElem_cons_succ, List.getElem_cons_zero, List.set_cons_succ, List.set_cons_zero])
                    (refine HoistK.no (by rfl) (by kernel_rfl) ?_; simp only [Act.put, List.setIfInBounds_toArray, List.getElem_toArray, List.getElem_cons_succ, List.getElem_cons_zero, List.set_cons_succ, List.set_cons_zero])
                    (refine HoistK.no (by rfl) (by kernel_rfl) ?_; simp only [Act.put, List.setIfInBounds_toArray, List.getElem_toArray, List.getElem_cons_succ, List.getElem_cons_zero, List.set_cons_succ, List.set_cons_zero])
                    (refine HoistK.yes (by rfl) (by kernel_rfl) ⟨?_, fun w hSw => ?_, ?_⟩; rotate_left; (· go_simp; try with_reducible rfl); simp only [Act.put, List.setIfInBounds_toArray, List.getElem_toArray, List.getElem_cons_succ, List.getElem_cons_zero, List.set_cons_succ, List.set_cons_zero])
                    (refine HoistK.yes (by rfl) (by kernel_rfl) ⟨?_, fun w hSw => ?_, ?_⟩; rotate_left; (· go_simp; try with_reducible rfl); simp only [Act.put, List.setIfInBounds_toArray, List.getElem_toArray, List.getElem_cons_succ, List.getElem_cons_zero, List.set_cons_succ, List.set_cons_zero])
                    (refine HoistK.no (by rfl) (by kernel_rfl) ?_; simp only [Act.put, List.setIfInBounds_toArray, List.getElem_toArray, List.getElem_cons_succ, List.getElem_cons_zero, List.set_cons_succ, List.set_cons_zero])
                    (refine HoistK.no (by rfl) (by kernel_rfl) ?_; simp only [Act.put, List.setIfInBounds_toArray, List.getElem_toArray, List.getElem_cons_succ, List.getElem_cons_zero, List.set_cons_succ, List.set_cons_zero])
                    refine HoistK.nil_ ?_
                    simp only [opsAt, List.filterMap_cons, List.filterMap_nil, List.getElem?_toArray, List.getElem?_cons_succ, List.getElem?_cons_zero]
                    refine EffS.cons_ fun _ hQ1 => ?_
                    go_wp2_with fail
                    refine hQ1 _ _ hS0 (EffS.nil_ ?_)
                    clear hQ1
                    refine (show HoistK _ _ _ [44, 45, 46, 47, 48, 49, 50, 51, 52, 53, 54] _ _ from ?_)
                    (refine HoistK.no (by rfl) (by kernel_rfl) ?_; simp only [Act.put, List.setIfInBounds_toArray, List.getElem_toArray, List.getElem_cons_succ, List.getElem_cons_zero, List.set_cons_succ, List.set_cons_zero])
                    (refine HoistK.yes (by rfl) (by kernel_rfl) ⟨?_, fun w hSw => ?_, ?_⟩; rotate_left; (· go_simp; try with_reducible rfl); simp only [Act.put, List.setIfInBounds_toArray, List.getElem_toArray, List.getElem_cons_succ, List.getElem_cons_zero, List.set_cons_succ, List.set_cons_zero])
                    (refine HoistK.yes (by rfl) (by kernel_rfl) ⟨?_, fun w hSw => ?_, ?_⟩; rotate_left; (· go_simp; try with_reducible rfl); simp only [Act.put, List.setIfInBounds_toArray, List.getElem_toArray, List.getElem_cons_succ, List.getElem_cons_zero, List.set_cons_succ, List.set_cons_zero])
                    (refine HoistK.no (by rfl) (by kernel_rfl) ?_; simp only [Act.put, List.setIfInBounds_toArray, List.getElem_toArray, List.getElem_cons_succ, List.getElem_cons_zero, List.set_cons_succ, List.set_cons_zero])
                    (refine HoistK.no (by rfl) (by kernel_rfl) ?_; simp only [Act.put, List.setIfInBounds_toArray, List.getElem_toArray, List.getElem_cons_succ, List.getElem_cons_zero, List.set_cons_succ, List.set_cons_zero])
                    (refine HoistK.no (by rfl) (by kernel_rfl) ?_; simp only [Act.put, List.setIfInBounds_toArray, List.getElem_toArray, List.getElem_cons_succ, List.getElem_cons_zero, List.set_cons_succ, List.set_cons_zero])
                    (refine HoistK.no (by rfl) (by kernel_rfl) ?_; simp only [Act.put, List.setIfInBounds_toArray, List.getElem_toArray, List.getElem_cons_succ, List.getElem_cons_zero, List.set_cons_succ, List.set_cons_zero])
                    (refine HoistK.no (by rfl) (by kernel_rfl) ?_; simp only [Act.put, List.setIfInBounds_toArray, List.getElem_toArray, List.getElem_cons_succ, List.getElem_cons_zero, List.set_cons_succ, List.set_cons_zero])
                    (refine HoistK.no (by rfl) (by kernel_rfl) ?_; simp only [Act.put, List.setIfInBounds_toArray, List.getElem_toArray, List.getElem_cons_succ, List.getElem_cons_zero, List.set_cons_succ, List.set_cons_zero])
                    (refine HoistK.yes (by rfl) (by kernel_rfl) ⟨?_, fun w hSw => ?_, ?_⟩; rotate_left; (· go_simp; try with_reducible rfl); simp only [Act.put, List.setIfInBounds_toArray, List.getElem_toArray, List.getElem_cons_succ, List.getElem_cons_zero, List.set_cons_succ, List.set_cons_zero])
                    (refine HoistK.yes (by rfl) (by kernel_rfl) ⟨?_, fun w hSw => ?_, ?_⟩; rotate_left; (· go_simp; try with_reducible rfl); simp only [Act.put, List.setIfInBounds_toArray, List.getElem_toArray, List.getElem_cons_succ, List.getElem_cons_zero, List.set_cons_succ, List.set_cons_zero])
                    refine HoistK.nil_ (EffS.nil_ (fun Q' hQ' => ?_))
                    go_wp2
                    exact ⟨⟨k + 1, by omega, by go_num, B6.drew⟩, by simp [intOf]; omega⟩
              · go_wp2_with fail
                refine (loose_any qa Ta _ _ (ha6.below hB).is).mono ?_
                rintro e v1 ⟨rfl, rfl⟩
                rw [show (D.up [] torn).loose.length = 0 from rfl]
                go_wp2_with fail
                refine (loose_any qb Tb _ _ (hbk6.below hB).is).mono ?_
                rintro e v2 ⟨rfl, rfl⟩
                rw [show (D.up (List.replicate D.loose.length true) (-1)).loose.length = 0 from rfl]
                go_wp2_with fail
                refine (loose_any p S _ _ (hD6.below hB).is).mono ?_
                rintro e v3 ⟨rfl, rfl⟩
                rw [show (D.up keep torn).loose.length = 0 from rfl]
                go_wp2_with fail
                go_ret
                exact ⟨rfl, hb6.trans (hB.mono hb6.size)⟩

end Go.Proofs.Ythmjgcmaoniejaa
