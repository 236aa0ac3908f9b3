/- DiskFuse: the walk. -/
import Derived.Test.YthmjgcmaoniejaaDkO
import Derived.Deep.DeepCutAuto
import Derived.Deep.CutBlock
import Derived.Laws.OwnMore
namespace Go.Proofs.Ythmjgcmaoniejaa
open Go.RowKit Go.Maps

attribute [-simp] Try.isAgg35 Try.sizeOf35 Try.typeInfo35 Try.isAgg58 Try.sizeOf58 Try.typeInfo58

theorem info_bool : (Try.prog.info? 4).map (fun i => (i.zero, i.size, i.bytes)) = some (some (.bool false), 1, 1) := by kernel_rfl
theorem run_make_bools (n : Nat) (hn : n ≤ 1048576) (u : World) : (Instr.makeSlice 28 (.int .i64 n) (.int .i64 n)).run Try.prog u =
    .ok (.slice (some ⟨u.heap.size, 0, none⟩) n n) (u.alloc (.cells (bools (List.replicate n false)).toArray 4)) := by
  obtain ⟨i0, hi, hz0, hz1, hz2⟩ := info_parts info_bool
  have h := run_make (P := Try.prog) u 28 4 i0 (.bool false) Try.underlying28 hi hz0 .i64 .i64 (n : Int) (n : Int) (by omega) (Int.le_refl _) (by rw [hz2]; omega) (by omega)
  simp only [Int.toNat_natCast] at h
  have e : madeCells (Value.bool false).cells (n * i0.size) = (bools (List.replicate n false)).toArray := by
    apply Array.toList_inj.1
    rw [hz1, Nat.mul_one]
    exact (toList_madeCells_one _ _).trans (by simp [bools])
  rw [h, e]

set_option maxHeartbeats 4000000 in
set_option maxRecDepth 100000 in
theorem fuse_any (fuse : Int) (A : Option Addr) (cap : Nat) (gs : List KSt) (w : World) (h : KScript w A cap gs) (hsz : gs.length ≤ 1048576) :
    Calls Try.prog 5 #[.slice A gs.length cap, .int .i64 fuse] w fun e w' => e = .returned (.bool true) ∧ Below w.heap.size w w' := by
  obtain ⟨hrow, hea⟩ := h
  go_enter Try.func5, Try.ntmps5
  go_wp2_with fail
  refine (fixed_any w).mono ?_
  rintro e w1 ⟨rfl, b1⟩
  go_wp2_with fail
  refine (new_dk 8 (by omega) (by omega) w w1 b1.size).mono ?_
  rintro e w2 ⟨p, S0, rfl, h2, b2, s2⟩
  go_wp2_with fail
  refine (new_dk 8 (by omega) (by omega) w w2 (Nat.le_trans b1.size b2.size)).mono ?_
  rintro e w3 ⟨q, T0, rfl, g3, b3, t3⟩
  have h3 := h2.below b3
  have a3 : ∀ b, S0 b → ¬ T0 b := fun b hb ht => by have := h2.lt b hb; have := t3 b ht; omega
  have c3 := (b1.trans (b2.mono b1.size)).trans (b3.mono (Nat.le_trans b1.size b2.size))
  clear h2 b1 b2 b3 s2 t3
  go_wp2_with fail
  have hf1 : -60 < fuse.tmod 60 := Int.lt_tmod_of_pos _ (by decide)
  have hf2 : fuse.tmod 60 < 60 := Int.tmod_lt_of_pos _ (by decide)
  generalize fuse.tmod 60 = fz at *
  have hfz : (Lit.int .i64 fz).wf = true := by simp [Lit.wf, IntKind.min, IntKind.max, IntKind.signed, IntKind.bits]; omega
  refine (arm_dk h3 hfz).mono ?_
  rintro e w4 ⟨rfl, h4, c4⟩
  have b4 := h3.out c4 c3
  have g4 := g3.chg c4 (fun b hb hs => a3 b hs hb)
  have hI : FuzI fz fz { DS.new 8 with fuse := max fz (-1) } (DS.new 8) := by
    refine ⟨⟨rfl, rfl, rfl, rfl⟩, ⟨rfl, rfl⟩, ?_⟩
    rcases Int.lt_or_le fz 0 with hl | hl
    · exact .inl ⟨hl, by simp only; omega, rfl⟩
    · rcases Int.lt_or_le 0 fz with h0 | h0
      · exact .inr (.inl ⟨hl, h0, by simp only; omega, rfl⟩)
      · exact .inr (.inr ⟨hl, h0, .inl ⟨by simp only; omega, rfl⟩⟩)
  have hbl : ({ DS.new 8 with fuse := max fz (-1) } : DS).blocks = 8 := rfl
  generalize ({ DS.new 8 with fuse := max fz (-1) } : DS) = D0 at *
  have hbl2 : (DS.new 8).blocks = 8 := rfl
  generalize DS.new 8 = E0 at *
  clear h3 g3 c3 c4 hfz
  go_wp2_with fail
  go_loopw [7, 8] (fun l i wr => ∃ (j : Nat) (L : Int) (D E : DS) (S T : Nat → Prop), j ≤ gs.length ∧ i = .int .i64 j ∧ l = .int .i64 L ∧ FuzI fz L D E ∧ -60 - (j : Int) ≤ L ∧ L ≤ 60 ∧ Dk w wr p S D j ∧ Dk w wr q T E j ∧ (∀ b, S b → ¬ T b) ∧ Below w.heap.size w wr ∧ D.blocks = 8) (fun _ i _ => gs.length - (intOf i).toNat)
  case atStart => exact ⟨0, fz, D0, E0, S0, T0, Nat.zero_le _, rfl, rfl, hI, by omega, by omega, h4, g4, a3, b4, hbl⟩
  case round =>
    clear hI h4 g4 a3 b4 S0 T0 hbl hbl2
    obtain ⟨j, L, D, E, S, T, hj, rfl, rfl, hI, hL1, hL2, hD, hE, hST, hbw, hb8⟩ := hrel
    by_cases hlt : j < gs.length
    · obtain ⟨b, off, rfl, _, hbl, q0, q1, q2, q3⟩ := ksteps_at (hrow.below hbw) hlt
      have hg := hea _ (List.getElem_mem hlt)
      have hkf := hg.keep.form
      generalize gs[j] = g at *
      obtain ⟨Ak, capk, hkv⟩ := hkf
      rw [hkv] at q3
      go_upto_if 40 with fail
      have hX := Blk.new wr 30 #[.int .i64 g.kind, .int .i64 g.n, .int .u8 g.b, .slice Ak g.keep.length capk]
      have hD1 := hD.alloc (.cells #[.int .i64 g.kind, .int .i64 g.n, .int .u8 g.b, .slice Ak g.keep.length capk] 30)
      have hE1 := hE.alloc (.cells #[.int .i64 g.kind, .int .i64 g.n, .int .u8 g.b, .slice Ak g.keep.length capk] 30)
      have hb1 := hbw.alloc hbw.size (.cells #[.int .i64 g.kind, .int .i64 g.n, .int .u8 g.b, .slice Ak g.keep.length capk] 30)
      have hlD := hD.lt
      have hlE := hE.lt
      go_cut [10] (fun a wx => ∃ S' : Nat → Prop, a = .int .i64 (D.op g).2 ∧ Dk w wx p S' (D.op g).1 (j + 1) ∧ Dk w wx q T E j ∧ (∀ b, S' b → ¬ T b) ∧ ¬ S' wr.heap.size ∧ Blk wx wr.heap.size 30 #[.int .i64 g.kind, .int .i64 g.n, .int .u8 g.b, .slice Ak g.keep.length capk] ∧ Below w.heap.size w wx)
      case first =>
        generalize hWr : wr.alloc (.cells #[.int .i64 g.kind, .int .i64 g.n, .int .u8 g.b, .slice Ak g.keep.length capk] 30) = W at *
        have hWs : W.heap.size = wr.heap.size + 1 := by rw [← hWr, World.size_alloc]
        clear hWr
        cases hk : g.kind.tmod 2 == 0
        · have e : D.op g = D.sync := by unfold DS.op; rw [if_neg (by simpa using hk)]
          go_wp2_with fail
          refine (sync_dk hD1 (by omega)).mono ?_
          rintro e w5 ⟨rfl, h5, c5⟩
          go_wp2_with fail
          go_meet
          rw [e]
          exact ⟨S, rfl, h5.more (by omega), hE1.chg c5 (fun b hb hs => hST b hs hb), hST, fun h => by have := hlD _ h; omega, hX.chg c5 (fun h => by have := hlD _ h; omega), hD1.out c5 hb1⟩
        · have e : D.op g = D.write g.n (blk g.b) := by unfold DS.op; rw [if_pos (by simpa using hk)]
          go_wp2_with fail
          refine wp_region_hoist [0, 1, 2, 3, 4] [5] [6, 7] (fun w' => w'.cell? ⟨wr.heap.size, 1, none⟩ = some (.int .i64 g.n) ∧ w'.cell? ⟨wr.heap.size, 2, none⟩ = some (.int .u8 g.b))
            (by kernel_rfl) (by kernel_rfl) (by kernel_rfl) (by kernel_rfl) (by kernel_rfl) (by kernel_rfl) ⟨hX.cell 1, hX.cell 2⟩ ?_
          (iterate 5 (refine HoistK.yes (by rfl) (by kernel_rfl) ⟨?_, fun w hSw => ?_, ?_⟩; rotate_left; (· go_simp; try with_reducible rfl); simp only [Act.put, List.setIfInBounds_toArray, List.getElem_toArray, List.getElem_cons_succ, List.getElem_cons_zero, List.set_cons_succ, List.set_cons_zero]))
          refine HoistK.nil_ ?_
          simp only [opsAt, List.filterMap_cons, List.filterMap_nil, List.getElem?_toArray, List.getElem?_cons_succ, List.getElem?_cons_zero]
          refine Effects.cons_ fun _ hQ1 => ?_
          go_wp2_with fail
          refine (block_any g.b _).mono ?_
          rintro e w5 ⟨rfl, b5⟩
          go_wp2_with fail
          have b5' : Below W.heap.size W w5 := (Below.refl _ W).drew.trans b5
          have hX5 := hX.below b5' hX.lt
          refine hQ1 _ _ ⟨hX5.cell 1, hX5.cell 2⟩ (Effects.nil_ fun _ hQ2 => ?_)
          clear hQ1 b5
          have hD5 := hD1.below b5'
          have hE5 := hE1.below b5'
          have c5 := hb1.trans (b5'.mono hb1.size)
          go_wp2_with fail
          refine (write_dk hD5 c5.size hg.n (blk_length g.b) (by omega)).mono ?_
          rintro e w6 ⟨rfl, S6, h6, c6, s6⟩
          go_wp2_with fail
          go_meet
          rw [e]
          refine ⟨S6, rfl, h6, hE5.chg c6 (fun b hb hs => hST b hs hb), fun b hb ht => (s6 b hb).elim (fun hs => hST b hs ht) (fun hk => by have := hE5.lt b ht; omega), fun h => (s6 _ h).elim (fun h => by have := hlD _ h; omega) (fun hk => by have := hX5.lt; omega), hX5.chg c6 (fun h => by have := hlD _ h; omega), hD5.out c6 c5⟩
      case rest =>
        obtain ⟨S', rfl, hD2, hE2, hST2, hnX, hX2, hb2⟩ := hcut
        clear hX hD1 hE1 hb1 hlD hlE hD hE hST hbw
        have hb82 : (D.op g).1.blocks = 8 := by
          rw [← hb8]
          unfold DS.op DS.write DS.sync
          have := D.begins_same.1
          split <;> (repeat' split) <;> exact this
        by_cases hdead : 0 ≤ fz ∧ L ≤ 0
        · obtain ⟨r1, r2, r3⟩ := hI.dead hdead.1 hdead.2 g
          obtain ⟨hd1, hd2⟩ := hdead
          rw [r1]
          generalize (D.op g).1 = D2 at *
          go_wp2_with fail
          refine (down_any p S' D2 _ hD2.is).mono ?_
          rintro e w7 ⟨rfl, rfl⟩
          rw [r2]
          go_wp2_with fail
          exact ⟨⟨j + 1, L, D2, E, S', T, by omega, by go_num, rfl, r3, by omega, hL2, hD2, hE2.more (by omega), hST2, hb2, hb82⟩, by simp [intOf]; omega⟩
        · obtain ⟨r1, r2, r3⟩ := hI.alive hdead g
          rw [r1]
          clear r1
          have hlD := hD2.lt
          have hlE := hE2.lt
          rcases (by omega : fz < 0 ∨ (0 ≤ fz ∧ 0 < L)) with hal | ⟨hal, hal2⟩
          all_goals
            clear hdead
            have hc := hX2.cell
            go_upto_if 68 with fail
            clear hc
            go_cut [11] (fun a wx => ∃ T' : Nat → Prop, a = .int .i64 (E.op g).2 ∧ Dk w wx p S' (D.op g).1 (j + 1) ∧ Dk w wx q T' (E.op g).1 (j + 1) ∧ (∀ b, S' b → ¬ T' b) ∧ Below w.heap.size w wx)
            case first =>
              generalize wc = W at *
              have hXl := hX2.lt
              cases hk : g.kind.tmod 2 == 0
              · have e : E.op g = E.sync := by unfold DS.op; rw [if_neg (by simpa using hk)]
                have E0 := Lib.hid e; clear e
                go_wp2_with fail
                refine (sync_dk hE2 (by omega)).mono ?_
                rintro e w5 ⟨rfl, h5, c5⟩
                go_wp2_with fail
                go_meet
                rw [E0.out]
                exact ⟨T, rfl, hD2.chg c5 hST2, h5.more (by omega), hST2, hE2.out c5 hb2⟩
              · have e : E.op g = E.write g.n (blk g.b) := by unfold DS.op; rw [if_pos (by simpa using hk)]
                have E0 := Lib.hid e; clear e
                go_wp2_with fail
                refine wp_region_hoist [0, 1, 2, 3, 4] [5] [6, 7] (fun w' => w'.cell? ⟨wr.heap.size, 1, none⟩ = some (.int .i64 g.n) ∧ w'.cell? ⟨wr.heap.size, 2, none⟩ = some (.int .u8 g.b))
                  (by kernel_rfl) (by kernel_rfl) (by kernel_rfl) (by kernel_rfl) (by kernel_rfl) (by kernel_rfl) ⟨hX2.cell 1, hX2.cell 2⟩ ?_
                (iterate 5 (refine HoistK.yes (by rfl) (by kernel_rfl) ⟨?_, fun w hSw => ?_, ?_⟩; rotate_left; (· go_simp; try with_reducible rfl); simp only [Act.put, List.setIfInBounds_toArray, List.getElem_toArray, List.getElem_cons_succ, List.getElem_cons_zero, List.set_cons_succ, List.set_cons_zero]))
                refine HoistK.nil_ ?_
                simp only [opsAt, List.filterMap_cons, List.filterMap_nil, List.getElem?_toArray, List.getElem?_cons_succ, List.getElem?_cons_zero]
                refine Effects.cons_ fun _ hQ1 => ?_
                go_wp2_with fail
                refine (block_any g.b _).mono ?_
                rintro e w5 ⟨rfl, b5⟩
                go_wp2_with fail
                have b5' : Below W.heap.size W w5 := (Below.refl _ W).drew.trans b5
                have hX5 := hX2.below b5' hX2.lt
                refine hQ1 _ _ ⟨hX5.cell 1, hX5.cell 2⟩ (Effects.nil_ fun _ hQ2 => ?_)
                clear hQ1 b5
                have hD5 := hD2.below b5'
                have hE5 := hE2.below b5'
                have c5 := hb2.trans (b5'.mono hb2.size)
                go_wp2_with fail
                refine (write_dk (hE5.more (Nat.le_refl _)) c5.size hg.n (blk_length g.b) (by omega)).mono ?_
                rintro e w6 ⟨rfl, S6, h6, c6, s6⟩
                go_wp2_with fail
                go_meet
                rw [E0.out]
                exact ⟨S6, rfl, hD5.chg c6 hST2, h6, fun b hb ht => (s6 b ht).elim (fun hs => hST2 b hb hs) (fun hk => by have := hD5.lt b hb; omega), hE5.out c6 c5⟩
            case rest =>
              obtain ⟨T', rfl, hD3, hE3, hST3, hb3⟩ := hcut
              go_wp2_with fail
              refine (down_any p S' _ _ hD3.is).mono ?_
              rintro e w7 ⟨rfl, rfl⟩
              rw [r2]
              go_wp2_with fail
              exact ⟨⟨j + 1, L - 1, (D.op g).1, (E.op g).1, S', T', by omega, by go_num, rfl, r3, by omega, by omega, hD3, hE3, hST3, hb3, hb82⟩, by simp [intOf]; omega⟩
    · obtain ⟨⟨s1, s2, s3, s4⟩, hEf, _⟩ := hI
      go_wp2_with fail
      refine (loose_any p S D _ hD.is).mono ?_
      rintro e w5 ⟨rfl, rfl⟩
      rw [s4]
      go_wp2_with fail
      refine (loose_any q T E _ hE.is).mono ?_
      rintro e w6 ⟨rfl, rfl⟩
      have hmk : (Instr.makeSlice 28 (.int .i64 3) (.int .i64 3)).run Try.prog w6 = .ok (.slice (some ⟨w6.heap.size, 0, none⟩) 3 3) (w6.alloc (.cells (bools (List.replicate 3 false)).toArray 4)) := run_make_bools 3 (by omega) w6
      go_wp2_with fail
      have hk := Cs.of_new' (size := 1) w6 4 3 (cs := bools (List.replicate 3 false)) rfl (by decide) (0, 0)
      refine (up_dk (hD.alloc (.cells (bools (List.replicate 3 false)).toArray 4)) (keep := List.replicate 3 false) hk 5 (by omega)).mono ?_
      rintro e w7 ⟨rfl, h7, c7⟩
      have b7 := (hD.alloc _).out c7 (hbw.alloc hbw.size _)
      have g7 := (hE.alloc _).chg c7 (fun b hb hs => hST b hs hb)
      clear hmk hk hD hE c7 hbw
      go_wp2_with fail
      refine (up_dk g7 (keep := []) (Cs.nil_ _ (fun _ => False) _) (-1) (by omega)).mono ?_
      rintro e w8 ⟨rfl, g8, c8⟩
      have b8 := g7.out c8 b7
      have h8 := h7.chg c8 hST
      clear h7 g7 c8 b7
      go_wp2_with fail
      have e1 := up_none (D := D) (keep := List.replicate 3 false) (fun b hb => List.eq_of_mem_replicate hb) 5
      have e2 := up_none (D := E) (keep := []) (fun b hb => by cases hb) (-1)
      have hrd : ∀ k : Int, 0 ≤ k → k < 8 → ∃ l, (D.up (List.replicate 3 false) 5).read k = (l, 0) ∧ (E.up [] (-1)).read k = (l, 0) ∧ l.length = 256 := fun k h0 h1 => by
        refine ⟨(D.firm k).getD noughts, ?_, ?_, ?_⟩
        · rw [e1]
          exact read_free rfl rfl h0 (by show k < D.blocks; omega)
        · rw [e2, s3]
          exact read_free rfl rfl h0 (by show k < E.blocks; omega)
        · exact OkF.got h8.fine.ok.2 k |> fun h => by rw [e1] at h; exact h
      generalize D.up (List.replicate 3 false) 5 = D1 at *
      generalize E.up [] (-1) = E1 at *
      clear e1 e2 s1 s2 s3 s4 hEf hb8
      have hz := (zero_of_info info_block).1
      obtain ⟨Z, hZ⟩ : ∃ Z, Z = (cu8 noughts).toArray := ⟨_, rfl⟩
      rw [← hZ] at hz
      have hZs : Z.size = 256 := by rw [hZ, List.size_toArray, cu8_length, noughts, List.length_replicate]
      clear hZ
      go_loopw [12] (fun i wq => ∃ k : Nat, k ≤ 8 ∧ i = .int .i64 k ∧ Dk w wq p S D1 j ∧ Dk w wq q T E1 j ∧ Below w.heap.size w wq) (fun i _ => 8 - (intOf i).toNat)
      case atStart => exact ⟨0, by omega, rfl, h8, g8, b8⟩
      case round =>
        clear h8 g8 b8
        obtain ⟨k, hk, rfl, h8, g8, b8⟩ := hrel
        by_cases hk8 : k < 8
        · obtain ⟨l, r1, r2, hl⟩ := hrd k (by omega) (by omega)
          have hwk : (Lit.int .i64 (k : Int)).wf = true := by simp [Lit.wf, IntKind.min, IntKind.max, IntKind.signed, IntKind.bits]; omega
          have hys := (zero_of_info info_block).2
          have hst := fun w => run_storeCells_new (P := Try.prog) w 35 Z (cu8 l).toArray (by rw [List.size_toArray, cu8_length, hl]; exact hys) (by rw [hZs, List.size_toArray, cu8_length, hl]) (all_oneCell_toArray (cu8_one _))
          have hls : (cu8 l).toArray.size = 256 := by rw [List.size_toArray, cu8_length, hl]
          have hneq := fun w => run_equal_block w l l hl hl
          simp only [decide_true] at hneq
          clear hys hrd
          go_wp2_with fail
          refine (read_dk h8 hwk (by omega)).mono ?_
          rintro e w9 ⟨rfl, b9⟩
          rw [r1]
          simp only
          have h9 := h8.below b9
          have g9 := g8.below b9
          have c9 := b8.trans (b9.mono b8.size)
          clear h8 g8 b8 b9
          go_wp2_with fail
          simp only [Try.sizeOf35, Result.andThen, ↓reduceIte, hst]
          rw [Oper.upon_skip]
          go_wp2_with fail
          have k9 := Blk.new w9 35 (cu8 l).toArray
          have h10 := h9.alloc (.cells (cu8 l).toArray 35)
          have g10 := g9.alloc (.cells (cu8 l).toArray 35)
          have c10 := c9.alloc c9.size (.cells (cu8 l).toArray 35)
          clear h9 g9 c9
          generalize w9.alloc (.cells (cu8 l).toArray 35) = w10 at *
          generalize w9.heap.size = X1 at *
          refine (read_dk g10 hwk (by omega)).mono ?_
          rintro e w11 ⟨rfl, b11⟩
          rw [r2]
          simp only
          have h11 := h10.below b11
          have g11 := g10.below b11
          have c11 := c10.trans (b11.mono c10.size)
          have k11 := k9.below b11 k9.lt
          clear h10 g10 c10 b11 k9
          go_wp2_with fail
          simp only [Try.sizeOf35, Result.andThen, ↓reduceIte, hst]
          rw [Oper.upon_skip]
          go_wp2_with fail
          have hlc : ∀ (X : Nat) (W : World), Blk W X 35 (cu8 l).toArray → (loadCellsFrom ⟨X, 0, none⟩ 0 256 #[]).run Try.prog W = .ok (cu8 l).toArray W := fun X W hb => by
            have := run_loadCells_list (P := Try.prog) W ⟨X, 0, none⟩ (cu8 l) (fun i v hv => by rw [Addr.add_mid]; exact hb.range i v hv)
            rw [cu8_length, hl] at this
            exact this
          have hl1 := hlc _ _ (k11.alloc (.cells (cu8 l).toArray 35))
          have hl2 := hlc _ _ (Blk.new w11 35 (cu8 l).toArray)
          simp only [Try.isAgg35, Try.sizeOf35, Result.andThen, ↓reduceIte, hl1]
          rw [Oper.upon_value]
          go_wp2_with fail
          simp only [Try.isAgg35, Try.sizeOf35, Result.andThen, ↓reduceIte, hl2]
          rw [Oper.upon_value]
          go_wp2_with fail
          exact ⟨⟨k + 1, by omega, by go_num, h11.alloc _, g11.alloc _, c11.alloc c11.size _⟩, by simp [intOf]; omega⟩
        · go_wp2_with fail
          go_ret
          exact ⟨rfl, b8⟩

end Go.Proofs.Ythmjgcmaoniejaa
