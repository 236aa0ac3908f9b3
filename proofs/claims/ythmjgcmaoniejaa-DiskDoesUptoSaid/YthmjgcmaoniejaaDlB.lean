/- DiskDoes: the walk. -/
import Derived.Test.YthmjgcmaoniejaaDlA
namespace Go.Proofs.Ythmjgcmaoniejaa
open Go.RowKit Go.Maps

attribute [-simp] Try.isAgg35 Try.sizeOf35 Try.typeInfo35 Try.isAgg61 Try.sizeOf61 Try.typeInfo61 Try.isAgg58 Try.sizeOf58 Try.typeInfo58

theorem run_mini (a b : Int) (ty : TypeId) (W : World) : (Builtin.min_ #[3, 3] ty #[.int .i64 a, .int .i64 b]).run Try.prog W = .ok (.int .i64 (min a b)) W := by
  by_cases h : b < a
  · have e : min a b = b := by omega
    rw [e]
    simp [Builtin.min_, Builtin.min2, go_sem, h]
  · have e : min a b = a := by omega
    rw [e]
    simp [Builtin.min_, Builtin.min2, go_sem, h]

set_option maxHeartbeats 4000000 in
set_option maxRecDepth 100000 in
theorem does_any (n : Int) (A : Option Addr) (cap : Nat) (gs : List KSt) (w : World) (h : KScript w A cap gs) (hsz : gs.length ≤ 1048576) :
    Calls Try.prog 3 #[.int .i64 n, .slice A gs.length cap] w fun e w' => e = .returned (.bool true) ∧ Below w.heap.size w w' := by
  obtain ⟨hrow, hea⟩ := h
  go_enter Try.func3, Try.ntmps3
  go_wp2_with fail
  refine (fixed_any w).mono ?_
  rintro e w1 ⟨rfl, b1⟩
  by_cases hn : n < 1 ∨ 4096 < n
  · go_wp2_with fail
    refine (dnew_nil n hn w1).mono ?_
    rintro e w2 ⟨rfl, rfl⟩
    go_wp2_with fail
    refine (rnew_nil n hn w2).mono ?_
    rintro e w3 ⟨rfl, rfl⟩
    go_wp2_with fail
    go_ret
    exact ⟨rfl, b1⟩
  · obtain ⟨nn, rfl⟩ := Int.eq_ofNat_of_zero_le (show 0 ≤ n by omega)
    go_wp2_with fail
    refine (new_dk nn (by omega) (by omega) w w1 b1.size).mono ?_
    rintro e w2 ⟨p, S, rfl, d2, b2, s2⟩
    go_wp2_with fail
    refine (rnew_any nn (by omega) (by omega) w2).mono ?_
    rintro e w3 ⟨q, T, rfl, r3, b3, t3⟩
    have c2 := b1.trans (b2.mono b1.size)
    have hb3 := c2.trans (b3.mono c2.size)
    have hP : Pair w w3 p S (DS.new nn) q T (RS.new nn) 0 := ⟨d2.below b3, r3, fun b hb => Nat.le_trans c2.size (t3 b hb), Tie.new nn (by omega), (fun x hx => by rw [List.eq_of_mem_replicate hx, noughts, List.length_replicate]), fun b hs ht => by have := d2.lt b hs; have := t3 b ht; omega⟩
    clear d2 b2 s2 r3 b3 t3 c2 b1
    go_wp2_with fail
    go_loopw [5, 6, 7] (fun u v i wr => ∃ (j p q : Nat) (S T : Nat → Prop) (D : DS) (R : RS), j ≤ gs.length ∧ i = .int .i64 j ∧ u = .pointer (some ⟨p, 0, none⟩) ∧ v = .pointer (some ⟨q, 0, none⟩) ∧ Pair w wr p S D q T R j ∧ Below w.heap.size w wr) (fun _ _ i _ => gs.length - (intOf i).toNat)
    case atStart => exact ⟨0, p, q, S, T, _, _, Nat.zero_le _, rfl, rfl, rfl, hP, hb3⟩
    case round =>
      clear hP hb3 S T
      obtain ⟨j, p, q, S, T, D, R, hj, rfl, rfl, rfl, hP, hb⟩ := hrel
      by_cases hlt : j < gs.length
      · obtain ⟨b, off, rfl, hgb, _, q0, q1, q2, q3⟩ := ksteps_at hrow hlt
        have hg := hea _ (List.getElem_mem hlt)
        have hq : ∀ W, Below w.heap.size w W → W.cell? ⟨b, off + j * 4, none⟩ = some (.int .i64 gs[j].kind) ∧ W.cell? ⟨b, off + j * 4 + 1, none⟩ = some (.int .i64 gs[j].n) ∧ W.cell? ⟨b, off + j * 4 + 2, none⟩ = some (.int .u8 gs[j].b) ∧ W.cell? ⟨b, off + j * 4 + 3, none⟩ = some gs[j].kv :=
          fun W hW => ⟨(hW.cell (p := ⟨b, off + j * 4, none⟩) hgb).trans q0, (hW.cell (p := ⟨b, off + j * 4 + 1, none⟩) hgb).trans q1, (hW.cell (p := ⟨b, off + j * 4 + 2, none⟩) hgb).trans q2, (hW.cell (p := ⟨b, off + j * 4 + 3, none⟩) hgb).trans q3⟩
        clear q0 q1 q2 q3
        obtain ⟨q0, q1, q2, q3⟩ := hq _ hb
        generalize gs[j] = g at *
        by_cases k6 : g.kind = 6
        · have t6 : (g.kind == 6) = true := by rw [k6]; rfl
          clear k6
          go_wp2_with fail
          refine (copy_dk hP.d hb.size (by omega)).mono ?_
          rintro e w4 ⟨p2, S2, rfl, d4, b4, s4⟩
          have hP4 := hP.below b4
          have hb4 := hb.trans (b4.mono hb.size)
          have hrl := hP.rlen
          clear q0 q1 q2 q3
          go_wp2_with fail
          refine (rcopy_any q T R w4 hP4.r hP4.tie.len (by omega)).mono ?_
          rintro e w5 ⟨q2, T2, rfl, r5, b5, t5⟩
          have hb5 := hb4.trans (b5.mono hb4.size)
          have d5 := d4.below b5
          have o5 := hP4.d.below b5
          have hlS := hP.d.lt
          have hlS2 := d4.lt
          have hs4 := b4.size
          have a1 : ∀ b, S2 b → ¬ S b := fun b h1 h2 => by have := s4 b h1; have := hlS b h2; omega
          have a2 : ∀ b, T2 b → ¬ S b := fun b h1 h2 => by have := t5 b h1; have := hlS b h2; omega
          have hP5 : Pair w w5 p2 S2 D q2 T2 R j := ⟨d5, r5, fun b hb' => Nat.le_trans hb4.size (t5 b hb'), hP.tie, hP.firm, fun b h1 h2 => by have := hlS2 b h1; have := t5 b h2; omega⟩
          clear d4 d5 r5 b4 b5 hP hP4 s4 t5 hb hb4
          go_wp2_with fail
          obtain ⟨_, z1, z2, _⟩ := hq _ hb5
          refine wp_region_hoist [0, 1, 2, 3, 4, 5, 6, 7, 8, 9, 10, 11] [12] [13] (fun w' => w'.cell? ⟨b, off + j * 4 + 1, none⟩ = some (.int .i64 g.n) ∧ w'.cell? ⟨b, off + j * 4 + 2, none⟩ = some (.int .u8 g.b))
            (by kernel_rfl) (by kernel_rfl) (by kernel_rfl) (by kernel_rfl) (by kernel_rfl) (by kernel_rfl) ⟨z1, z2⟩ ?_
          (refine HoistK.yes (by rfl) (by kernel_rfl) ⟨?_, fun w hSw => ?_, ?_⟩; rotate_left; (· go_simp; try with_reducible rfl); simp only [Act.put, List.setIfInBounds_toArray, List.getElem_toArray, List.getElem_cons_zero, List.set_cons_succ, List.set_cons_zero])
          (refine HoistK.yes (by rfl) (by kernel_rfl) ⟨?_, fun w hSw => ?_, ?_⟩; rotate_left; (· go_simp; try with_reducible rfl); simp only [Act.put, List.setIfInBounds_toArray, List.getElem_toArray, List.getElem_cons_succ, List.getElem_cons_zero, List.set_cons_succ, List.set_cons_zero])
          (refine HoistK.yes (by rfl) (by kernel_rfl) ⟨?_, fun w hSw => ?_, ?_⟩; rotate_left; (· go_simp; try with_reducible rfl); simp only [Act.put, List.setIfInBounds_toArray, List.getElem_toArray, List.getElem_cons_succ, List.getElem_cons_zero, List.set_cons_succ, List.set_cons_zero])
          (refine HoistK.yes (by rfl) (by kernel_rfl) ⟨?_, fun w hSw => ?_, ?_⟩; rotate_left; (· go_simp; try with_reducible rfl); simp only [Act.put, List.setIfInBounds_toArray, List.getElem_toArray, List.getElem_cons_succ, List.getElem_cons_zero, List.set_cons_succ, List.set_cons_zero])
          (refine HoistK.yes (by rfl) (by kernel_rfl) ⟨?_, fun w hSw => ?_, ?_⟩; rotate_left; (· go_simp; try with_reducible rfl); simp only [Act.put, List.setIfInBounds_toArray, List.getElem_toArray, List.getElem_cons_succ, List.getElem_cons_zero, List.set_cons_succ, List.set_cons_zero])
          (refine HoistK.yes (by rfl) (by kernel_rfl) ⟨?_, fun w hSw => ?_, ?_⟩; rotate_left; (· go_simp; try with_reducible rfl); simp only [Act.put, List.setIfInBounds_toArray, List.getElem_toArray, List.getElem_cons_succ, List.getElem_cons_zero, List.set_cons_succ, List.set_cons_zero])
          (refine HoistK.yes (by rfl) (by kernel_rfl) ⟨?_, fun w hSw => ?_, ?_⟩; rotate_left; (· go_simp; try with_reducible rfl); simp only [Act.put, List.setIfInBounds_toArray, List.getElem_toArray, List.getElem_cons_succ, List.getElem_cons_zero, List.set_cons_succ, List.set_cons_zero])
          (refine HoistK.yes (by rfl) (by kernel_rfl) ⟨?_, fun w hSw => ?_, ?_⟩; rotate_left; (· go_simp; try with_reducible rfl); simp only [Act.put, List.setIfInBounds_toArray, List.getElem_toArray, List.getElem_cons_succ, List.getElem_cons_zero, List.set_cons_succ, List.set_cons_zero])
          (refine HoistK.yes (by rfl) (by kernel_rfl) ⟨?_, fun w hSw => ?_, ?_⟩; rotate_left; (· go_simp; try with_reducible rfl); simp only [Act.put, List.setIfInBounds_toArray, List.getElem_toArray, List.getElem_cons_succ, List.getElem_cons_zero, List.set_cons_succ, List.set_cons_zero])
          (refine HoistK.yes (by rfl) (by kernel_rfl) ⟨?_, fun w hSw => ?_, ?_⟩; rotate_left; (· go_simp; try with_reducible rfl); simp only [Act.put, List.setIfInBounds_toArray, List.getElem_toArray, List.getElem_cons_succ, List.getElem_cons_zero, List.set_cons_succ, List.set_cons_zero])
          (refine HoistK.yes (by rfl) (by kernel_rfl) ⟨?_, fun w hSw => ?_, ?_⟩; rotate_left; (· go_simp; try with_reducible rfl); simp only [Act.put, List.setIfInBounds_toArray, List.getElem_toArray, List.getElem_cons_succ, List.getElem_cons_zero, List.set_cons_succ, List.set_cons_zero])
          (refine HoistK.yes (by rfl) (by kernel_rfl) ⟨?_, fun w hSw => ?_, ?_⟩; rotate_left; (· go_simp; try with_reducible rfl); simp only [Act.put, List.setIfInBounds_toArray, List.getElem_toArray, List.getElem_cons_succ, List.getElem_cons_zero, List.set_cons_succ, List.set_cons_zero])
          refine HoistK.nil_ ?_
          simp only [opsAt, List.filterMap_cons, List.filterMap_nil, List.getElem?_toArray, List.getElem?_cons_succ, List.getElem?_cons_zero]
          refine Effects.cons_ fun _ hQ1 => ?_
          go_wp2_with fail
          refine (block_any _ _).mono ?_
          rintro e w6 ⟨rfl, b6⟩
          go_wp2_with fail
          have b6' : Below w5.heap.size w5 w6 := (Below.refl _ w5).drew.trans b6
          have hb6 := hb5.trans (b6'.mono hb5.size)
          have hP6 := hP5.below b6'
          have o6 := o5.below b6'
          obtain ⟨_, z3, z4, _⟩ := hq _ hb6
          refine hQ1 _ _ ⟨z3, z4⟩ (Effects.nil_ fun _ hQ2 => ?_)
          clear hQ1 z1 z2 z3 z4 hP5 o5 hb5 b6 b6'
          go_wp2_with fail
          refine (write_dk o6 hb6.size hg.n (blk_length _) (by omega)).mono ?_
          rintro e w7 ⟨rfl, S7, o7, c7, s7⟩
          have hb7 := o6.out c7 hb6
          have hP7 : Pair w w7 p2 S2 D q2 T2 R j := ⟨hP6.d.chg c7 a1, hP6.r.chg c7 a2, hP6.rnew, hP6.tie, hP6.firm, hP6.apart⟩
          have hl2 := hP6.d.lt
          have hl3 := hP6.r.2.1
          have a3 : ∀ b, S2 b → ¬ S7 b := fun b h1 h2 => (s7 b h2).elim (a1 b h1) (fun hk => by have := hl2 b h1; omega)
          have a4 : ∀ b, T2 b → ¬ S7 b := fun b h1 h2 => (s7 b h2).elim (a2 b h1) (fun hk => by have := hl3 b h1; omega)
          clear hP6 o6 c7 hb6
          go_wp2_with fail
          refine (sync_dk o7 (by omega)).mono ?_
          rintro e w8 ⟨rfl, o8, c8⟩
          have hb8 := o7.out c8 hb7
          have hP8 : Pair w w8 p2 S2 D q2 T2 R j := ⟨hP7.d.chg c8 a3, hP7.r.chg c8 a4, hP7.rnew, hP7.tie, hP7.firm, hP7.apart⟩
          clear hP7 o7 c8 hb7
          go_wp2_with fail
          refine (room_dk o8 0).mono ?_
          rintro e w9 ⟨rfl, o9, c9⟩
          have hb9 := o8.out c9 hb8
          have hP9 : Pair w w9 p2 S2 D q2 T2 R j := ⟨hP8.d.chg c9 a3, hP8.r.chg c9 a4, hP8.rnew, hP8.tie, hP8.firm, hP8.apart⟩
          clear hP8 o8 c9 hb8 o9
          go_wp2_with fail
          exact ⟨⟨j + 1, p2, q2, S2, T2, D, R, by omega, by go_num, rfl, rfl, ⟨hP9.d.more (by omega), hP9.r, hP9.rnew, hP9.tie, hP9.firm, hP9.apart⟩, hb9⟩, by simp [intOf]; omega⟩
        · have t6 : (g.kind == 6) = false := by simpa using k6
          clear k6
          obtain ⟨Ak, capk, hkv⟩ := hg.keep.form
          have hplay := play_any w wr p q S T D R j hP hb g hg (by omega)
          rw [hkv] at q3 hplay
          go_wp2_with fail
          refine hplay.mono ?_
          rintro e w4 ⟨rfl, b4, S4, T4, D4, R4, hP4⟩
          go_wp2_with fail
          exact ⟨⟨j + 1, p, q, S4, T4, D4, R4, by omega, by go_num, rfl, rfl, hP4, b4⟩, by simp [intOf]; omega⟩
      · go_wp2_with fail
        refine (up_dk hP.d (keep := []) (Cs.nil_ _ (fun _ => False) _) (-1) (by omega)).mono ?_
        rintro e w4 ⟨rfl, d4, c4⟩
        obtain ⟨r4, a4⟩ := pair_dk hP c4 (fun _ h => .inl h)
        have hb4 := hP.d.out c4 hb
        have hrl := hP.rlen
        go_wp2_with fail
        refine (rup_any q T (fun _ => False) R [] (-1) _ _ r4 hP.rok (Cs.nil_ _ _ _) (fun _ h => h.elim) (by rw [hP.tie.loose]; exact hP.tie.names) (by omega)).mono ?_
        rintro e w5 ⟨rfl, r5, c5⟩
        have hb5 : Below w.heap.size w w5 := hb4.trans (c5.below hb4.size hP.rnew)
        have hP5 : Pair w w5 p S (D.up [] (-1)) q T (R.up [] (-1)) j := ⟨d4.chg c5 a4, r5, hP.rnew, hP.tie.up hP.d.fine.ok.1 hP.firm [] (-1), RS.up_firm hP.tie hP.d.fine.ok.1 hP.firm [] (-1), a4⟩
        clear d4 c4 r4 a4 hb4 hrl r5 c5 hP hb
        generalize D.up [] (-1) = D5 at *
        generalize R.up [] (-1) = R5 at *
        have hz := (zero_of_info info_block).1
        have hys := (zero_of_info info_block).2
        obtain ⟨Z, hZ⟩ : ∃ Z, Z = (cu8 noughts).toArray := ⟨_, rfl⟩
        rw [← hZ] at hz
        have hZs : Z.size = 256 := by rw [hZ, List.size_toArray, cu8_length, noughts, List.length_replicate]
        clear hZ
        have hys := Lib.hid hys
        go_wp2_with fail
        go_loopw [10] (fun i wq => ∃ k : Nat, k ≤ 42 ∧ i = .int .i64 ((k : Int) - 1) ∧ Below w5.heap.size w5 wq) (fun i _ => (42 - intOf i).toNat)
        case atStart => exact ⟨0, by omega, rfl, Below.refl _ _⟩
        case round =>
          obtain ⟨k, hk, rfl, hB⟩ := hrel
          have hP6 := hP5.below hB
          have hb6 := hb5.trans (hB.mono hb5.size)
          obtain ⟨_, _, vf, vl, hbr, hfo, _, hlo, _⟩ := hP6.r
          obtain ⟨Al, capl, rfl⟩ := hlo.form
          obtain ⟨Af, capf, rfl⟩ := hfo.form
          have hc := hbr.cell
          have hmn := run_mini (R5.firm.length : Int) 40
          by_cases hle : (k : Int) - 1 ≤ min (R5.firm.length : Int) 40
          · have hk41 : k ≤ 41 := by omega
            have hwk : (Lit.int .i64 ((k : Int) - 1)).wf = true := by simp [Lit.wf, IntKind.min, IntKind.max, IntKind.signed, IntKind.bits]; omega
            have hrl := hP6.d.fine.read_length ((k : Int) - 1)
            have htr0 := hP6.tie.read ((k : Int) - 1)
            generalize min (R5.firm.length : Int) 40 = mm at *
            go_wp2_with fail
            refine (read_dk hP6.d hwk (by omega)).mono ?_
            rintro e w6 ⟨rfl, b6⟩
            obtain ⟨l, hl0⟩ : ∃ l, l = (D5.read ((k : Int) - 1)).1 := ⟨_, rfl⟩
            obtain ⟨rr, hrr0⟩ : ∃ rr, rr = (D5.read ((k : Int) - 1)).2 := ⟨_, rfl⟩
            rw [← hl0, ← hrr0]
            rw [← hl0] at hrl
            have hl := Lib.hid hl0
            have hrr := Lib.hid hrr0
            have htr := Lib.hid htr0
            clear hl0 hrr0 htr0 hc hmn
            have h2 := hP6.below b6
            have hB2 := hB.trans (b6.mono hB.size)
            have hst := fun w => run_storeCells_new (P := Try.prog) w 35 Z (cu8 l).toArray (by rw [List.size_toArray, cu8_length, hrl]; exact hys.out) (by rw [hZs, List.size_toArray, cu8_length, hrl]) (all_oneCell_toArray (cu8_one _))
            have hls : (cu8 l).toArray.size = 256 := by rw [List.size_toArray, cu8_length, hrl]
            have heq := fun w => run_equal_block w l l hrl hrl
            simp only [decide_true] at heq
            go_wp2_with fail
            simp only [Try.sizeOf35, Result.andThen, ↓reduceIte, hst]
            rw [Oper.upon_skip]
            go_wp2_with fail
            have k2 := Blk.new w6 35 (cu8 l).toArray
            have h3 := h2.alloc (.cells (cu8 l).toArray 35)
            have hB3 := hB2.alloc hB2.size (.cells (cu8 l).toArray 35)
            generalize w6.alloc (.cells (cu8 l).toArray 35) = w7 at *
            generalize w6.heap.size = X1 at *
            clear h2 hB2
            have hrl2 := h3.rlen
            refine (rread_any q T R5 ((k : Int) - 1) _ h3.r h3.rok (by omega) h3.tie.len).mono ?_
            rintro e w8 ⟨rfl, b8⟩
            rw [← htr.out, ← hl.out, ← hrr.out]
            have k4 := k2.below b8 k2.lt
            have hB4 := hB3.trans (b8.mono hB3.size)
            clear h3 hB3 b8 k2
            go_wp2_with fail
            simp only [Try.sizeOf35, Result.andThen, ↓reduceIte, hst]
            rw [Oper.upon_skip]
            go_wp2_with fail
            have hlc : ∀ (X : Nat) (W : World), Blk W X 35 (cu8 l).toArray → (loadCellsFrom ⟨X, 0, none⟩ 0 256 #[]).run Try.prog W = .ok (cu8 l).toArray W := fun X W hb => by
              have := run_loadCells_list (P := Try.prog) W ⟨X, 0, none⟩ (cu8 l) (fun i v hv => by rw [Addr.add_mid]; exact hb.range i v hv)
              rw [cu8_length, hrl] at this
              exact this
            have hl1 := hlc _ _ (k4.alloc (.cells (cu8 l).toArray 35))
            have hl2 := hlc _ _ (Blk.new w8 35 (cu8 l).toArray)
            simp only [Try.isAgg35, Try.sizeOf35, Result.andThen, ↓reduceIte, hl1]
            rw [Oper.upon_value]
            go_wp2_with fail
            simp only [Try.isAgg35, Try.sizeOf35, Result.andThen, ↓reduceIte, hl2]
            rw [Oper.upon_value]
            go_wp2_with fail
            exact ⟨⟨k + 1, by omega, by go_num, hB4.alloc hB4.size _⟩, by simp [intOf]; omega⟩
          · generalize min (R5.firm.length : Int) 40 = mm at *
            go_wp2_with fail
            go_ret
            exact ⟨rfl, hb6⟩

end Go.Proofs.Ythmjgcmaoniejaa
