/- Texts joined: CdM CdN CdS CfM CfI CfO CfJ CfF CfK CfP CfQ CfR CfS CfU CfV CfZ Hoist2 Hoist3 Hoist7. -/
import Derived.Test.YtjjgmkfkmckkoabGreatDoorMb
import Derived.Test.YtjjgmkfkmckkoabGreatDoorMa
/- Codec: a fact. -/
namespace Go.Proofs.YtjjgmkfkmckkoabGreatDoor
open Go.RowKit Go.Maps
attribute [-simp] Tryz.isAgg24 Tryz.typeInfo24 Tryz.isAgg56 Tryz.typeInfo56

set_option maxHeartbeats 4000000 in
set_option maxRecDepth 100000 in
theorem fact_any (w : World) {S : Nat → Prop} {x : tFact.El} {cs : List Value} (h : tFact.rep w S x cs) (hl : (tFact.enc x).length ≤ 1099511627776) :
    Calls Tryz.prog 13 #[.agg cs.toArray] w fun e w' => ∃ v', e = .returned v' ∧ Fresh w w' v' (tFact.enc x) := by
  obtain ⟨x0, x1, x2, x3, x4, _⟩ := x
  obtain ⟨c0, _, rfl, r0, c1, _, rfl, ⟨rfl, l1⟩, c2, _, rfl, ⟨y2, rfl, r2⟩, c3, _, rfl, rfl, c4, _, rfl, ⟨y4, rfl, r4⟩, rfl⟩ := h
  have l0 : c0.length = 38 := Sh.rep_size _ _ _ r0
  obtain ⟨y0, hy0⟩ : ∃ y, y = c0 := ⟨_, rfl⟩
  subst hy0
  have R0 := Lib.hid r0; clear r0
  have R2 := Lib.hid r2; clear r2
  have R4 := Lib.hid r4; clear r4
  obtain ⟨C, hC⟩ : ∃ C, C = y0 ++ (u8s x1 ++ ([y2] ++ ([Value.bool x3] ++ ([y4] ++ ([]))))) := ⟨_, rfl⟩
  rw [← hC]
  have hf : ∀ w', Blk w' w.heap.size 58 C.toArray → w'.rangeAt w.heap.size 0 y0 ∧ w'.rangeAt w.heap.size 38 (u8s x1) ∧ w'.cell? ⟨w.heap.size, 70, none⟩ = some y2 ∧ w'.cell? ⟨w.heap.size, 71, none⟩ = some (.bool x3) ∧ w'.cell? ⟨w.heap.size, 72, none⟩ = some y4 := fun w' hb => by
    have := hb.lies [y0, u8s x1, [y2], [Value.bool x3], [y4]] [] (by rw [hC]; simp)
    simp only [Lies, u8s_length, l0, l1, List.length_cons, List.length_nil] at this
    obtain ⟨s0, s1, s2, s3, s4, _⟩ := this
    exact ⟨s0, s1, Lies.one s2, Lies.one s3, Lies.one s4⟩
  have HF := Lib.hid hf
  clear hf hC
  have hrows : tFact.enc (x0, x1, x2, x3, x4, ()) = joinB [tCommit.enc x0, x1, x2, truthB x3, x4] := rfl
  have hl' : (joinB [tCommit.enc x0, x1, x2, truthB x3, x4]).length ≤ 1099511627776 := hl
  have HLL := Lib.hid hl'
  clear hl hl'
  go_enter Tryz.func13, Tryz.ntmps13
  go_wp2_with fail
  have hsz : w.heap.size < w.heap.size + 1 := by omega
  refine wp_region_hoist [0, 1, 3, 4, 6, 7, 8, 9, 11, 12] [2, 5, 10] [13, 14, 15] (fun w' => Blk w' w.heap.size 58 C.toArray)
    (by kernel_rfl) (by kernel_rfl) (by kernel_rfl) (by kernel_rfl) (by kernel_rfl) (by kernel_rfl) (Blk.new w _ _).drew ?_
  (refine HoistK.yes (by rfl) (by kernel_rfl) ⟨?_, fun w' hSw => ?_, ?_⟩; rotate_left; (· go_simp; try with_reducible rfl); simp only [Act.put, List.setIfInBounds_toArray, List.getElem_toArray, List.getElem_cons_zero, List.set_cons_succ, List.set_cons_zero])
  (refine HoistK.load (by rfl) (by kernel_rfl) 56 _ rfl w.heap.size 0 rfl (y0) _ (fun w' hw => (HF.out w' hw).1) Tryz.underlying56 rfl (by rw [l0]; kernel_rfl) ?_; simp only [Act.put, List.setIfInBounds_toArray, List.getElem_toArray, List.getElem_cons_succ, List.getElem_cons_zero, List.set_cons_succ, List.set_cons_zero])
  (refine HoistK.yes (by rfl) (by kernel_rfl) ⟨?_, fun w' hSw => ?_, ?_⟩; rotate_left; (· go_simp; try with_reducible rfl); simp only [Act.put, List.setIfInBounds_toArray, List.getElem_toArray, List.getElem_cons_succ, List.getElem_cons_zero, List.set_cons_succ, List.set_cons_zero])
  (refine HoistK.load (by rfl) (by kernel_rfl) 24 _ rfl w.heap.size 38 rfl (u8s x1) _ (fun w' hw => (HF.out w' hw).2.1) Tryz.underlying24 rfl (by rw [u8s_length, l1]; kernel_rfl) ?_; simp only [Act.put, List.setIfInBounds_toArray, List.getElem_toArray, List.getElem_cons_succ, List.getElem_cons_zero, List.set_cons_succ, List.set_cons_zero])
  (refine HoistK.yes (by rfl) (by kernel_rfl) ⟨?_, fun w' hSw => ?_, ?_⟩; rotate_left; (· go_simp; try with_reducible rfl); simp only [Act.put, List.setIfInBounds_toArray, List.getElem_toArray, List.getElem_cons_succ, List.getElem_cons_zero, List.set_cons_succ, List.set_cons_zero])
  (refine HoistK.yes (by rfl) (by kernel_rfl) ⟨?_, fun w' hSw => ?_, ?_⟩; rotate_left; (· obtain ⟨s0, s1, s2, s3, s4⟩ := HF.out _ hSw; go_simp; try with_reducible rfl); simp only [Act.put, List.setIfInBounds_toArray, List.getElem_toArray, List.getElem_cons_succ, List.getElem_cons_zero, List.set_cons_succ, List.set_cons_zero])
  (refine HoistK.yes (by rfl) (by kernel_rfl) ⟨?_, fun w' hSw => ?_, ?_⟩; rotate_left; (· go_simp; try with_reducible rfl); simp only [Act.put, List.setIfInBounds_toArray, List.getElem_toArray, List.getElem_cons_succ, List.getElem_cons_zero, List.set_cons_succ, List.set_cons_zero])
  (refine HoistK.yes (by rfl) (by kernel_rfl) ⟨?_, fun w' hSw => ?_, ?_⟩; rotate_left; (· obtain ⟨s0, s1, s2, s3, s4⟩ := HF.out _ hSw; go_simp; try with_reducible rfl); simp only [Act.put, List.setIfInBounds_toArray, List.getElem_toArray, List.getElem_cons_succ, List.getElem_cons_zero, List.set_cons_succ, List.set_cons_zero])
  (refine HoistK.yes (by rfl) (by kernel_rfl) ⟨?_, fun w' hSw => ?_, ?_⟩; rotate_left; (· go_simp; try with_reducible rfl); simp only [Act.put, List.setIfInBounds_toArray, List.getElem_toArray, List.getElem_cons_succ, List.getElem_cons_zero, List.set_cons_succ, List.set_cons_zero])
  (refine HoistK.yes (by rfl) (by kernel_rfl) ⟨?_, fun w' hSw => ?_, ?_⟩; rotate_left; (· obtain ⟨s0, s1, s2, s3, s4⟩ := HF.out _ hSw; go_simp; try with_reducible rfl); simp only [Act.put, List.setIfInBounds_toArray, List.getElem_toArray, List.getElem_cons_succ, List.getElem_cons_zero, List.set_cons_succ, List.set_cons_zero])
  refine HoistK.nil_ ?_
  simp only [opsAt, List.filterMap_cons, List.filterMap_nil, List.getElem?_toArray, List.getElem?_cons_succ, List.getElem?_cons_zero]
  have hb0 : Blk (w.alloc (.cells C.toArray 58)).drew w.heap.size 58 C.toArray := (Blk.new w _ _).drew
  have g0 : Got w (w.alloc (.cells C.toArray 58)).drew [] [] := Got.start ((Below.refl _ w).alloc (Nat.le_refl _) _).drew
  refine Effects.cons_ fun _ hQ1 => ?_
  go_wp2_with fail
  refine (commit_any _ (Sh.rep_below R0.out g0.1) (by have h1 := HLL.out; rw [joinB_length] at h1; have h2 := joinP_mem (l := [tCommit.enc x0, x1, x2, truthB x3, x4]) (x := tCommit.enc x0) (by simp); omega)).mono ?_
  rintro e w1 ⟨v1, rfl, f1⟩
  have g1 := g0.step f1
  have hb1 := hb0.below f1.2 hb0.lt
  clear f1
  go_wp2_with fail
  refine hQ1 _ _ hb1 (Effects.cons_ fun _ hQ2 => ?_)
  clear hQ1 hb0 g0
  go_wp2_with fail
  refine (digest_any _ _ l1).mono ?_
  rintro e w2 ⟨v2, rfl, f2⟩
  have g2 := g1.step f2
  have hb2 := hb1.below f2.2 hb1.lt
  clear f2
  go_wp2_with fail
  refine hQ2 _ _ hb2 (Effects.cons_ fun _ hQ3 => ?_)
  clear hQ2 hb1 g1
  have g3 := g2.old R2.out
  clear g2
  go_wp2_with fail
  refine (truth_any _ _).mono ?_
  rintro e w3 ⟨v4, rfl, f3⟩
  have g4 := g3.step f3
  have hb3 := hb2.below f3.2 hb2.lt
  clear f3
  go_wp2_with fail
  refine hQ3 _ _ hb3 (Effects.nil_ fun _ hQ4 => ?_)
  clear hQ3 hb2 g3
  have g5 := g4.old R4.out
  clear g4
  have hcs : ∀ v ∈ [v1, v2, y2, v4, y4], v.cells = #[v] := fun v hv => by
    obtain ⟨i, hi, rfl⟩ := List.getElem_of_mem hv
    obtain ⟨y, _, hr⟩ := g5.2.get i hi
    obtain ⟨A, c, e⟩ := hr.form
    have e' : [v1, v2, y2, v4, y4][i] = .slice A y.length c := e
    rw [e']; rfl
  refine wpList_rows rfl 5 _ rfl [v1, v2, y2, v4, y4] rfl (by decide) (by decide) hcs (by simp [Act.eval]) ?_
  have hr : Bsr (w3.alloc (.cells [v1, v2, y2, v4, y4].toArray 50)) (fun b => b < w3.heap.size + 1) (.slice (some ⟨w3.heap.size, 0, none⟩) 5 5) [tCommit.enc x0, x1, x2, truthB x3, x4] := g5.row (by simp [maxLen]) 50
  have hj := join_any _ hr (by have := HLL.out; omega) (fun b hb => by simpa using hb)
  have hbb : Below w.heap.size w (w3.alloc (.cells [v1, v2, y2, v4, y4].toArray 50)) := g5.1.alloc g5.1.size _
  have HJ := Lib.hid hj
  have HBB := Lib.hid hbb
  clear hj hbb hr g5 hcs
  go_wp2_with fail
  refine HJ.out.mono ?_
  rintro e w4 ⟨v6, rfl, f4⟩
  go_wp2_with fail
  go_ret
  exact ⟨v6, rfl, f4.1.sub fun b hb _ => ⟨Nat.le_trans HBB.out.size hb.1, hb.2⟩, HBB.out.trans (f4.2.mono HBB.out.size)⟩

end Go.Proofs.YtjjgmkfkmckkoabGreatDoor

/- Codec: list[Fact]. -/
namespace Go.Proofs.YtjjgmkfkmckkoabGreatDoor
open Go.RowKit Go.Maps
attribute [-simp] Tryz.isAgg24 Tryz.typeInfo24 Tryz.isAgg58 Tryz.typeInfo58

set_option maxHeartbeats 2000000 in
set_option maxRecDepth 100000 in
theorem listFact_any (w : World) {S : Nat → Prop} {v : Value} {l : List (tFact).El} (h : (Sh.list tFact).rep w S l [v]) (hl : ((Sh.list tFact).enc l).length ≤ 1099511627776) :
    Calls Tryz.prog 45 #[v, .func (Fn.func 13) #[] #[]] w fun e w' => ∃ v', e = .returned v' ∧ Fresh w w' v' ((Sh.list tFact).enc l) := by
  obtain ⟨A, cap, rfl, hlen, hat⟩ := list_at h
  have H := Lib.hid h; clear h
  have hl' : (joinB (l.map (tFact).enc)).length ≤ 1099511627776 := hl
  have hcnt := joinP_count (l.map (tFact).enc)
  rw [joinB_length] at hl'
  rw [List.length_map] at hcnt
  have HLL := Lib.hid hl
  clear hl hat
  go_enter Tryz.func45, Tryz.ntmps45
  go_wp2_with fail
  go_loopw [5, 10] (fun a i wr => ∃ k : Nat, k ≤ l.length ∧ i = .int .i64 k ∧ Bss wr (fun b => w.heap.size ≤ b) (fun b => w.heap.size ≤ b) a ((l.take k).map (tFact).enc) ∧ Below w.heap.size w wr) (fun _ i _ => l.length - (intOf i).toNat)
  case atStart => exact ⟨0, Nat.zero_le _, rfl, Bss.nil_ _ _ _, Below.refl _ _⟩
  case round =>
    obtain ⟨k, hk, rfl, hB, hbl⟩ := hrel
    by_cases hlt : k < l.length
    · obtain ⟨R, hR⟩ : ∃ R, R = (l.take k).map (tFact).enc := ⟨_, rfl⟩
      rw [← hR] at hB
      have hRl : R.length = k := by rw [hR, List.length_map, List.length_take]; omega
      have hnext : (l.take (k + 1)).map (tFact).enc = R ++ [(tFact).enc l[k]] := by rw [List.take_succ_eq_append_getElem hlt, List.map_append, ← hR]; rfl
      obtain ⟨Aa, ca, rfl⟩ := hB.form
      obtain ⟨_, _, e, _, hat⟩ := list_at (Sh.rep_below H.out hbl)
      injection e with e1 e2 e3
      subst e1 e3
      obtain ⟨b, off, c, rfl, hca, hr, hcl, _, _⟩ := hat k hlt
      obtain ⟨x, hx⟩ : ∃ x, x = l[k] := ⟨_, rfl⟩
      rw [← hx] at hr hnext
      have hsm2 : ((tFact).enc x).length ≤ 1099511627776 := by
        have h1 := joinP_mem (List.mem_map.2 ⟨l[k], List.getElem_mem hlt, rfl⟩ : (tFact).enc l[k] ∈ l.map (tFact).enc)
        rw [hx]; omega
      have hinfo : (Tryz.prog.info? 58).map (·.size) = some c.length := by rw [hcl]; kernel_rfl
      have HC1 := Lib.hid (Sh.rep_one _ _ _ hr)
      have HCA := Lib.hid (show wr.rangeAt b (off + k * 73) c from hca)
      have HI := Lib.hid hinfo
      have HCL := Lib.hid hcl
      have HREP := Lib.hid hr
      have HSM := Lib.hid hsm2
      clear hinfo hr hsm2
      have hown : ∀ k, (Value.slice Aa R.length ca).ownBlock = some k → k < wr.heap.size := fun k hk => by obtain ⟨vs, ho, _⟩ := hB; exact own_lt ho hk
      have HB := Lib.hid hB
      have HN := Lib.hid hnext
      have HRL := Lib.hid hRl
      have HOWN := Lib.hid hown
      clear hB hca hcl hat hx hR hnext hRl hown
      go_wp2_with (first | (refine wpList_load_mid rfl 58 _ rfl b (off + k * 73) rfl c _ HCA.out Tryz.underlying58 rfl HI.out ?_) | (refine wpList_store_blk (cs0 := [.slice none 0 0] ++ ([.int .i64 0, .int .i64 0, .int .i64 0] ++ List.replicate 32 (.int .u8 0) ++ [.slice none 0 0, .slice none 0 0]) ++ List.replicate 32 (.int .u8 0) ++ [.slice none 0 0, .bool false, .slice none 0 0]) (cs := c) rfl 58 _ _ rfl (Blk.new wr _ _) rfl rfl (by rw [HCL.out]; rfl) HI.out HC1.out ?_; intro w4 hb4 hc4; have HB4 := Lib.hid hb4; have HC4 := Lib.hid hc4; clear hb4 hc4) | (refine wpList_load_blk' rfl 58 _ rfl HB4.out rfl Tryz.underlying58 rfl HI.out ?_))
      have hbw4 : Below wr.heap.size wr w4 := ((Below.refl _ wr).alloc (Nat.le_refl _) _).trans (HC4.out.below (by simp) fun b hb => Nat.le_of_eq hb.symm)
      have hr := Sh.rep_below HREP.out hbw4
      refine (fact_any _ hr HSM.out).mono ?_
      rintro e w1 ⟨v1, rfl, f4⟩
      have f1 : Fresh wr w1 v1 _ := ⟨f4.1.sub fun b hb _ => ⟨Nat.le_trans hbw4.size hb.1, hb.2⟩, hbw4.trans (f4.2.mono hbw4.size)⟩
      clear f4 hr
      have hb1 := hbl.trans (f1.2.mono hbl.size)
      obtain ⟨y, hy⟩ : ∃ y, y = (tFact).enc x := ⟨_, rfl⟩
      have f1 : Fresh wr w1 v1 y := hy ▸ f1
      rw [← hy] at HN
      obtain ⟨A1, c1, rfl⟩ := f1.1.form
      obtain ⟨vs, ho, hS, hr⟩ := HB.out.below f1.2
      have hsz1 := f1.2.size
      have hal : Below w1.heap.size w1 (w1.alloc (.cells #[.slice A1 y.length c1] 50)) := (Below.refl _ w1).alloc (Nat.le_refl _) _
      have HAL := Lib.hid hal
      have HO := Lib.hid (show Own (w1.alloc (.cells #[.slice A1 y.length c1] 50)) _ _ _ _ _ from own_keep ho fun k hk => hal.block k (own_lt ho hk))
      have HS := Lib.hid hS
      have HR := Lib.hid (fun i x u h1 h2 => (hr i x u h1 h2).below hal)
      have HU := Lib.hid ((f1.1.1.below hal).sub (T := fun b => w.heap.size ≤ b ∧ (Value.slice Aa R.length ca).ownBlock ≠ some b) fun b hb _ => ⟨Nat.le_trans hbl.size hb.1, fun e => by have := HOWN.out b e; omega⟩)
      have HS2 := Lib.hid (Cs.of_new w1 50 (size := 1) 1 (cs := [.slice A1 y.length c1]) rfl (by simp only [maxLen]; decide))
      have H63 := Lib.hid (show R.length + 1 ≤ maxLen ∧ (R.length + 1) * 24 ≤ 140737488355328 from by have := HRL.out; refine ⟨by simp only [maxLen]; omega, by omega⟩)
      clear ho hS hr hal f1 hy
      go_wp2_with (at_builtin; refine wpList_app _ rfl _ _ _ rfl Tryz.underlying103 info_row rfl (by decide) HO.out rfl HS2.out rfl (by simp [Value.oneCell']) H63.out.1 H63.out.2 ?_; intro v3 w3 ho3 hg3 hnil3 hat3; clear hnil3; have HO3 := Lib.hid ho3; clear ho3; have HG3 := Lib.hid hg3; clear hg3; have HAT3 := Lib.hid hat3; clear hat3)
      have hpush := Bss.push HO.out HS.out HR.out HU.out HO3.out HG3.out HAT3.out (by have := hb1.size; have := HAL.out.size; omega)
      rw [← HN.out] at hpush
      refine ⟨⟨k + 1, by omega, by push_cast; rfl, hpush, (hb1.trans (HAL.out.mono hb1.size)).trans (HG3.out.below (Nat.le_trans hb1.size HAL.out.size) fun b h => HS.out b h)⟩, ?_⟩
      simp only [intOf]
      omega
    · have hk' : k = l.length := by omega
      rw [hk', List.take_length] at hB
      have hsm : ∀ x ∈ l.map (tFact).enc, x.length ≤ 140737488355328 := fun x hx => by have := joinP_mem hx; omega
      have hj := join_any _ ((hB.read hsm).lt_ (T := fun b => w.heap.size ≤ b) fun b h => h.elim id id) (by rw [joinB_length]; omega) fun b h => h.2
      have HJ := Lib.hid hj
      obtain ⟨R, hR⟩ : ∃ R, R = l.map (tFact).enc := ⟨_, rfl⟩
      have HR := Lib.hid hR
      rw [← hR] at hB HJ
      obtain ⟨Aa, ca, rfl⟩ := hB.form
      clear hj hB hR hsm
      go_wp2_with fail
      refine HJ.out.mono ?_
      rintro e w1 ⟨v1, rfl, f1⟩
      go_wp2_with fail
      go_ret
      refine ⟨v1, rfl, ?_, hbl.trans (f1.2.mono hbl.size)⟩
      have := f1.1.sub (T := fun b => w.heap.size ≤ b ∧ Th w1 b) fun b hb _ => ⟨Nat.le_trans hbl.size hb.1, hb.2⟩
      rw [HR.out] at this
      exact this

end Go.Proofs.YtjjgmkfkmckkoabGreatDoor

/- Codec: a transaction. -/
namespace Go.Proofs.YtjjgmkfkmckkoabGreatDoor
open Go.RowKit Go.Maps
attribute [-simp] Tryz.isAgg24 Tryz.typeInfo24

set_option maxHeartbeats 4000000 in
set_option maxRecDepth 100000 in
theorem tx_any (w : World) {S : Nat → Prop} {x : tTx.El} {cs : List Value} (h : tTx.rep w S x cs) (hl : (tTx.enc x).length ≤ 1099511627776) :
    Calls Tryz.prog 16 #[.agg cs.toArray] w fun e w' => ∃ v', e = .returned v' ∧ Fresh w w' v' (tTx.enc x) := by
  obtain ⟨x0, x1, x2, x3, x4, x5, x6, x7, x8, x9, _⟩ := x
  obtain ⟨c0, _, rfl, ⟨rfl, _⟩, c1, _, rfl, ⟨rfl, q1⟩, c2, _, rfl, ⟨rfl, q2⟩, c3, _, rfl, ⟨rfl, q3⟩, c4, _, rfl, ⟨rfl, q4⟩, c5, _, rfl, ⟨rfl, _⟩, c6, _, rfl, ⟨rfl, _⟩, c7, _, rfl, ⟨rfl, l7⟩, c8, _, rfl, ⟨rfl, _⟩, c9, _, rfl, r9, rfl⟩ := h
  obtain ⟨y9, rfl⟩ : ∃ y, c9 = [y] := by obtain ⟨v, _, e, _⟩ := r9; exact ⟨v, e⟩
  have R9 := Lib.hid r9; clear r9
  have Q1 := Lib.hid q1; clear q1
  have Q2 := Lib.hid q2; clear q2
  have Q3 := Lib.hid q3; clear q3
  have Q4 := Lib.hid q4; clear q4
  simp only [nk_t, nk_f]
  obtain ⟨C, hC⟩ : ∃ C, C = [Value.int .i64 x0] ++ ([Value.int .u64 x1] ++ ([Value.int .u64 x2] ++ ([Value.int .u64 x3] ++ ([Value.int .u64 x4] ++ ([Value.int .i64 x5] ++ ([Value.int .i64 x6] ++ (u8s x7 ++ ([Value.int .i64 x8] ++ ([y9] ++ ([])))))))))) := ⟨_, rfl⟩
  rw [← hC]
  have hf : ∀ w', Blk w' w.heap.size 27 C.toArray → w'.cell? ⟨w.heap.size, 0, none⟩ = some (.int .i64 x0) ∧ w'.cell? ⟨w.heap.size, 1, none⟩ = some (.int .u64 x1) ∧ w'.cell? ⟨w.heap.size, 2, none⟩ = some (.int .u64 x2) ∧ w'.cell? ⟨w.heap.size, 3, none⟩ = some (.int .u64 x3) ∧ w'.cell? ⟨w.heap.size, 4, none⟩ = some (.int .u64 x4) ∧ w'.cell? ⟨w.heap.size, 5, none⟩ = some (.int .i64 x5) ∧ w'.cell? ⟨w.heap.size, 6, none⟩ = some (.int .i64 x6) ∧ w'.rangeAt w.heap.size 7 (u8s x7) ∧ w'.cell? ⟨w.heap.size, 39, none⟩ = some (.int .i64 x8) ∧ w'.cell? ⟨w.heap.size, 40, none⟩ = some y9 := fun w' hb => by
    have := hb.lies [[Value.int .i64 x0], [Value.int .u64 x1], [Value.int .u64 x2], [Value.int .u64 x3], [Value.int .u64 x4], [Value.int .i64 x5], [Value.int .i64 x6], u8s x7, [Value.int .i64 x8], [y9]] [] (by rw [hC]; simp)
    simp only [Lies, u8s_length, l7, List.length_cons, List.length_nil] at this
    obtain ⟨s0, s1, s2, s3, s4, s5, s6, s7, s8, s9, _⟩ := this
    exact ⟨Lies.one s0, Lies.one s1, Lies.one s2, Lies.one s3, Lies.one s4, Lies.one s5, Lies.one s6, s7, Lies.one s8, Lies.one s9⟩
  have HF := Lib.hid hf
  clear hf hC
  have hrows : tTx.enc (x0, x1, x2, x3, x4, x5, x6, x7, x8, x9, ()) = joinB [numB x0, numB x1, numB x2, numB x3, numB x4, numB x5, numB x6, x7, numB x8, (Sh.list tFact).enc x9] := rfl
  have hl' : (joinB [numB x0, numB x1, numB x2, numB x3, numB x4, numB x5, numB x6, x7, numB x8, (Sh.list tFact).enc x9]).length ≤ 1099511627776 := hl
  have HLL := Lib.hid hl'
  clear hl hl'
  go_enter Tryz.func16, Tryz.ntmps16
  go_wp2_with fail
  have hsz : w.heap.size < w.heap.size + 1 := by omega
  refine wp_region_hoist [0, 1, 3, 4, 6, 7, 9, 10, 12, 13, 15, 16, 18, 19, 21, 22, 24, 25, 27, 28] [2, 5, 8, 11, 14, 17, 20, 23, 26, 29] [30, 31, 32] (fun w' => Blk w' w.heap.size 27 C.toArray)
    (by kernel_rfl) (by kernel_rfl) (by kernel_rfl) (by kernel_rfl) (by kernel_rfl) (by kernel_rfl) (Blk.new w _ _).drew ?_
  (refine HoistK.yes (by rfl) (by kernel_rfl) ⟨?_, fun w' hSw => ?_, ?_⟩; rotate_left; (· go_simp; try with_reducible rfl); simp only [Act.put, List.setIfInBounds_toArray, List.getElem_toArray, List.getElem_cons_zero, List.set_cons_succ, List.set_cons_zero])
  (refine HoistK.yes (by rfl) (by kernel_rfl) ⟨?_, fun w' hSw => ?_, ?_⟩; rotate_left; (· obtain ⟨s0, s1, s2, s3, s4, s5, s6, s7, s8, s9⟩ := HF.out _ hSw; go_simp; try with_reducible rfl); simp only [Act.put, List.setIfInBounds_toArray, List.getElem_toArray, List.getElem_cons_succ, List.getElem_cons_zero, List.set_cons_succ, List.set_cons_zero])
  (refine HoistK.yes (by rfl) (by kernel_rfl) ⟨?_, fun w' hSw => ?_, ?_⟩; rotate_left; (· go_simp; try with_reducible rfl); simp only [Act.put, List.setIfInBounds_toArray, List.getElem_toArray, List.getElem_cons_succ, List.getElem_cons_zero, List.set_cons_succ, List.set_cons_zero])
  (refine HoistK.yes (by rfl) (by kernel_rfl) ⟨?_, fun w' hSw => ?_, ?_⟩; rotate_left; (· obtain ⟨s0, s1, s2, s3, s4, s5, s6, s7, s8, s9⟩ := HF.out _ hSw; go_simp; try with_reducible rfl); simp only [Act.put, List.setIfInBounds_toArray, List.getElem_toArray, List.getElem_cons_succ, List.getElem_cons_zero, List.set_cons_succ, List.set_cons_zero])
  (refine HoistK.yes (by rfl) (by kernel_rfl) ⟨?_, fun w' hSw => ?_, ?_⟩; rotate_left; (· go_simp; try with_reducible rfl); simp only [Act.put, List.setIfInBounds_toArray, List.getElem_toArray, List.getElem_cons_succ, List.getElem_cons_zero, List.set_cons_succ, List.set_cons_zero])
  (refine HoistK.yes (by rfl) (by kernel_rfl) ⟨?_, fun w' hSw => ?_, ?_⟩; rotate_left; (· obtain ⟨s0, s1, s2, s3, s4, s5, s6, s7, s8, s9⟩ := HF.out _ hSw; go_simp; try with_reducible rfl); simp only [Act.put, List.setIfInBounds_toArray, List.getElem_toArray, List.getElem_cons_succ, List.getElem_cons_zero, List.set_cons_succ, List.set_cons_zero])
  (refine HoistK.yes (by rfl) (by kernel_rfl) ⟨?_, fun w' hSw => ?_, ?_⟩; rotate_left; (· go_simp; try with_reducible rfl); simp only [Act.put, List.setIfInBounds_toArray, List.getElem_toArray, List.getElem_cons_succ, List.getElem_cons_zero, List.set_cons_succ, List.set_cons_zero])
  (refine HoistK.yes (by rfl) (by kernel_rfl) ⟨?_, fun w' hSw => ?_, ?_⟩; rotate_left; (· obtain ⟨s0, s1, s2, s3, s4, s5, s6, s7, s8, s9⟩ := HF.out _ hSw; go_simp; try with_reducible rfl); simp only [Act.put, List.setIfInBounds_toArray, List.getElem_toArray, List.getElem_cons_succ, List.getElem_cons_zero, List.set_cons_succ, List.set_cons_zero])
  (refine HoistK.yes (by rfl) (by kernel_rfl) ⟨?_, fun w' hSw => ?_, ?_⟩; rotate_left; (· go_simp; try with_reducible rfl); simp only [Act.put, List.setIfInBounds_toArray, List.getElem_toArray, List.getElem_cons_succ, List.getElem_cons_zero, List.set_cons_succ, List.set_cons_zero])
  (refine HoistK.yes (by rfl) (by kernel_rfl) ⟨?_, fun w' hSw => ?_, ?_⟩; rotate_left; (· obtain ⟨s0, s1, s2, s3, s4, s5, s6, s7, s8, s9⟩ := HF.out _ hSw; go_simp; try with_reducible rfl); simp only [Act.put, List.setIfInBounds_toArray, List.getElem_toArray, List.getElem_cons_succ, List.getElem_cons_zero, List.set_cons_succ, List.set_cons_zero])
  (refine HoistK.yes (by rfl) (by kernel_rfl) ⟨?_, fun w' hSw => ?_, ?_⟩; rotate_left; (· go_simp; try with_reducible rfl); simp only [Act.put, List.setIfInBounds_toArray, List.getElem_toArray, List.getElem_cons_succ, List.getElem_cons_zero, List.set_cons_succ, List.set_cons_zero])
  (refine HoistK.yes (by rfl) (by kernel_rfl) ⟨?_, fun w' hSw => ?_, ?_⟩; rotate_left; (· obtain ⟨s0, s1, s2, s3, s4, s5, s6, s7, s8, s9⟩ := HF.out _ hSw; go_simp; try with_reducible rfl); simp only [Act.put, List.setIfInBounds_toArray, List.getElem_toArray, List.getElem_cons_succ, List.getElem_cons_zero, List.set_cons_succ, List.set_cons_zero])
  (refine HoistK.yes (by rfl) (by kernel_rfl) ⟨?_, fun w' hSw => ?_, ?_⟩; rotate_left; (· go_simp; try with_reducible rfl); simp only [Act.put, List.setIfInBounds_toArray, List.getElem_toArray, List.getElem_cons_succ, List.getElem_cons_zero, List.set_cons_succ, List.set_cons_zero])
  (refine HoistK.yes (by rfl) (by kernel_rfl) ⟨?_, fun w' hSw => ?_, ?_⟩; rotate_left; (· obtain ⟨s0, s1, s2, s3, s4, s5, s6, s7, s8, s9⟩ := HF.out _ hSw; go_simp; try with_reducible rfl); simp only [Act.put, List.setIfInBounds_toArray, List.getElem_toArray, List.getElem_cons_succ, List.getElem_cons_zero, List.set_cons_succ, List.set_cons_zero])
  (refine HoistK.yes (by rfl) (by kernel_rfl) ⟨?_, fun w' hSw => ?_, ?_⟩; rotate_left; (· go_simp; try with_reducible rfl); simp only [Act.put, List.setIfInBounds_toArray, List.getElem_toArray, List.getElem_cons_succ, List.getElem_cons_zero, List.set_cons_succ, List.set_cons_zero])
  (refine HoistK.load (by rfl) (by kernel_rfl) 24 _ rfl w.heap.size 7 rfl (u8s x7) _ (fun w' hw => (HF.out w' hw).2.2.2.2.2.2.2.1) Tryz.underlying24 rfl (by rw [u8s_length, l7]; kernel_rfl) ?_; simp only [Act.put, List.setIfInBounds_toArray, List.getElem_toArray, List.getElem_cons_succ, List.getElem_cons_zero, List.set_cons_succ, List.set_cons_zero])
  (refine HoistK.yes (by rfl) (by kernel_rfl) ⟨?_, fun w' hSw => ?_, ?_⟩; rotate_left; (· go_simp; try with_reducible rfl); simp only [Act.put, List.setIfInBounds_toArray, List.getElem_toArray, List.getElem_cons_succ, List.getElem_cons_zero, List.set_cons_succ, List.set_cons_zero])
  (refine HoistK.yes (by rfl) (by kernel_rfl) ⟨?_, fun w' hSw => ?_, ?_⟩; rotate_left; (· obtain ⟨s0, s1, s2, s3, s4, s5, s6, s7, s8, s9⟩ := HF.out _ hSw; go_simp; try with_reducible rfl); simp only [Act.put, List.setIfInBounds_toArray, List.getElem_toArray, List.getElem_cons_succ, List.getElem_cons_zero, List.set_cons_succ, List.set_cons_zero])
  (refine HoistK.yes (by rfl) (by kernel_rfl) ⟨?_, fun w' hSw => ?_, ?_⟩; rotate_left; (· go_simp; try with_reducible rfl); simp only [Act.put, List.setIfInBounds_toArray, List.getElem_toArray, List.getElem_cons_succ, List.getElem_cons_zero, List.set_cons_succ, List.set_cons_zero])
  (refine HoistK.yes (by rfl) (by kernel_rfl) ⟨?_, fun w' hSw => ?_, ?_⟩; rotate_left; (· obtain ⟨s0, s1, s2, s3, s4, s5, s6, s7, s8, s9⟩ := HF.out _ hSw; go_simp; try with_reducible rfl); simp only [Act.put, List.setIfInBounds_toArray, List.getElem_toArray, List.getElem_cons_succ, List.getElem_cons_zero, List.set_cons_succ, List.set_cons_zero])
  refine HoistK.nil_ ?_
  simp only [opsAt, List.filterMap_cons, List.filterMap_nil, List.getElem?_toArray, List.getElem?_cons_succ, List.getElem?_cons_zero]
  have hb0 : Blk (w.alloc (.cells C.toArray 27)).drew w.heap.size 27 C.toArray := (Blk.new w _ _).drew
  have g0 : Got w (w.alloc (.cells C.toArray 27)).drew [] [] := Got.start ((Below.refl _ w).alloc (Nat.le_refl _) _).drew
  refine Effects.cons_ fun _ hQ1 => ?_
  go_wp2_with fail
  refine (numInt_any _ _).mono ?_
  rintro e w1 ⟨v1, rfl, f1⟩
  have g1 := g0.step f1
  have hb1 := hb0.below f1.2 hb0.lt
  clear f1
  go_wp2_with fail
  refine hQ1 _ _ hb1 (Effects.cons_ fun _ hQ2 => ?_)
  clear hQ1 hb0 g0
  go_wp2_with fail
  refine (numU64_any _ _ Q1.out).mono ?_
  rintro e w2 ⟨v2, rfl, f2⟩
  have g2 := g1.step f2
  have hb2 := hb1.below f2.2 hb1.lt
  clear f2
  go_wp2_with fail
  refine hQ2 _ _ hb2 (Effects.cons_ fun _ hQ3 => ?_)
  clear hQ2 hb1 g1
  go_wp2_with fail
  refine (numU64_any _ _ Q2.out).mono ?_
  rintro e w3 ⟨v3, rfl, f3⟩
  have g3 := g2.step f3
  have hb3 := hb2.below f3.2 hb2.lt
  clear f3
  go_wp2_with fail
  refine hQ3 _ _ hb3 (Effects.cons_ fun _ hQ4 => ?_)
  clear hQ3 hb2 g2
  go_wp2_with fail
  refine (numU64_any _ _ Q3.out).mono ?_
  rintro e w4 ⟨v4, rfl, f4⟩
  have g4 := g3.step f4
  have hb4 := hb3.below f4.2 hb3.lt
  clear f4
  go_wp2_with fail
  refine hQ4 _ _ hb4 (Effects.cons_ fun _ hQ5 => ?_)
  clear hQ4 hb3 g3
  go_wp2_with fail
  refine (numU64_any _ _ Q4.out).mono ?_
  rintro e w5 ⟨v5, rfl, f5⟩
  have g5 := g4.step f5
  have hb5 := hb4.below f5.2 hb4.lt
  clear f5
  go_wp2_with fail
  refine hQ5 _ _ hb5 (Effects.cons_ fun _ hQ6 => ?_)
  clear hQ5 hb4 g4
  go_wp2_with fail
  refine (numInt_any _ _).mono ?_
  rintro e w6 ⟨v6, rfl, f6⟩
  have g6 := g5.step f6
  have hb6 := hb5.below f6.2 hb5.lt
  clear f6
  go_wp2_with fail
  refine hQ6 _ _ hb6 (Effects.cons_ fun _ hQ7 => ?_)
  clear hQ6 hb5 g5
  go_wp2_with fail
  refine (numInt64_any _ _).mono ?_
  rintro e w7 ⟨v7, rfl, f7⟩
  have g7 := g6.step f7
  have hb7 := hb6.below f7.2 hb6.lt
  clear f7
  go_wp2_with fail
  refine hQ7 _ _ hb7 (Effects.cons_ fun _ hQ8 => ?_)
  clear hQ7 hb6 g6
  go_wp2_with fail
  refine (digest_any _ _ l7).mono ?_
  rintro e w8 ⟨v8, rfl, f8⟩
  have g8 := g7.step f8
  have hb8 := hb7.below f8.2 hb7.lt
  clear f8
  go_wp2_with fail
  refine hQ8 _ _ hb8 (Effects.cons_ fun _ hQ9 => ?_)
  clear hQ8 hb7 g7
  go_wp2_with fail
  refine (numInt_any _ _).mono ?_
  rintro e w9 ⟨v9, rfl, f9⟩
  have g9 := g8.step f9
  have hb9 := hb8.below f9.2 hb8.lt
  clear f9
  go_wp2_with fail
  refine hQ9 _ _ hb9 (Effects.cons_ fun _ hQ10 => ?_)
  clear hQ9 hb8 g8
  go_wp2_with fail
  refine (listFact_any _ (Sh.rep_below R9.out g9.1) (by have h1 := HLL.out; rw [joinB_length] at h1; have h2 := joinP_mem (l := [numB x0, numB x1, numB x2, numB x3, numB x4, numB x5, numB x6, x7, numB x8, (Sh.list tFact).enc x9]) (x := (Sh.list tFact).enc x9) (by simp); omega)).mono ?_
  rintro e w10 ⟨v10, rfl, f10⟩
  have g10 := g9.step f10
  have hb10 := hb9.below f10.2 hb9.lt
  clear f10
  go_wp2_with fail
  refine hQ10 _ _ hb10 (Effects.nil_ fun _ hQ11 => ?_)
  clear hQ10 hb9 g9
  have hcs : ∀ v ∈ [v1, v2, v3, v4, v5, v6, v7, v8, v9, v10], v.cells = #[v] := fun v hv => by
    obtain ⟨i, hi, rfl⟩ := List.getElem_of_mem hv
    obtain ⟨y, _, hr⟩ := g10.2.get i hi
    obtain ⟨A, c, e⟩ := hr.form
    have e' : [v1, v2, v3, v4, v5, v6, v7, v8, v9, v10][i] = .slice A y.length c := e
    rw [e']; rfl
  refine wpList_rows rfl 10 _ rfl [v1, v2, v3, v4, v5, v6, v7, v8, v9, v10] rfl (by decide) (by decide) hcs (by simp [Act.eval]) ?_
  have hr : Bsr (w10.alloc (.cells [v1, v2, v3, v4, v5, v6, v7, v8, v9, v10].toArray 50)) (fun b => b < w10.heap.size + 1) (.slice (some ⟨w10.heap.size, 0, none⟩) 10 10) [numB x0, numB x1, numB x2, numB x3, numB x4, numB x5, numB x6, x7, numB x8, (Sh.list tFact).enc x9] := g10.row (by simp [maxLen]) 50
  have hj := join_any _ hr (by have := HLL.out; omega) (fun b hb => by simpa using hb)
  have hbb : Below w.heap.size w (w10.alloc (.cells [v1, v2, v3, v4, v5, v6, v7, v8, v9, v10].toArray 50)) := g10.1.alloc g10.1.size _
  have HJ := Lib.hid hj
  have HBB := Lib.hid hbb
  clear hj hbb hr g10 hcs
  go_wp2_with fail
  refine HJ.out.mono ?_
  rintro e w11 ⟨v11, rfl, f11⟩
  go_wp2_with fail
  go_ret
  exact ⟨v11, rfl, f11.1.sub fun b hb _ => ⟨Nat.le_trans HBB.out.size hb.1, hb.2⟩, HBB.out.trans (f11.2.mono HBB.out.size)⟩

end Go.Proofs.YtjjgmkfkmckkoabGreatDoor

/- Codec: a header read. -/
namespace Go.Proofs.YtjjgmkfkmckkoabGreatDoor
open Go.RowKit Go.Maps
attribute [-simp] Tryz.isAgg24 Tryz.typeInfo24 Tryz.isAgg29 Tryz.typeInfo29

theorem info_readHeader : (Tryz.prog.info? 29).map (fun i => (i.zero.map (fun z => z.cells.size))) = some (some 101) := by kernel_rfl
theorem size_readHeader : (Tryz.prog.info? 29).map (·.size) = some 101 := by kernel_rfl
theorem places_readHeader : ((match Tryz.prog.underlying 29 with | some (.struct fields) => fields.toList.mapM (fun f => (Tryz.prog.info? f.type).map fun i => (f.offset, i.size)) | _ => none)) = some [(0, 1), (1, 1), (2, 1), (3, 1), (4, 32), (36, 32), (68, 32), (100, 1)] := by kernel_rfl
set_option maxHeartbeats 4000000 in
set_option maxRecDepth 100000 in
theorem readHeader_any (w : World) {S : Nat → Prop} {v sent : Value} {bs : List UInt8} (h : Bs w S v bs) (hlen : bs.length ≤ 262144) (hg : Gl w sent) :
    Calls Tryz.prog 91 #[v] w (ReadOut (.tup (.cons i64 (.cons i64 (.cons i64 (.cons i64 (.cons .dig (.cons .dig (.cons .dig (.cons i64 .nil))))))))) w sent bs) := by
  have hal := (Below.refl w.heap.size w).alloc (Nat.le_refl _) (.cells (([.int .i64 0, .int .i64 0, .int .i64 0, .int .i64 0] ++ List.replicate 96 (.int .u8 0) ++ [.int .i64 0] : List Value)).toArray 29)
  have HS := Lib.hid (psplit_any _ (h.below hal) (by omega) (hg.below hal) 8 (by omega) ⟨#[97, 32, 104, 101, 97, 100, 101, 114]⟩)
  have HN := Lib.hid (Blk.new w 29 (([.int .i64 0, .int .i64 0, .int .i64 0, .int .i64 0] ++ List.replicate 96 (.int .u8 0) ++ [.int .i64 0] : List Value)).toArray)
  have HAL := Lib.hid hal
  obtain ⟨A, cap, rfl⟩ := h.form
  clear h hg hal
  go_enter Tryz.func91, Tryz.ntmps91
  go_wp2_with fail
  refine HS.out.mono ?_
  rintro e w1 ⟨g, rows, bad, rfl, hgw, hb1, hp, hn, hrl, hs⟩
  obtain ⟨r0, r1, r2, r3, r4, r5, r6, r7, rfl⟩ : ∃ r0 r1 r2 r3 r4 r5 r6 r7, rows = [r0, r1, r2, r3, r4, r5, r6, r7] := by
    match rows, hn with
    | [r0, r1, r2, r3, r4, r5, r6, r7], _ => exact ⟨r0, r1, r2, r3, r4, r5, r6, r7, rfl⟩
  have HK := Lib.hid (HN.out.below hb1 (by simp))
  have hgw' : w.heap.size + 1 ≤ g := by simpa using hgw
  have hz1 : w.heap.size + 1 ≤ w1.heap.size := by simpa using hb1.size
  have HB1 := Lib.hid (HAL.out.trans (hb1.mono (by simp)))
  have HSS := Lib.hid hs
  have HRL := Lib.hid (show ∀ x ∈ [r0, r1, r2, r3, r4, r5, r6, r7], x.length ≤ 262144 from fun x hx => Nat.le_trans (hrl x hx) hlen)
  have hE : Pt w1 (fun b => b = g) (w.heap.size + 1) g sent [r0, r1, r2, r3, r4, r5, r6, r7] bad := by simpa using hp
  clear HS HN HAL hgw hb1 hs hn hp hrl hlen
  have hp0 := hE
  clear hE
  go_wp2_with fail
  refine (int_any _ hp0).mono ?_
  rintro e w2 ht
  obtain ⟨y0, b0, rfl, h10, hc0, hp1, ho0⟩ := ht.one (fun _ => rfl) rfl
  have hgl0 := hp0.lt
  have hz2 := Nat.le_trans hz1 hc0.size
  have HO0 := Lib.hid ho0
  have HC0 := Lib.hid hc0
  have H10 := Lib.hid h10
  clear ht ho0 hc0 h10 hp0
  go_wp2_with fail
  refine (int_any _ hp1).mono ?_
  rintro e w3 ht
  obtain ⟨y1, b1, rfl, h11, hc1, hp2, ho1⟩ := ht.one (fun _ => rfl) rfl
  have hgl1 := hp1.lt
  have hz3 := Nat.le_trans hz2 hc1.size
  have HO1 := Lib.hid ho1
  have HC1 := Lib.hid hc1
  have H11 := Lib.hid h11
  clear ht ho1 hc1 h11 hp1
  go_wp2_with fail
  refine (n_any _ hp2).mono ?_
  rintro e w4 ht
  obtain ⟨y2, b2, rfl, h12, hc2, hp3, ho2⟩ := ht.one (fun _ => rfl) rfl
  have hgl2 := hp2.lt
  have hz4 := Nat.le_trans hz3 hc2.size
  have HO2 := Lib.hid ho2
  have HC2 := Lib.hid hc2
  have H12 := Lib.hid h12
  clear ht ho2 hc2 h12 hp2
  go_wp2_with fail
  refine (n_any _ hp3).mono ?_
  rintro e w5 ht
  obtain ⟨y3, b3, rfl, h13, hc3, hp4, ho3⟩ := ht.one (fun _ => rfl) rfl
  have hgl3 := hp3.lt
  have hz5 := Nat.le_trans hz4 hc3.size
  have HO3 := Lib.hid ho3
  have HC3 := Lib.hid hc3
  have H13 := Lib.hid h13
  clear ht ho3 hc3 h13 hp3
  go_wp2_with fail
  refine (pdigest_any _ hp4).mono ?_
  rintro e w6 ht
  obtain ⟨c4, b4, rfl, h14, hl4, hc4, hp5, ho4⟩ := ht.agg (fun _ => rfl)
  have hl4 : c4.length = 32 := hl4
  have hgl4 := hp4.lt
  have hz6 := Nat.le_trans hz5 hc4.size
  have HO4 := Lib.hid ho4
  have HC4 := Lib.hid hc4
  have H14 := Lib.hid h14
  have HL4 := Lib.hid hl4
  clear hl4
  clear ht ho4 hc4 h14 hp4
  go_wp2_with fail
  refine (pdigest_any _ hp5).mono ?_
  rintro e w7 ht
  obtain ⟨c5, b5, rfl, h15, hl5, hc5, hp6, ho5⟩ := ht.agg (fun _ => rfl)
  have hl5 : c5.length = 32 := hl5
  have hgl5 := hp5.lt
  have hz7 := Nat.le_trans hz6 hc5.size
  have HO5 := Lib.hid ho5
  have HC5 := Lib.hid hc5
  have H15 := Lib.hid h15
  have HL5 := Lib.hid hl5
  clear hl5
  clear ht ho5 hc5 h15 hp5
  go_wp2_with fail
  refine (pdigest_any _ hp6).mono ?_
  rintro e w8 ht
  obtain ⟨c6, b6, rfl, h16, hl6, hc6, hp7, ho6⟩ := ht.agg (fun _ => rfl)
  have hl6 : c6.length = 32 := hl6
  have hgl6 := hp6.lt
  have hz8 := Nat.le_trans hz7 hc6.size
  have HO6 := Lib.hid ho6
  have HC6 := Lib.hid hc6
  have H16 := Lib.hid h16
  have HL6 := Lib.hid hl6
  clear hl6
  clear ht ho6 hc6 h16 hp6
  go_wp2_with fail
  refine (int_any _ hp7).mono ?_
  rintro e w9 ht
  obtain ⟨y7, b7, rfl, h17, hc7, hp8, ho7⟩ := ht.one (fun _ => rfl) rfl
  have hgl7 := hp7.lt
  have hz9 := Nat.le_trans hz8 hc7.size
  have HO7 := Lib.hid ho7
  have HC7 := Lib.hid hc7
  have H17 := Lib.hid h17
  clear ht ho7 hc7 h17 hp7
  have hbu := run_struct (P := Tryz.prog) (vs := [y0, y1, y2, y3, .agg c4.toArray, .agg c5.toArray, .agg c6.toArray, y7]) (cs := [[y0], [y1], [y2], [y3], c4, c5, c6, [y7]]) info_readHeader places_readHeader ⟨cells_one H10.out, cells_one H11.out, cells_one H12.out, cells_one H13.out, rfl, rfl, rfl, cells_one H17.out, trivial⟩ (by simp [PlaceOk, HL4.out, HL5.out, HL6.out]) (by simp [HL4.out, HL5.out, HL6.out]) #[(0, y0), (1, y1), (2, y2), (3, y3), (4, .agg c4.toArray), (5, .agg c5.toArray), (6, .agg c6.toArray), (7, y7)] rfl
  have hone : ∀ v ∈ [[y0], [y1], [y2], [y3], c4, c5, c6, [y7]].flatten, v.oneCell' = true := by
    intro v hv
    simp only [List.flatten_cons, List.flatten_nil, List.mem_append, List.mem_singleton, List.not_mem_nil, or_false] at hv
    rcases hv with rfl | rfl | rfl | rfl | hv | hv | hv | rfl
    · exact H10.out
    · exact H11.out
    · exact H12.out
    · exact H13.out
    · exact H14.out v hv
    · exact H15.out v hv
    · exact H16.out v hv
    · exact H17.out
  have HOUT := Lib.hid (show Fs.Out (.cons i64 (.cons i64 (.cons i64 (.cons i64 (.cons .dig (.cons .dig (.cons .dig (.cons i64 .nil)))))))) w9 (fun b => w.heap.size + 1 ≤ b) [r0, r1, r2, r3, r4, r5, r6, r7] [[y0], [y1], [y2], [y3], c4, c5, c6, [y7]].flatten bad b7 from by
    have := Fs.Out.step HO0.out (Fs.Out.step HO1.out (Fs.Out.step HO2.out (Fs.Out.step HO3.out (Fs.Out.step HO4.out (Fs.Out.step HO5.out (Fs.Out.step HO6.out (Fs.Out.step HO7.out (Fs.Out.nil_ w9 _ _) (Chg.refl _ _) hgl7 hz8) HC7.out hgl6 hz7) (HC6.out.trans HC7.out fun b h => .inl h) hgl5 hz6) ((HC5.out.trans HC6.out fun b h => .inl h).trans HC7.out fun b h => .inl h) hgl4 hz5) (((HC4.out.trans HC5.out fun b h => .inl h).trans HC6.out fun b h => .inl h).trans HC7.out fun b h => .inl h) hgl3 hz4) ((((HC3.out.trans HC4.out fun b h => .inl h).trans HC5.out fun b h => .inl h).trans HC6.out fun b h => .inl h).trans HC7.out fun b h => .inl h) hgl2 hz3) (((((HC2.out.trans HC3.out fun b h => .inl h).trans HC4.out fun b h => .inl h).trans HC5.out fun b h => .inl h).trans HC6.out fun b h => .inl h).trans HC7.out fun b h => .inl h) hgl1 hz2) ((((((HC1.out.trans HC2.out fun b h => .inl h).trans HC3.out fun b h => .inl h).trans HC4.out fun b h => .inl h).trans HC5.out fun b h => .inl h).trans HC6.out fun b h => .inl h).trans HC7.out fun b h => .inl h) hgl0 hz1
    simpa using this)
  have HCA := Lib.hid (show Chg (fun k => k = g) w1 w9 from (((((((HC0.out.trans HC1.out fun b h => .inl h).trans HC2.out fun b h => .inl h).trans HC3.out fun b h => .inl h).trans HC4.out fun b h => .inl h).trans HC5.out fun b h => .inl h).trans HC6.out fun b h => .inl h).trans HC7.out fun b h => .inl h))
  have hcl : [[y0], [y1], [y2], [y3], c4, c5, c6, [y7]].flatten.length = 101 := by simp [HL4.out, HL5.out, HL6.out]
  obtain ⟨C, hC⟩ : ∃ C, C = [[y0], [y1], [y2], [y3], c4, c5, c6, [y7]].flatten := ⟨_, rfl⟩
  rw [← hC] at hbu hone hcl HOUT
  have HBU := Lib.hid hbu
  have HONE := Lib.hid hone
  have HCL := Lib.hid hcl
  have HI := Lib.hid (show (Tryz.prog.info? 29).map (·.size) = some C.length from by rw [hcl]; exact size_readHeader)
  have HK2 := Lib.hid (HK.out.chg HCA.out (show ¬ w.heap.size = g from by omega))
  clear hbu hone hcl hC HK HO0 HC0 H10 HO1 HC1 H11 HO2 HC2 H12 HO3 HC3 H13 HO4 HC4 H14 HO5 HC5 H15 HO6 HC6 H16 HO7 HC7 H17 HL4 HL5 HL6
  have HP := Lib.hid hp8
  have hgX := hp8.lt
  clear hp8
  have hbu := HBU.out w9
  have HX := Lib.hid (HP.out.parts)
  go_wp2_with (first | (refine wpList_build_ rfl 29 _ rfl #[(0, y0), (1, y1), (2, y2), (3, y3), (4, .agg c4.toArray), (5, .agg c5.toArray), (6, .agg c6.toArray), (7, y7)] (by simp [Act.eval]) _ hbu ?_) | (refine wpList_store_blk (cs0 := ([.int .i64 0, .int .i64 0, .int .i64 0, .int .i64 0] ++ List.replicate 96 (.int .u8 0) ++ [.int .i64 0] : List Value)) (cs := C) rfl 29 _ _ rfl (Blk.new w9 _ _) rfl rfl (by rw [HCL.out]; rfl) HI.out HONE.out ?_; intro wx hbx hcx; have HBX := Lib.hid hbx; have HCX := Lib.hid hcx; clear hbx hcx))
  obtain ⟨vy, ey, hblk, herr⟩ := HX.out
  have HCX' := Lib.hid (show Chg (fun _ => False) w9 wx from ((Chg.refl _ w9).alloc _).trans HCX.out fun b h => .inr (Nat.le_of_eq h.symm))
  have HGX := Lib.hid (hblk.chg HCX'.out id)
  have HKX := Lib.hid (HK2.out.chg HCX'.out id)
  have HE := Lib.hid herr
  clear hbu hblk herr HX HBU
  refine wp_region_hoist [0, 1, 2, 3, 4] [5] [6] (fun w' => Blk w' w9.heap.size 29 C.toArray ∧ Blk w' g 133 #[vy, ey])
    (by kernel_rfl) (by kernel_rfl) (by kernel_rfl) (by kernel_rfl) (by kernel_rfl) (by kernel_rfl) ⟨HBX.out.drew, HGX.out.drew⟩ ?_
  (refine HoistK.load (by rfl) (by kernel_rfl) 29 _ rfl w9.heap.size 0 rfl C _ (fun w' hw => hw.1.range) Tryz.underlying29 rfl HI.out ?_; simp only [Act.put, List.setIfInBounds_toArray, List.getElem_toArray, List.getElem_cons_zero, List.set_cons_succ, List.set_cons_zero])
  (refine HoistK.yes (by rfl) (by kernel_rfl) ⟨?_, fun w' hSw => ?_, ?_⟩; rotate_left; (· go_simp; try with_reducible rfl); simp only [Act.put, List.setIfInBounds_toArray, List.getElem_toArray, List.getElem_cons_succ, List.getElem_cons_zero, List.set_cons_succ, List.set_cons_zero])
  (refine HoistK.yes (by rfl) (by kernel_rfl) ⟨?_, fun w' hSw => ?_, ?_⟩; rotate_left; (· go_simp; try with_reducible rfl); simp only [Act.put, List.setIfInBounds_toArray, List.getElem_toArray, List.getElem_cons_succ, List.getElem_cons_zero, List.set_cons_succ, List.set_cons_zero])
  (refine HoistK.yes (by rfl) (by kernel_rfl) ⟨?_, fun w' hSw => ?_, ?_⟩; rotate_left; (· go_simp; try with_reducible rfl); simp only [Act.put, List.setIfInBounds_toArray, List.getElem_toArray, List.getElem_cons_succ, List.getElem_cons_zero, List.set_cons_succ, List.set_cons_zero])
  (refine HoistK.yes (by rfl) (by kernel_rfl) ⟨?_, fun w' hSw => ?_, ?_⟩; rotate_left; (· have hcc := hSw.2.cell; go_simp; try with_reducible rfl); simp only [Act.put, List.setIfInBounds_toArray, List.getElem_toArray, List.getElem_cons_succ, List.getElem_cons_zero, List.set_cons_succ, List.set_cons_zero])
  refine HoistK.nil_ ?_
  simp only [opsAt, List.filterMap_cons, List.filterMap_nil, List.getElem?_toArray, List.getElem?_cons_succ, List.getElem?_cons_zero]
  refine Effects.cons_ fun _ hQ1 => ?_
  go_wp2_with (refine wpList_store_blk (cs0 := ([.int .i64 0, .int .i64 0, .int .i64 0, .int .i64 0] ++ List.replicate 96 (.int .u8 0) ++ [.int .i64 0] : List Value)) (cs := C) rfl 29 _ _ rfl HKX.out.drew rfl rfl (by rw [HCL.out]; rfl) HI.out HONE.out ?_; intro wy hby hcy; have HBY := Lib.hid hby; have HCY := Lib.hid hcy; clear hby hcy)
  refine hQ1 _ _ ⟨HBX.out.drew.chg HCY.out (fun h => by omega), HGX.out.drew.chg HCY.out (fun h => by omega)⟩ (Effects.nil_ fun _ hQ2 => ?_)
  go_wp2
  have hld := run_loadVar_mid (P := Tryz.prog) wy w.heap.size 0 29 C _ HBY.out.range Tryz.underlying29 rfl HI.out
  refine bodyPost_ret (v := .tuple #[.agg C.toArray, ey]) (by simp [results, Tryz.results91, asAddr, hld]) rfl ?_
  have hcf : Chg (fun b => b = w.heap.size) w9 wy := ((HCX'.out.mono fun _ h => h.elim).drew).trans HCY.out fun b h => .inl h
  exact ReadOut.mk (n := 8) HOUT.out HSS.out rfl HE.out (HB1.out.trans (HCA.out.below HB1.out.size fun b h => by omega)) hcf

end Go.Proofs.YtjjgmkfkmckkoabGreatDoor

/- Codec: lists read: what has been made so far. -/
namespace Go.Proofs.YtjjgmkfkmckkoabGreatDoor
open Go.RowKit Go.Maps

theorem Pt.grow {w w' : World} {X M Y : Nat → Prop} {E g : Nat} {sent : Value} {rows : List (List UInt8)} {bad : Bool} (h : Pt w X E g sent rows bad) (hc : Chg M w w') (hM : ∀ b, M b → X b ∧ b ≠ g)
    (hY : ∀ b, Y b → X b ∨ (w.heap.size ≤ b ∧ b < w'.heap.size)) (hg : Y g) : Pt w' Y E g sent rows bad := by
  obtain ⟨hg', hn, hx, hl, hE, v, e, h1, h2, h3⟩ := h
  have hs : ∀ b, ¬ X b → b < w.heap.size → ¬ Y b := fun b hb hlt hy => (hY b hy).elim hb fun h => by omega
  exact ⟨hg'.chg hc fun h => hn (hM _ h).1, hs _ hn hg'.lt, hg, fun b h => (hY b h).elim (fun h => Nat.lt_of_lt_of_le (hl b h) hc.size) fun h => h.2, Nat.le_trans hE hc.size, v, e, h1.chg hc fun h => (hM _ h).2 rfl,
    (h2.subs (T := fun b => ¬ Y b ∧ ¬ M b) fun b hb hlt => ⟨hs b hb hlt, fun h => hb (hM b h).1⟩).chg hc (fun b hb => hb.2) |>.subs fun b hb _ => hb.1,
    h3.to (fun b hb hlt => ⟨Nat.lt_of_lt_of_le hlt hc.size, hc.block b hlt fun h => hb.1 (hM _ h).1⟩) fun b hb hlt => ⟨hs b hb.1 hlt, hb.2⟩⟩
/-- Elements that were read: their cells. -/
def LOut (s : Sh) (w : World) (S : Nat → Prop) (l : List (List UInt8)) (css : List (List Value)) (bad bad' : Bool) : Prop :=
  css.length = l.length ∧ (∀ c ∈ css, c.length = s.cells) ∧ ((∃ xs, allO (l.map s.dec) = some xs ∧ bad' = bad ∧ Two (s.rep w S) xs css) ∨ (allO (l.map s.dec) = none ∧ bad' = true))
theorem LOut.nil_ (s : Sh) (w : World) (S : Nat → Prop) (bad : Bool) : LOut s w S [] [] bad bad := ⟨rfl, fun c h => (by cases h), .inl ⟨[], rfl, rfl, .nil⟩⟩
theorem allO_snoc {α : Type} (l : List (Option α)) (o : Option α) : allO (l ++ [o]) = match allO l, o with | some r, some a => some (r ++ [a]) | _, _ => none := by
  induction l with
  | nil => cases o <;> rfl
  | cons p l ih =>
    simp only [List.cons_append, allO, ih]
    cases p with
    | none => cases allO l <;> cases o <;> rfl
    | some b => cases allO l <;> cases o <;> rfl
theorem LOut.snoc {s : Sh} {w w' : World} {S S' : Nat → Prop} {l : List (List UInt8)} {css : List (List Value)} {x : List UInt8} {c : List Value} {bad b1 b2 : Bool} (h : LOut s w S l css bad b1) (k : SOut s w' S' x c b1 b2)
    (hk : ∀ b, S b → b < w.heap.size → b < w'.heap.size ∧ w'.heap[b]? = w.heap[b]?) (hs : ∀ b, S b → b < w.heap.size → S' b) : LOut s w' S' (l ++ [x]) (css ++ [c]) bad b2 := by
  obtain ⟨h1, h2, h3⟩ := h
  obtain ⟨k1, k2, k3⟩ := k
  refine ⟨by simp [h1], fun d hd => (List.mem_append.1 hd).elim (h2 d) fun hd => by obtain rfl := List.mem_singleton.1 hd; exact k1, ?_⟩
  rw [List.map_append, List.map_cons, List.map_nil, allO_snoc]
  rcases h3 with ⟨xs, e1, e2, e3⟩ | ⟨e1, e2⟩ <;> rcases k3 with ⟨y, f1, f2, f3⟩ | ⟨f1, f2⟩ <;> rw [e1, f1]
  · exact .inl ⟨xs ++ [y], rfl, by rw [f2, e2], (e3.map fun a b h => Sh.rep_to hk hs s a b h).append (.cons f3 .nil)⟩
  · exact .inr ⟨rfl, f2⟩
  · exact .inr ⟨rfl, by rw [f2, e2]⟩
  · exact .inr ⟨rfl, f2⟩
theorem LOut.to {s : Sh} {w w' : World} {S S' : Nat → Prop} {l : List (List UInt8)} {css : List (List Value)} {bad b1 : Bool} (h : LOut s w S l css bad b1)
    (hk : ∀ b, S b → b < w.heap.size → b < w'.heap.size ∧ w'.heap[b]? = w.heap[b]?) (hs : ∀ b, S b → b < w.heap.size → S' b) : LOut s w' S' l css bad b1 :=
  ⟨h.1, h.2.1, h.2.2.imp (fun ⟨xs, e1, e2, e3⟩ => ⟨xs, e1, e2, e3.map fun a b h => Sh.rep_to hk hs s a b h⟩) id⟩
/-- The list that was read. -/
theorem LOut.list {s : Sh} {w : World} {S : Nat → Prop} {x : List UInt8} {l : List (List UInt8)} {css : List (List Value)} {bad b1 : Bool} {v : Value} (h : LOut s w S l css bad b1) (hsp : splitB x = some l) (hv : Cs w S s.cells v l.length css.flatten) : SOut (.list s) w S x [v] bad b1 := by
  obtain ⟨h1, _, h3⟩ := h
  obtain ⟨A, c, rfl⟩ := hv.form
  have hd : (Sh.list s).dec x = (match splitB x with | none => none | some l => allO (l.map s.dec)) := rfl
  refine ⟨rfl, fun u hu => by obtain rfl := List.mem_singleton.1 hu; rfl, ?_⟩
  rw [hd, hsp]
  refine h3.imp (fun ⟨xs, e1, e2, e3⟩ => ⟨xs, e1, e2, _, css, rfl, ?_, e3⟩) id
  have : xs.length = l.length := by rw [e3.length, h1]
  show Cs w S s.cells _ (List.length (α := s.El) xs) _
  rw [this]
  exact hv
theorem SOut.noList {s : Sh} {w : World} {S : Nat → Prop} {x : List UInt8} {v : Value} {bad : Bool} (hsp : splitB x = none) (hv : v.oneCell' = true) : SOut (.list s) w S x [v] bad true := by
  have hd : (Sh.list s).dec x = (match splitB x with | none => none | some l => allO (l.map s.dec)) := rfl
  refine ⟨rfl, fun u hu => by obtain rfl := List.mem_singleton.1 hu; exact hv, .inr ⟨?_, rfl⟩⟩
  rw [hd, hsp]
theorem Own.tail_ {w : World} {e : TypeId} {size n : Nat} {v : Value} {xs : List Value} (h : Own w e size v n xs) : xs.length = n * size := h.1

/-- A list half read: o holds the elements so far. -/
def AllI (T : TypeId) (size : Nat) (s : Sh) (w wS : World) (X : Nat → Prop) (E g : Nat) (sent : Value) (rows : List (List UInt8)) (bad : Bool) (l : List (List UInt8)) (o : Value) (k : Nat) (wr : World) : Prop :=
  ∃ css bk, Own wr T size o k css.flatten ∧ (∀ b, o.ownBlock = some b → wS.heap.size ≤ b) ∧ LOut s wr (fun b => w.heap.size ≤ b ∧ o.ownBlock ≠ some b) (l.take k) css bad bk ∧ Pt wr (fun b => X b ∨ o.ownBlock = some b) E g sent rows bk ∧ Chg (fun b => b = g) wS wr
theorem AllI.start {T : TypeId} {size : Nat} {s : Sh} {w wS : World} {X : Nat → Prop} {E g : Nat} {sent : Value} {rows : List (List UInt8)} {bad : Bool} {l : List (List UInt8)} (hp : Pt wS X E g sent rows bad) : AllI T size s w wS X E g sent rows bad l (.slice none 0 0) 0 wS :=
  ⟨[], bad, Own.nil_ _ _ _, fun b hb => by simp [Value.ownBlock] at hb, LOut.nil_ _ _ _ _, hp.less (fun b h => h.elim id fun h => by simp [Value.ownBlock] at h) (.inl hp.2.2.1), Chg.refl _ _⟩
theorem AllI.step {T : TypeId} {size : Nat} {s : Sh} {w wS wr w3 wb w6 : World} {X : Nat → Prop} {E g k : Nat} {sent o o' : Value} {rows l : List (List UInt8)} {bad bk b2 : Bool} {css : List (List Value)} {y : List UInt8} {C : List Value} {ob : Obj}
    (hgw : g < w.heap.size) (hwS : w.heap.size ≤ wS.heap.size) (hown : Own wr T size o k css.flatten) (hob : ∀ b, o.ownBlock = some b → wS.heap.size ≤ b) (hlo : LOut s wr (fun b => w.heap.size ≤ b ∧ o.ownBlock ≠ some b) (l.take k) css bad bk) (hch : Chg (fun b => b = g) wS wr)
    (hb3 : Below wr.heap.size wr w3) (ho : SOut s w3 (fun b => wr.heap.size ≤ b) y C bk b2) (hcb : Chg (fun b => b = g) w3 wb) (hpb : Pt wb (fun b => X b ∨ o.ownBlock = some b) E g sent rows b2) (hky : l.take (k + 1) = l.take k ++ [y])
    (ho6 : Own w6 T size o' (k + 1) (css.flatten ++ C)) (hc6 : Chg (fun b => o.ownBlock = some b) (wb.alloc ob) w6) (hat : o'.ownBlock = o.ownBlock ∨ o'.ownBlock = some (wb.alloc ob).heap.size) : AllI T size s w wS X E g sent rows bad l o' (k + 1) w6 := by
  have hal := (Below.refl wb.heap.size wb).alloc (Nat.le_refl _) ob
  have z1 := hch.size
  have z2 := hb3.size
  have z3 := hcb.size
  have z4 := hal.size
  have z5 := hc6.size
  have hol : ∀ b, o.ownBlock = some b → b < wr.heap.size := fun b hb => own_lt hown hb
  have hgX : X g := hpb.2.2.1.elim id fun h => absurd (hob g h) (by omega)
  have same : ∀ b, b < w3.heap.size → b ≠ g → o.ownBlock ≠ some b → w6.heap[b]? = w3.heap[b]? := fun b hb hg hne =>
    (hc6.block b (by omega) hne).trans ((hal.block b (by omega)).trans (hcb.block b hb hg))
  have hnew : ∀ b, b < w3.heap.size → o.ownBlock ≠ some b → o'.ownBlock ≠ some b := fun b hb hne e => by
    rcases hat with h | h
    · exact hne (h ▸ e)
    · rw [h] at e; injection e with e; omega
  refine ⟨css ++ [C], b2, by rw [List.flatten_append]; simpa using ho6, fun b hb => ?_, ?_, ?_, ?_⟩
  · rcases hat with h | h
    · exact hob b (h ▸ hb)
    · rw [h] at hb; injection hb with hb; omega
  · rw [hky]
    refine hlo.snoc (ho.to (w' := w6) (S' := fun b => w.heap.size ≤ b ∧ o'.ownBlock ≠ some b) (fun b hb hlt => ⟨by omega, same b hlt (by omega) fun e => by have := hol b e; omega⟩) fun b hb hlt => ⟨by omega, hnew b hlt fun e => by have := hol b e; omega⟩)
      (fun b hb hlt => ⟨by omega, (same b (by omega) (by have := hb.1; omega) hb.2).trans (hb3.block b hlt)⟩) fun b hb hlt => ⟨hb.1, hnew b (by omega) hb.2⟩
  · refine (hpb.below hal).grow hc6 (fun b hb => ⟨.inr hb, fun e => by have := hob b hb; omega⟩) (fun b hb => ?_) (.inl hgX)
    rcases hb with hb | hb
    · exact .inl (.inl hb)
    · rcases hat with h | h
      · exact .inl (.inr (h ▸ hb))
      · have := own_lt ho6 hb
        rw [h] at hb; injection hb with hb
        exact .inr ⟨by omega, by omega⟩
  · have h1 := hch.trans (Chg.of_below hb3 fun b => b = g) fun b h => .inl h
    have h2 := h1.trans hcb fun b h => .inl h
    exact (h2.alloc ob).trans hc6 fun b h => .inr (hob b h)
/-- All were read. -/
theorem AllI.out {T : TypeId} {size : Nat} {s : Sh} {w wS wr : World} {X : Nat → Prop} {E g : Nat} {sent o : Value} {x : List UInt8} {rows l : List (List UInt8)} {bad : Bool} (h : AllI T size s w wS X E g sent rows bad l o l.length wr) (hsz : s.cells = size) (hsp : splitB x = some l) (hval : ∀ y, (Sh.list s).val [y] = y)
    (hgX : X g) (hc : Chg (fun b => b = g) w wS) : Took (.list s) w X E g sent x rows bad (.returned o) wr := by
  obtain ⟨css, bk, hown, hob, hlo, hpt, hch⟩ := h
  subst hsz
  rw [List.take_length] at hlo
  have hlo2 := hlo.to (w' := wr) (S' := fun b => w.heap.size ≤ b) (fun b _ hlt => ⟨hlt, rfl⟩) fun b hb _ => hb.1
  have := hc.size
  exact ⟨[o], bk, by rw [hval], hc.trans hch fun b h => .inl h, hpt.less (fun b h => .inl h) hgX, hlo2.list hsp (Cs.of_own hown fun k hk => Nat.le_trans this (hob k hk))⟩

end Go.Proofs.YtjjgmkfkmckkoabGreatDoor

/- Codec: all[Header]. -/
namespace Go.Proofs.YtjjgmkfkmckkoabGreatDoor
open Go.RowKit Go.Maps
attribute [-simp] Tryz.isAgg24 Tryz.typeInfo24 Tryz.isAgg29 Tryz.typeInfo29

theorem size_allHeader_any : (Tryz.prog.info? 29).map (·.size) = some 101 := by kernel_rfl
theorem sizes_allHeader_any : (Tryz.prog.info? 29).map (fun i => (i.zero.map (fun z => z.cells.size), i.size)) = some (some 101, 101) := by kernel_rfl
theorem info_allHeader_any : (Tryz.prog.info? 29).map (fun i => (i.zero, i.size, i.bytes)) = some (some (.agg (([.int .i64 0, .int .i64 0, .int .i64 0, .int .i64 0] ++ List.replicate 96 (.int .u8 0) ++ [.int .i64 0] : List Value)).toArray), 101, 136) := by kernel_rfl
set_option maxHeartbeats 8000000 in
set_option maxRecDepth 100000 in
theorem allHeader_any (w : World) {X : Nat → Prop} {E g : Nat} {sent : Value} {x : List UInt8} {rows : List (List UInt8)} {bad : Bool} (h : Pt w X E g sent (x :: rows) bad) (hxl : x.length ≤ 262144) :
    Calls Tryz.prog 102 #[.pointer (some ⟨g, 0, none⟩), .func (Fn.func 91) #[] #[]] w (Took (.list tHeader) w X E g sent x rows bad) := by
  have hgx := h.2.2.1
  have hgw := h.lt
  have hEw := h.2.2.2.2.1
  have HGX := Lib.hid hgx
  have HX1 := Lib.hid (show ∀ b, X b → b < w.heap.size from h.2.2.2.1)
  have H := Lib.hid (next_any _ h)
  clear h hgx
  go_enter Tryz.func102, Tryz.ntmps102
  go_wp2_with fail
  refine H.out.mono ?_
  rintro e w1 ⟨v1, rfl, hb1, hc1, hp1⟩
  have HSP := Lib.hid (split_any w1 hb1 (by omega))
  have hz1 := hc1.size
  have HP1 := Lib.hid hp1
  have HC1 := Lib.hid hc1
  obtain ⟨A1, c1, rfl⟩ := hb1.form
  clear hb1 hp1 hc1 H
  go_wp2_with fail
  refine HSP.out.mono ?_
  rintro e w2 ⟨hb2, ⟨hno, rfl⟩ | ⟨v2, l, hsp, rfl, hbss⟩⟩
  · have HNO := Lib.hid hno; clear hno
    have hp2 := HP1.out.below hb2
    obtain ⟨⟨sa, rfl⟩, hgl⟩ := hp2.1
    have hgl : w2.cell? ⟨gF, 0, none⟩ = some _ := hgl
    unfold gF at hgl
    have hlx := hp2.2.2.2.1
    have hE2 := hp2.2.2.2.2.1
    have hal := (Below.refl w2.heap.size w2).alloc (Nat.le_refl _) (.cells #[.string ⟨#[97, 32, 108, 105, 115, 116]⟩, .iface 205 (.pointer (some sa))] 117)
    have HBAD := Lib.hid (bad_any _ (hp2.below hal) (Chain.fresh _ ⟨fun h => absurd (hlx _ h) (Nat.lt_irrefl _), hE2⟩))
    have HC2 := Lib.hid (HC1.out.trans (Chg.of_below hb2 fun k => k = g) fun b h => .inl h)
    clear hp2 hlx hal hE2 hb2 HP1 HC1 HSP
    go_wp2_with fail
    refine HBAD.out.mono ?_
    rintro e w3 ⟨rfl, hc3, hp3⟩
    have HP3 := Lib.hid hp3
    have HC3 := Lib.hid hc3
    clear hp3 hc3 HBAD
    go_wp2_with fail
    refine wp_loop_rounds 1 ?_
    rw [rounds_succ]
    go_wp2
    go_ret
    exact ⟨[.slice none 0 0], true, rfl, (HC2.out.alloc _).trans HC3.out fun b h => .inl h, HP3.out, SOut.noList HNO.out rfl⟩
  · have hrl : ∀ y ∈ l, y.length ≤ 262144 := fun y hy => Nat.le_trans (joinP_mem_le hsp y hy) hxl
    have hll : l.length ≤ 32768 := by
      have h1 := splitB_back hsp
      have h2 := joinP_count l
      rw [← h1, joinB_length] at hxl
      omega
    obtain ⟨A2, c2, rfl⟩ := hbss.form
    have HROWS := Lib.hid (((hbss.read fun y hy => by have := hrl y hy; omega).lt_ (T := fun b => w1.heap.size ≤ b) fun b h => h.elim id id).subs (T := fun b => b ≠ g) fun b hb _ => by have := hb.1; omega)
    have HP2 := Lib.hid (HP1.out.below hb2)
    have HC2 := Lib.hid (HC1.out.trans (Chg.of_below hb2 fun k => k = g) fun b h => .inl h)
    have HSPL := Lib.hid hsp
    have HRL := Lib.hid hrl
    have hwS : w.heap.size ≤ w2.heap.size := Nat.le_trans hz1 hb2.size
    clear hbss hsp hrl hb2 HP1 HC1 HSP hxl
    go_wp2_with fail
    go_loopw [7, 28] (fun o i wr => ∃ k : Nat, k ≤ l.length ∧ i = .int .i64 k ∧ AllI 29 101 tHeader w w2 X E g sent rows bad l o k wr) (fun _ i _ => l.length - (intOf i).toNat)
    case atStart => exact ⟨0, Nat.zero_le _, rfl, AllI.start HP2.out⟩
    case round =>
      obtain ⟨k, hk, rfl, hI⟩ := hrel
      by_cases hlt : k < l.length
      · obtain ⟨css, bk, hown, hob, hlo, hpt, hch⟩ := hI
        obtain ⟨ba, oa, ua, rfl, hca, hua, _, hSb⟩ := (HROWS.out.chg hch (fun b hb h => hb h)).at_ hlt
        have htk : l.take (k + 1) = l.take k ++ [l[k]] := List.take_succ_eq_append_getElem hlt
        have hyl := HRL.out l[k] (List.getElem_mem hlt)
        obtain ⟨y, hy⟩ : ∃ y, y = l[k] := ⟨_, rfl⟩
        rw [← hy] at hua htk hyl
        have HR := Lib.hid (readHeader_any wr hua hyl hpt.1)
        obtain ⟨Ay, cy, rfl⟩ := hua.form
        obtain ⟨Ao, co, rfl⟩ := hown.form
        have HOWN := Lib.hid hown
        have HOB := Lib.hid hob
        have HLO := Lib.hid hlo
        have HPT := Lib.hid hpt
        have HCH := Lib.hid hch
        have HTK := Lib.hid htk
        have H63 := Lib.hid (show k + 1 ≤ maxLen ∧ (k + 1) * 136 ≤ 140737488355328 from ⟨by simp only [maxLen]; omega, by omega⟩)
        have hzr := hch.size
        clear hown hob hlo hpt hch htk hy hua hyl
        go_wp2_with fail
        refine HR.out.mono ?_
        rintro e w3 hro
        obtain ⟨C, err, bd, rfl, h1, hl, hb3, he, ho⟩ := hro.agg (fun _ => rfl)
        have hl : C.length = 101 := hl
        have HL := Lib.hid hl
        have HI := Lib.hid (show (Tryz.prog.info? 29).map (·.size) = some C.length from by rw [hl]; exact size_allHeader_any)
        have HI2 := Lib.hid (show (Tryz.prog.info? 29).map (fun i => (i.zero.map (fun z => z.cells.size), i.size)) = some (some C.length, C.length) from by rw [hl]; exact sizes_allHeader_any)
        have H1 := Lib.hid h1
        clear h1 hl
        have HB3 := Lib.hid hb3
        have HP3 := Lib.hid (HPT.out.below hb3)
        have HO := Lib.hid (ho.or_ bk)
        clear hro hb3 ho HR
        rcases he with ⟨rfl, rfl⟩ | ⟨rfl, hcn⟩
        · skip
          go_wp2_with (first
            | (refine wpList_store_blk (cs0 := ([.int .i64 0, .int .i64 0, .int .i64 0, .int .i64 0] ++ List.replicate 96 (.int .u8 0) ++ [.int .i64 0] : List Value)) (cs := C) rfl 29 _ _ rfl (Blk.new w3 _ _) rfl rfl (by rw [HL.out]; rfl) HI.out H1.out ?_; intro w4 hb4 hc4; have HB4 := Lib.hid hb4; have HC4 := Lib.hid (show Chg (fun _ => False) w3 w4 from ((Chg.refl _ w3).alloc _).trans hc4 fun b h => .inr (Nat.le_of_eq h.symm)); clear hb4 hc4; have HO2 := Lib.hid (show ∀ ob, Own (w4.alloc ob) 29 101 (.slice Ao k co) k css.flatten from fun ob => own_keep HOWN.out fun b hb => (by have h1 := own_lt HOWN.out hb; have h2 := HOB.out b hb; have h3 := HB3.out.size; exact (Below.heap_alloc w4 ob b (Nat.lt_of_lt_of_le (Nat.lt_of_lt_of_le h1 h3) HC4.out.size)).trans ((HC4.out.block b (Nat.lt_of_lt_of_le h1 h3) id).trans (HB3.out.block b h1)))); have HS2 := Lib.hid (Cs.of_new w4 29 (size := 101) 1 (cs := C) (by rw [HL.out]) (by simp only [maxLen]; decide)))
            | (refine wpList_load_blk' rfl 29 _ rfl HB4.out rfl Tryz.underlying29 rfl HI.out ?_)
            | (refine wpList_row1 rfl 54 29 _ rfl Tryz.underlying54 (.agg C.toArray) rfl C rfl HI2.out (by rw [HL.out]; decide) (by rw [HL.out]; decide) ?_)
            | (at_builtin; refine wpList_app _ rfl _ _ _ rfl Tryz.underlying54 info_allHeader_any rfl (by decide) (HO2.out _) rfl HS2.out rfl H1.out H63.out.1 H63.out.2 ?_; intro v6 w6 ho6 hc6 hnil6 hat6; clear hnil6; have HO6 := Lib.hid ho6; clear ho6; have HC6 := Lib.hid hc6; clear hc6; have HAT6 := Lib.hid hat6; clear hat6))
          refine ⟨⟨k + 1, by omega, by push_cast; rfl, AllI.step hgw hwS HOWN.out HOB.out HLO.out HCH.out HB3.out (by have := HO.out; rw [Bool.or_false] at this; exact this) (HC4.out.mono (M' := fun b => b = g) fun _ h => h.elim) (HP3.out.chg HC4.out fun b h => h.elim) HTK.out HO6.out HC6.out HAT6.out⟩, ?_⟩
          simp only [intOf]; omega
        · skip
          obtain ⟨gw, rfl⟩ := hcn.form
          have HCN := Lib.hid hcn; clear hcn
          go_wp2_with (refine wpList_store_blk (cs0 := ([.int .i64 0, .int .i64 0, .int .i64 0, .int .i64 0] ++ List.replicate 96 (.int .u8 0) ++ [.int .i64 0] : List Value)) (cs := C) rfl 29 _ _ rfl (Blk.new w3 _ _) rfl rfl (by rw [HL.out]; rfl) HI.out H1.out ?_; intro w4 hb4 hc4; have HB4 := Lib.hid hb4; have HC4 := Lib.hid (show Chg (fun _ => False) w3 w4 from ((Chg.refl _ w3).alloc _).trans hc4 fun b h => .inr (Nat.le_of_eq h.symm)); clear hb4 hc4)
          have hp4 := (HP3.out.chg HC4.out fun b h => h.elim)
          have hlx := hp4.2.2.2.1
          have hE4 := hp4.2.2.2.2.1
          have hz4 := HC4.out.size
          have hz3 := HB3.out.size
          have hal := (Below.refl w4.heap.size w4).alloc (Nat.le_refl _) (.cells #[.string ⟨#[105, 110, 32, 97, 32, 108, 105, 115, 116]⟩, .iface 113 (.pointer (some ⟨gw, 0, none⟩))] 117)
          have hcn4 := (HCN.out.to (w' := w4) (S' := fun b => ¬ (X b ∨ (Value.slice Ao k co).ownBlock = some b) ∧ E ≤ b) (fun b hb hlt => ⟨Nat.lt_of_lt_of_le hlt HC4.out.size, HC4.out.block b hlt id⟩) fun b hb hlt => ⟨fun h => h.elim (fun h => by have := HX1.out b h; omega) fun h => by have := own_lt HOWN.out h; omega, by omega⟩)
          have HBAD := Lib.hid (bad_any _ (hp4.below hal) (hcn4.freshMore _ ⟨fun h => absurd (hlx _ h) (Nat.lt_irrefl _), hE4⟩))
          clear hp4 hlx hal hcn4 hE4
          refine HBAD.out.mono ?_
          rintro e w5 ⟨rfl, hc5, hp5⟩
          have HP5 := Lib.hid hp5
          have HC35 := Lib.hid (show Chg (fun b => b = g) w3 w5 from ((HC4.out.mono (M' := fun b => b = g) fun _ h => h.elim).alloc _).trans hc5 fun b h => .inl h)
          have HB5 := Lib.hid ((HB4.out.alloc _).chg hc5 (fun h => by omega))
          clear hc5 hp5 HBAD
          have HO2 := Lib.hid (show ∀ ob, Own (w5.alloc ob) 29 101 (.slice Ao k co) k css.flatten from fun ob => own_keep HOWN.out fun b hb => (by have h1 := own_lt HOWN.out hb; have h2 := HOB.out b hb; have h3 := HB3.out.size; exact (Below.heap_alloc w5 ob b (Nat.lt_of_lt_of_le (Nat.lt_of_lt_of_le h1 h3) HC35.out.size)).trans ((HC35.out.block b (Nat.lt_of_lt_of_le h1 h3) (fun e => by omega)).trans (HB3.out.block b h1))))
          have HS2 := Lib.hid (Cs.of_new w5 29 (size := 101) 1 (cs := C) (by rw [HL.out]) (by simp only [maxLen]; decide))
          go_wp2_with (first
            | (refine wpList_load_blk' rfl 29 _ rfl HB5.out rfl Tryz.underlying29 rfl HI.out ?_)
            | (refine wpList_row1 rfl 54 29 _ rfl Tryz.underlying54 (.agg C.toArray) rfl C rfl HI2.out (by rw [HL.out]; decide) (by rw [HL.out]; decide) ?_)
            | (at_builtin; refine wpList_app _ rfl _ _ _ rfl Tryz.underlying54 info_allHeader_any rfl (by decide) (HO2.out _) rfl HS2.out rfl H1.out H63.out.1 H63.out.2 ?_; intro v6 w6 ho6 hc6 hnil6 hat6; clear hnil6; have HO6 := Lib.hid ho6; clear ho6; have HC6 := Lib.hid hc6; clear hc6; have HAT6 := Lib.hid hat6; clear hat6))
          refine ⟨⟨k + 1, by omega, by push_cast; rfl, AllI.step hgw hwS HOWN.out HOB.out HLO.out HCH.out HB3.out (by have := HO.out; rw [Bool.or_true] at this; exact this) HC35.out HP5.out HTK.out HO6.out HC6.out HAT6.out⟩, ?_⟩
          simp only [intOf]; omega
      · have hk' : k = l.length := by omega
        subst hk'
        have HI := Lib.hid hI
        clear hI
        go_wp2_with fail
        go_ret
        exact HI.out.out rfl HSPL.out (fun _ => rfl) HGX.out HC2.out

end Go.Proofs.YtjjgmkfkmckkoabGreatDoor

/- Codec: all[int]. -/
namespace Go.Proofs.YtjjgmkfkmckkoabGreatDoor
open Go.RowKit Go.Maps

theorem size_allInt_any : (Tryz.prog.info? 3).map (·.size) = some 1 := by kernel_rfl
theorem sizes_allInt_any : (Tryz.prog.info? 3).map (fun i => (i.zero.map (fun z => z.cells.size), i.size)) = some (some 1, 1) := by kernel_rfl
theorem info_allInt_any : (Tryz.prog.info? 3).map (fun i => (i.zero, i.size, i.bytes)) = some (some (.int .i64 0), 1, 8) := by kernel_rfl
set_option maxHeartbeats 8000000 in
set_option maxRecDepth 100000 in
theorem allInt_any (w : World) {X : Nat → Prop} {E g : Nat} {sent : Value} {x : List UInt8} {rows : List (List UInt8)} {bad : Bool} (h : Pt w X E g sent (x :: rows) bad) (hxl : x.length ≤ 262144) :
    Calls Tryz.prog 81 #[.pointer (some ⟨g, 0, none⟩), .func (Fn.func 82) #[] #[]] w (Took (.list i64) w X E g sent x rows bad) := by
  have hgx := h.2.2.1
  have hgw := h.lt
  have hEw := h.2.2.2.2.1
  have HGX := Lib.hid hgx
  have HX1 := Lib.hid (show ∀ b, X b → b < w.heap.size from h.2.2.2.1)
  have H := Lib.hid (next_any _ h)
  clear h hgx
  go_enter Tryz.func81, Tryz.ntmps81
  go_wp2_with fail
  refine H.out.mono ?_
  rintro e w1 ⟨v1, rfl, hb1, hc1, hp1⟩
  have HSP := Lib.hid (split_any w1 hb1 (by omega))
  have hz1 := hc1.size
  have HP1 := Lib.hid hp1
  have HC1 := Lib.hid hc1
  obtain ⟨A1, c1, rfl⟩ := hb1.form
  clear hb1 hp1 hc1 H
  go_wp2_with fail
  refine HSP.out.mono ?_
  rintro e w2 ⟨hb2, ⟨hno, rfl⟩ | ⟨v2, l, hsp, rfl, hbss⟩⟩
  · have HNO := Lib.hid hno; clear hno
    have hp2 := HP1.out.below hb2
    obtain ⟨⟨sa, rfl⟩, hgl⟩ := hp2.1
    have hgl : w2.cell? ⟨gF, 0, none⟩ = some _ := hgl
    unfold gF at hgl
    have hlx := hp2.2.2.2.1
    have hE2 := hp2.2.2.2.2.1
    have hal := (Below.refl w2.heap.size w2).alloc (Nat.le_refl _) (.cells #[.string ⟨#[97, 32, 108, 105, 115, 116]⟩, .iface 205 (.pointer (some sa))] 117)
    have HBAD := Lib.hid (bad_any _ (hp2.below hal) (Chain.fresh _ ⟨fun h => absurd (hlx _ h) (Nat.lt_irrefl _), hE2⟩))
    have HC2 := Lib.hid (HC1.out.trans (Chg.of_below hb2 fun k => k = g) fun b h => .inl h)
    clear hp2 hlx hal hE2 hb2 HP1 HC1 HSP
    go_wp2_with fail
    refine HBAD.out.mono ?_
    rintro e w3 ⟨rfl, hc3, hp3⟩
    have HP3 := Lib.hid hp3
    have HC3 := Lib.hid hc3
    clear hp3 hc3 HBAD
    go_wp2_with fail
    refine wp_loop_rounds 1 ?_
    rw [rounds_succ]
    go_wp2
    go_ret
    exact ⟨[.slice none 0 0], true, rfl, (HC2.out.alloc _).trans HC3.out fun b h => .inl h, HP3.out, SOut.noList HNO.out rfl⟩
  · have hrl : ∀ y ∈ l, y.length ≤ 262144 := fun y hy => Nat.le_trans (joinP_mem_le hsp y hy) hxl
    have hll : l.length ≤ 32768 := by
      have h1 := splitB_back hsp
      have h2 := joinP_count l
      rw [← h1, joinB_length] at hxl
      omega
    obtain ⟨A2, c2, rfl⟩ := hbss.form
    have HROWS := Lib.hid (((hbss.read fun y hy => by have := hrl y hy; omega).lt_ (T := fun b => w1.heap.size ≤ b) fun b h => h.elim id id).subs (T := fun b => b ≠ g) fun b hb _ => by have := hb.1; omega)
    have HP2 := Lib.hid (HP1.out.below hb2)
    have HC2 := Lib.hid (HC1.out.trans (Chg.of_below hb2 fun k => k = g) fun b h => .inl h)
    have HSPL := Lib.hid hsp
    have HRL := Lib.hid hrl
    have hwS : w.heap.size ≤ w2.heap.size := Nat.le_trans hz1 hb2.size
    clear hbss hsp hrl hb2 HP1 HC1 HSP hxl
    go_wp2_with fail
    go_loopw [7, 28] (fun o i wr => ∃ k : Nat, k ≤ l.length ∧ i = .int .i64 k ∧ AllI 3 1 i64 w w2 X E g sent rows bad l o k wr) (fun _ i _ => l.length - (intOf i).toNat)
    case atStart => exact ⟨0, Nat.zero_le _, rfl, AllI.start HP2.out⟩
    case round =>
      obtain ⟨k, hk, rfl, hI⟩ := hrel
      by_cases hlt : k < l.length
      · obtain ⟨css, bk, hown, hob, hlo, hpt, hch⟩ := hI
        obtain ⟨ba, oa, ua, rfl, hca, hua, _, hSb⟩ := (HROWS.out.chg hch (fun b hb h => hb h)).at_ hlt
        have htk : l.take (k + 1) = l.take k ++ [l[k]] := List.take_succ_eq_append_getElem hlt
        have hyl := HRL.out l[k] (List.getElem_mem hlt)
        obtain ⟨y, hy⟩ : ∃ y, y = l[k] := ⟨_, rfl⟩
        rw [← hy] at hua htk hyl
        have HR := Lib.hid (readNum_any wr hua hyl hpt.1)
        obtain ⟨Ay, cy, rfl⟩ := hua.form
        obtain ⟨Ao, co, rfl⟩ := hown.form
        have HOWN := Lib.hid hown
        have HOB := Lib.hid hob
        have HLO := Lib.hid hlo
        have HPT := Lib.hid hpt
        have HCH := Lib.hid hch
        have HTK := Lib.hid htk
        have H63 := Lib.hid (show k + 1 ≤ maxLen ∧ (k + 1) * 8 ≤ 140737488355328 from ⟨by simp only [maxLen]; omega, by omega⟩)
        have hzr := hch.size
        clear hown hob hlo hpt hch htk hy hua hyl
        go_wp2_with fail
        refine HR.out.mono ?_
        rintro e w3 hro
        obtain ⟨y0, err, bd, rfl, h1, hb3, he, ho⟩ := hro.one (fun _ => rfl) rfl
        have HY1 := Lib.hid h1
        have H1 := Lib.hid (show ∀ u ∈ [y0], u.oneCell' = true from fun u hu => by obtain rfl := List.mem_singleton.1 hu; exact h1)
        have HI2 := Lib.hid sizes_allInt_any
        clear h1
        have HB3 := Lib.hid hb3
        have HP3 := Lib.hid (HPT.out.below hb3)
        have HO := Lib.hid (ho.or_ bk)
        clear hro hb3 ho HR
        rcases he with ⟨rfl, rfl⟩ | ⟨rfl, hcn⟩
        · skip
          have HO2 := Lib.hid (show ∀ ob, Own (w3.alloc ob) 3 1 (.slice Ao k co) k css.flatten from fun ob => own_keep HOWN.out fun b hb => (by have h1 := own_lt HOWN.out hb; have h2 := HOB.out b hb; have h3 := HB3.out.size; exact (Below.heap_alloc w3 ob b (Nat.lt_of_lt_of_le h1 h3)).trans (HB3.out.block b h1)))
          have HS2 := Lib.hid (Cs.of_new w3 3 (size := 1) 1 (cs := [y0]) rfl (by simp only [maxLen]; decide))
          go_wp2_with (first
            | (refine wpList_row1 rfl 30 3 _ rfl Tryz.underlying30 y0 rfl [y0] (cells_one HY1.out) HI2.out (by simp) (by simp) ?_)
            | (at_builtin; refine wpList_app _ rfl _ _ _ rfl Tryz.underlying30 info_allInt_any rfl (by decide) (HO2.out _) rfl HS2.out rfl H1.out H63.out.1 H63.out.2 ?_; intro v6 w6 ho6 hc6 hnil6 hat6; clear hnil6; have HO6 := Lib.hid ho6; clear ho6; have HC6 := Lib.hid hc6; clear hc6; have HAT6 := Lib.hid hat6; clear hat6))
          refine ⟨⟨k + 1, by omega, by push_cast; rfl, AllI.step hgw hwS HOWN.out HOB.out HLO.out HCH.out HB3.out (by have := HO.out; rw [Bool.or_false] at this; exact this) (Chg.refl (fun b => b = g) w3) HP3.out HTK.out HO6.out HC6.out HAT6.out⟩, ?_⟩
          simp only [intOf]; omega
        · skip
          obtain ⟨gw, rfl⟩ := hcn.form
          have HCN := Lib.hid hcn; clear hcn
          have hp4 := HP3.out
          have hlx := hp4.2.2.2.1
          have hE4 := hp4.2.2.2.2.1
          have hz4 := Nat.le_refl w3.heap.size
          have hz3 := HB3.out.size
          have hal := (Below.refl w3.heap.size w3).alloc (Nat.le_refl _) (.cells #[.string ⟨#[105, 110, 32, 97, 32, 108, 105, 115, 116]⟩, .iface 113 (.pointer (some ⟨gw, 0, none⟩))] 117)
          have hcn4 := (HCN.out.to (w' := w3) (S' := fun b => ¬ (X b ∨ (Value.slice Ao k co).ownBlock = some b) ∧ E ≤ b) (fun b hb hlt => ⟨hlt, rfl⟩) fun b hb hlt => ⟨fun h => h.elim (fun h => by have := HX1.out b h; omega) fun h => by have := own_lt HOWN.out h; omega, by omega⟩)
          have HBAD := Lib.hid (bad_any _ (hp4.below hal) (hcn4.freshMore _ ⟨fun h => absurd (hlx _ h) (Nat.lt_irrefl _), hE4⟩))
          clear hp4 hlx hal hcn4 hE4
          go_wp2_with fail
          refine HBAD.out.mono ?_
          rintro e w5 ⟨rfl, hc5, hp5⟩
          have HP5 := Lib.hid hp5
          have HC35 := Lib.hid (show Chg (fun b => b = g) w3 w5 from ((Chg.refl (fun b => b = g) w3).alloc _).trans hc5 fun b h => .inl h)
          clear hc5 hp5 HBAD
          have HO2 := Lib.hid (show ∀ ob, Own (w5.alloc ob) 3 1 (.slice Ao k co) k css.flatten from fun ob => own_keep HOWN.out fun b hb => (by have h1 := own_lt HOWN.out hb; have h2 := HOB.out b hb; have h3 := HB3.out.size; exact (Below.heap_alloc w5 ob b (Nat.lt_of_lt_of_le (Nat.lt_of_lt_of_le h1 h3) HC35.out.size)).trans ((HC35.out.block b (Nat.lt_of_lt_of_le h1 h3) (fun e => by omega)).trans (HB3.out.block b h1))))
          have HS2 := Lib.hid (Cs.of_new w5 3 (size := 1) 1 (cs := [y0]) rfl (by simp only [maxLen]; decide))
          go_wp2_with (first
            | (refine wpList_row1 rfl 30 3 _ rfl Tryz.underlying30 y0 rfl [y0] (cells_one HY1.out) HI2.out (by simp) (by simp) ?_)
            | (at_builtin; refine wpList_app _ rfl _ _ _ rfl Tryz.underlying30 info_allInt_any rfl (by decide) (HO2.out _) rfl HS2.out rfl H1.out H63.out.1 H63.out.2 ?_; intro v6 w6 ho6 hc6 hnil6 hat6; clear hnil6; have HO6 := Lib.hid ho6; clear ho6; have HC6 := Lib.hid hc6; clear hc6; have HAT6 := Lib.hid hat6; clear hat6))
          refine ⟨⟨k + 1, by omega, by push_cast; rfl, AllI.step hgw hwS HOWN.out HOB.out HLO.out HCH.out HB3.out (by have := HO.out; rw [Bool.or_true] at this; exact this) HC35.out HP5.out HTK.out HO6.out HC6.out HAT6.out⟩, ?_⟩
          simp only [intOf]; omega
      · have hk' : k = l.length := by omega
        subst hk'
        have HI := Lib.hid hI
        clear hI
        go_wp2_with fail
        go_ret
        exact HI.out.out rfl HSPL.out (fun _ => rfl) HGX.out HC2.out

set_option maxRecDepth 100000 in
theorem readNums_any (w : World) {S : Nat → Prop} {v sent : Value} {bs : List UInt8} (h : Bs w S v bs) (hlen : bs.length ≤ 262144) (hg : Gl w sent) :
    Calls Tryz.prog 84 #[v] w (ReadOut (.list i64) w sent bs) := by
  obtain ⟨A, cap, rfl⟩ := h.form
  have H := Lib.hid (allInt_any _ (Pt.single h hg) hlen); clear h hg
  go_enter Tryz.func84, Tryz.ntmps84
  go_wp2_with fail
  refine H.out.mono ?_
  rintro e w1 ht
  obtain ⟨y, bad, rfl, h1, hc, hp, ho⟩ := ht.one (fun _ => rfl) rfl
  obtain ⟨v9, e9, hblk, herr⟩ := hp.parts
  have hcc := hblk.cell
  have HO := Lib.hid ho
  have HE := Lib.hid herr
  clear ho herr hp H ht hblk
  go_wp2_with fail
  go_quiet (fail)
  go_wp2_with fail
  go_ret2
  exact ReadOut.single (fun _ => rfl) hc HE.out HO.out

end Go.Proofs.YtjjgmkfkmckkoabGreatDoor

/- Codec: a signature read. -/
namespace Go.Proofs.YtjjgmkfkmckkoabGreatDoor
open Go.RowKit Go.Maps
attribute [-simp] Tryz.isAgg24 Tryz.typeInfo24 Tryz.isAgg37 Tryz.typeInfo37

theorem info_readSig : (Tryz.prog.info? 37).map (fun i => (i.zero.map (fun z => z.cells.size))) = some (some 33) := by kernel_rfl
theorem size_readSig : (Tryz.prog.info? 37).map (·.size) = some 33 := by kernel_rfl
theorem places_readSig : ((match Tryz.prog.underlying 37 with | some (.struct fields) => fields.toList.mapM (fun f => (Tryz.prog.info? f.type).map fun i => (f.offset, i.size)) | _ => none)) = some [(0, 1), (1, 32)] := by kernel_rfl
set_option maxHeartbeats 4000000 in
set_option maxRecDepth 100000 in
theorem readSig_any (w : World) {S : Nat → Prop} {v sent : Value} {bs : List UInt8} (h : Bs w S v bs) (hlen : bs.length ≤ 262144) (hg : Gl w sent) :
    Calls Tryz.prog 95 #[v] w (ReadOut (.tup (.cons i64 (.cons .dig .nil))) w sent bs) := by
  have hal := (Below.refl w.heap.size w).alloc (Nat.le_refl _) (.cells (([.int .i64 0] ++ List.replicate 32 (.int .u8 0) : List Value)).toArray 37)
  have HS := Lib.hid (psplit_any _ (h.below hal) (by omega) (hg.below hal) 2 (by omega) ⟨#[97, 32, 115, 105, 103, 110, 97, 116, 117, 114, 101]⟩)
  have HN := Lib.hid (Blk.new w 37 (([.int .i64 0] ++ List.replicate 32 (.int .u8 0) : List Value)).toArray)
  have HAL := Lib.hid hal
  obtain ⟨A, cap, rfl⟩ := h.form
  clear h hg hal
  go_enter Tryz.func95, Tryz.ntmps95
  go_wp2_with fail
  refine HS.out.mono ?_
  rintro e w1 ⟨g, rows, bad, rfl, hgw, hb1, hp, hn, hrl, hs⟩
  obtain ⟨r0, r1, rfl⟩ : ∃ r0 r1, rows = [r0, r1] := by
    match rows, hn with
    | [r0, r1], _ => exact ⟨r0, r1, rfl⟩
  have HK := Lib.hid (HN.out.below hb1 (by simp))
  have hgw' : w.heap.size + 1 ≤ g := by simpa using hgw
  have hz1 : w.heap.size + 1 ≤ w1.heap.size := by simpa using hb1.size
  have HB1 := Lib.hid (HAL.out.trans (hb1.mono (by simp)))
  have HSS := Lib.hid hs
  have HRL := Lib.hid (show ∀ x ∈ [r0, r1], x.length ≤ 262144 from fun x hx => Nat.le_trans (hrl x hx) hlen)
  have hE : Pt w1 (fun b => b = g) (w.heap.size + 1) g sent [r0, r1] bad := by simpa using hp
  clear HS HN HAL hgw hb1 hs hn hp hrl hlen
  have hp0 := hE
  clear hE
  go_wp2_with fail
  refine (n_any _ hp0).mono ?_
  rintro e w2 ht
  obtain ⟨y0, b0, rfl, h10, hc0, hp1, ho0⟩ := ht.one (fun _ => rfl) rfl
  have hgl0 := hp0.lt
  have hz2 := Nat.le_trans hz1 hc0.size
  have HO0 := Lib.hid ho0
  have HC0 := Lib.hid hc0
  have H10 := Lib.hid h10
  clear ht ho0 hc0 h10 hp0
  go_wp2_with fail
  refine (pdigest_any _ hp1).mono ?_
  rintro e w3 ht
  obtain ⟨c1, b1, rfl, h11, hl1, hc1, hp2, ho1⟩ := ht.agg (fun _ => rfl)
  have hl1 : c1.length = 32 := hl1
  have hgl1 := hp1.lt
  have hz3 := Nat.le_trans hz2 hc1.size
  have HO1 := Lib.hid ho1
  have HC1 := Lib.hid hc1
  have H11 := Lib.hid h11
  have HL1 := Lib.hid hl1
  clear hl1
  clear ht ho1 hc1 h11 hp1
  have hbu := run_struct (P := Tryz.prog) (vs := [y0, .agg c1.toArray]) (cs := [[y0], c1]) info_readSig places_readSig ⟨cells_one H10.out, rfl, trivial⟩ (by simp [PlaceOk, HL1.out]) (by simp [HL1.out]) #[(0, y0), (1, .agg c1.toArray)] rfl
  have hone : ∀ v ∈ [[y0], c1].flatten, v.oneCell' = true := by
    intro v hv
    simp only [List.flatten_cons, List.flatten_nil, List.mem_append, List.mem_singleton, List.not_mem_nil, or_false] at hv
    rcases hv with rfl | hv
    · exact H10.out
    · exact H11.out v hv
  have HOUT := Lib.hid (show Fs.Out (.cons i64 (.cons .dig .nil)) w3 (fun b => w.heap.size + 1 ≤ b) [r0, r1] [[y0], c1].flatten bad b1 from by
    have := Fs.Out.step HO0.out (Fs.Out.step HO1.out (Fs.Out.nil_ w3 _ _) (Chg.refl _ _) hgl1 hz2) HC1.out hgl0 hz1
    simpa using this)
  have HCA := Lib.hid (show Chg (fun k => k = g) w1 w3 from (HC0.out.trans HC1.out fun b h => .inl h))
  have hcl : [[y0], c1].flatten.length = 33 := by simp [HL1.out]
  obtain ⟨C, hC⟩ : ∃ C, C = [[y0], c1].flatten := ⟨_, rfl⟩
  rw [← hC] at hbu hone hcl HOUT
  have HBU := Lib.hid hbu
  have HONE := Lib.hid hone
  have HCL := Lib.hid hcl
  have HI := Lib.hid (show (Tryz.prog.info? 37).map (·.size) = some C.length from by rw [hcl]; exact size_readSig)
  have HK2 := Lib.hid (HK.out.chg HCA.out (show ¬ w.heap.size = g from by omega))
  clear hbu hone hcl hC HK HO0 HC0 H10 HO1 HC1 H11 HL1
  have HP := Lib.hid hp2
  have hgX := hp2.lt
  clear hp2
  have hbu := HBU.out w3
  have HX := Lib.hid (HP.out.parts)
  go_wp2_with (first | (refine wpList_build_ rfl 37 _ rfl #[(0, y0), (1, .agg c1.toArray)] (by simp [Act.eval]) _ hbu ?_) | (refine wpList_store_blk (cs0 := ([.int .i64 0] ++ List.replicate 32 (.int .u8 0) : List Value)) (cs := C) rfl 37 _ _ rfl (Blk.new w3 _ _) rfl rfl (by rw [HCL.out]; rfl) HI.out HONE.out ?_; intro wx hbx hcx; have HBX := Lib.hid hbx; have HCX := Lib.hid hcx; clear hbx hcx))
  obtain ⟨vy, ey, hblk, herr⟩ := HX.out
  have HCX' := Lib.hid (show Chg (fun _ => False) w3 wx from ((Chg.refl _ w3).alloc _).trans HCX.out fun b h => .inr (Nat.le_of_eq h.symm))
  have HGX := Lib.hid (hblk.chg HCX'.out id)
  have HKX := Lib.hid (HK2.out.chg HCX'.out id)
  have HE := Lib.hid herr
  clear hbu hblk herr HX HBU
  refine wp_region_hoist [0, 1, 2, 3, 4] [5] [6] (fun w' => Blk w' w3.heap.size 37 C.toArray ∧ Blk w' g 133 #[vy, ey])
    (by kernel_rfl) (by kernel_rfl) (by kernel_rfl) (by kernel_rfl) (by kernel_rfl) (by kernel_rfl) ⟨HBX.out.drew, HGX.out.drew⟩ ?_
  (refine HoistK.load (by rfl) (by kernel_rfl) 37 _ rfl w3.heap.size 0 rfl C _ (fun w' hw => hw.1.range) Tryz.underlying37 rfl HI.out ?_; simp only [Act.put, List.setIfInBounds_toArray, List.getElem_toArray, List.getElem_cons_zero, List.set_cons_succ, List.set_cons_zero])
  (refine HoistK.yes (by rfl) (by kernel_rfl) ⟨?_, fun w' hSw => ?_, ?_⟩; rotate_left; (· go_simp; try with_reducible rfl); simp only [Act.put, List.setIfInBounds_toArray, List.getElem_toArray, List.getElem_cons_succ, List.getElem_cons_zero, List.set_cons_succ, List.set_cons_zero])
  (refine HoistK.yes (by rfl) (by kernel_rfl) ⟨?_, fun w' hSw => ?_, ?_⟩; rotate_left; (· go_simp; try with_reducible rfl); simp only [Act.put, List.setIfInBounds_toArray, List.getElem_toArray, List.getElem_cons_succ, List.getElem_cons_zero, List.set_cons_succ, List.set_cons_zero])
  (refine HoistK.yes (by rfl) (by kernel_rfl) ⟨?_, fun w' hSw => ?_, ?_⟩; rotate_left; (· go_simp; try with_reducible rfl); simp only [Act.put, List.setIfInBounds_toArray, List.getElem_toArray, List.getElem_cons_succ, List.getElem_cons_zero, List.set_cons_succ, List.set_cons_zero])
  (refine HoistK.yes (by rfl) (by kernel_rfl) ⟨?_, fun w' hSw => ?_, ?_⟩; rotate_left; (· have hcc := hSw.2.cell; go_simp; try with_reducible rfl); simp only [Act.put, List.setIfInBounds_toArray, List.getElem_toArray, List.getElem_cons_succ, List.getElem_cons_zero, List.set_cons_succ, List.set_cons_zero])
  refine HoistK.nil_ ?_
  simp only [opsAt, List.filterMap_cons, List.filterMap_nil, List.getElem?_toArray, List.getElem?_cons_succ, List.getElem?_cons_zero]
  refine Effects.cons_ fun _ hQ1 => ?_
  go_wp2_with (refine wpList_store_blk (cs0 := ([.int .i64 0] ++ List.replicate 32 (.int .u8 0) : List Value)) (cs := C) rfl 37 _ _ rfl HKX.out.drew rfl rfl (by rw [HCL.out]; rfl) HI.out HONE.out ?_; intro wy hby hcy; have HBY := Lib.hid hby; have HCY := Lib.hid hcy; clear hby hcy)
  refine hQ1 _ _ ⟨HBX.out.drew.chg HCY.out (fun h => by omega), HGX.out.drew.chg HCY.out (fun h => by omega)⟩ (Effects.nil_ fun _ hQ2 => ?_)
  go_wp2
  have hld := run_loadVar_mid (P := Tryz.prog) wy w.heap.size 0 37 C _ HBY.out.range Tryz.underlying37 rfl HI.out
  refine bodyPost_ret (v := .tuple #[.agg C.toArray, ey]) (by simp [results, Tryz.results95, asAddr, hld]) rfl ?_
  have hcf : Chg (fun b => b = w.heap.size) w3 wy := ((HCX'.out.mono fun _ h => h.elim).drew).trans HCY.out fun b h => .inl h
  exact ReadOut.mk (n := 2) HOUT.out HSS.out rfl HE.out (HB1.out.trans (HCA.out.below HB1.out.size fun b h => by omega)) hcf

end Go.Proofs.YtjjgmkfkmckkoabGreatDoor

/- Codec: all[Sig]. -/
namespace Go.Proofs.YtjjgmkfkmckkoabGreatDoor
open Go.RowKit Go.Maps
attribute [-simp] Tryz.isAgg24 Tryz.typeInfo24 Tryz.isAgg37 Tryz.typeInfo37

theorem size_allSig_any : (Tryz.prog.info? 37).map (·.size) = some 33 := by kernel_rfl
theorem sizes_allSig_any : (Tryz.prog.info? 37).map (fun i => (i.zero.map (fun z => z.cells.size), i.size)) = some (some 33, 33) := by kernel_rfl
theorem info_allSig_any : (Tryz.prog.info? 37).map (fun i => (i.zero, i.size, i.bytes)) = some (some (.agg (([.int .i64 0] ++ List.replicate 32 (.int .u8 0) : List Value)).toArray), 33, 40) := by kernel_rfl
set_option maxHeartbeats 8000000 in
set_option maxRecDepth 100000 in
theorem allSig_any (w : World) {X : Nat → Prop} {E g : Nat} {sent : Value} {x : List UInt8} {rows : List (List UInt8)} {bad : Bool} (h : Pt w X E g sent (x :: rows) bad) (hxl : x.length ≤ 262144) :
    Calls Tryz.prog 104 #[.pointer (some ⟨g, 0, none⟩), .func (Fn.func 95) #[] #[]] w (Took (.list tSig) w X E g sent x rows bad) := by
  have hgx := h.2.2.1
  have hgw := h.lt
  have hEw := h.2.2.2.2.1
  have HGX := Lib.hid hgx
  have HX1 := Lib.hid (show ∀ b, X b → b < w.heap.size from h.2.2.2.1)
  have H := Lib.hid (next_any _ h)
  clear h hgx
  go_enter Tryz.func104, Tryz.ntmps104
  go_wp2_with fail
  refine H.out.mono ?_
  rintro e w1 ⟨v1, rfl, hb1, hc1, hp1⟩
  have HSP := Lib.hid (split_any w1 hb1 (by omega))
  have hz1 := hc1.size
  have HP1 := Lib.hid hp1
  have HC1 := Lib.hid hc1
  obtain ⟨A1, c1, rfl⟩ := hb1.form
  clear hb1 hp1 hc1 H
  go_wp2_with fail
  refine HSP.out.mono ?_
  rintro e w2 ⟨hb2, ⟨hno, rfl⟩ | ⟨v2, l, hsp, rfl, hbss⟩⟩
  · have HNO := Lib.hid hno; clear hno
    have hp2 := HP1.out.below hb2
    obtain ⟨⟨sa, rfl⟩, hgl⟩ := hp2.1
    have hgl : w2.cell? ⟨gF, 0, none⟩ = some _ := hgl
    unfold gF at hgl
    have hlx := hp2.2.2.2.1
    have hE2 := hp2.2.2.2.2.1
    have hal := (Below.refl w2.heap.size w2).alloc (Nat.le_refl _) (.cells #[.string ⟨#[97, 32, 108, 105, 115, 116]⟩, .iface 205 (.pointer (some sa))] 117)
    have HBAD := Lib.hid (bad_any _ (hp2.below hal) (Chain.fresh _ ⟨fun h => absurd (hlx _ h) (Nat.lt_irrefl _), hE2⟩))
    have HC2 := Lib.hid (HC1.out.trans (Chg.of_below hb2 fun k => k = g) fun b h => .inl h)
    clear hp2 hlx hal hE2 hb2 HP1 HC1 HSP
    go_wp2_with fail
    refine HBAD.out.mono ?_
    rintro e w3 ⟨rfl, hc3, hp3⟩
    have HP3 := Lib.hid hp3
    have HC3 := Lib.hid hc3
    clear hp3 hc3 HBAD
    go_wp2_with fail
    refine wp_loop_rounds 1 ?_
    rw [rounds_succ]
    go_wp2
    go_ret
    exact ⟨[.slice none 0 0], true, rfl, (HC2.out.alloc _).trans HC3.out fun b h => .inl h, HP3.out, SOut.noList HNO.out rfl⟩
  · have hrl : ∀ y ∈ l, y.length ≤ 262144 := fun y hy => Nat.le_trans (joinP_mem_le hsp y hy) hxl
    have hll : l.length ≤ 32768 := by
      have h1 := splitB_back hsp
      have h2 := joinP_count l
      rw [← h1, joinB_length] at hxl
      omega
    obtain ⟨A2, c2, rfl⟩ := hbss.form
    have HROWS := Lib.hid (((hbss.read fun y hy => by have := hrl y hy; omega).lt_ (T := fun b => w1.heap.size ≤ b) fun b h => h.elim id id).subs (T := fun b => b ≠ g) fun b hb _ => by have := hb.1; omega)
    have HP2 := Lib.hid (HP1.out.below hb2)
    have HC2 := Lib.hid (HC1.out.trans (Chg.of_below hb2 fun k => k = g) fun b h => .inl h)
    have HSPL := Lib.hid hsp
    have HRL := Lib.hid hrl
    have hwS : w.heap.size ≤ w2.heap.size := Nat.le_trans hz1 hb2.size
    clear hbss hsp hrl hb2 HP1 HC1 HSP hxl
    go_wp2_with fail
    go_loopw [7, 28] (fun o i wr => ∃ k : Nat, k ≤ l.length ∧ i = .int .i64 k ∧ AllI 37 33 tSig w w2 X E g sent rows bad l o k wr) (fun _ i _ => l.length - (intOf i).toNat)
    case atStart => exact ⟨0, Nat.zero_le _, rfl, AllI.start HP2.out⟩
    case round =>
      obtain ⟨k, hk, rfl, hI⟩ := hrel
      by_cases hlt : k < l.length
      · obtain ⟨css, bk, hown, hob, hlo, hpt, hch⟩ := hI
        obtain ⟨ba, oa, ua, rfl, hca, hua, _, hSb⟩ := (HROWS.out.chg hch (fun b hb h => hb h)).at_ hlt
        have htk : l.take (k + 1) = l.take k ++ [l[k]] := List.take_succ_eq_append_getElem hlt
        have hyl := HRL.out l[k] (List.getElem_mem hlt)
        obtain ⟨y, hy⟩ : ∃ y, y = l[k] := ⟨_, rfl⟩
        rw [← hy] at hua htk hyl
        have HR := Lib.hid (readSig_any wr hua hyl hpt.1)
        obtain ⟨Ay, cy, rfl⟩ := hua.form
        obtain ⟨Ao, co, rfl⟩ := hown.form
        have HOWN := Lib.hid hown
        have HOB := Lib.hid hob
        have HLO := Lib.hid hlo
        have HPT := Lib.hid hpt
        have HCH := Lib.hid hch
        have HTK := Lib.hid htk
        have H63 := Lib.hid (show k + 1 ≤ maxLen ∧ (k + 1) * 40 ≤ 140737488355328 from ⟨by simp only [maxLen]; omega, by omega⟩)
        have hzr := hch.size
        clear hown hob hlo hpt hch htk hy hua hyl
        go_wp2_with fail
        refine HR.out.mono ?_
        rintro e w3 hro
        obtain ⟨C, err, bd, rfl, h1, hl, hb3, he, ho⟩ := hro.agg (fun _ => rfl)
        have hl : C.length = 33 := hl
        have HL := Lib.hid hl
        have HI := Lib.hid (show (Tryz.prog.info? 37).map (·.size) = some C.length from by rw [hl]; exact size_allSig_any)
        have HI2 := Lib.hid (show (Tryz.prog.info? 37).map (fun i => (i.zero.map (fun z => z.cells.size), i.size)) = some (some C.length, C.length) from by rw [hl]; exact sizes_allSig_any)
        have H1 := Lib.hid h1
        clear h1 hl
        have HB3 := Lib.hid hb3
        have HP3 := Lib.hid (HPT.out.below hb3)
        have HO := Lib.hid (ho.or_ bk)
        clear hro hb3 ho HR
        rcases he with ⟨rfl, rfl⟩ | ⟨rfl, hcn⟩
        · skip
          go_wp2_with (first
            | (refine wpList_store_blk (cs0 := ([.int .i64 0] ++ List.replicate 32 (.int .u8 0) : List Value)) (cs := C) rfl 37 _ _ rfl (Blk.new w3 _ _) rfl rfl (by rw [HL.out]; rfl) HI.out H1.out ?_; intro w4 hb4 hc4; have HB4 := Lib.hid hb4; have HC4 := Lib.hid (show Chg (fun _ => False) w3 w4 from ((Chg.refl _ w3).alloc _).trans hc4 fun b h => .inr (Nat.le_of_eq h.symm)); clear hb4 hc4; have HO2 := Lib.hid (show ∀ ob, Own (w4.alloc ob) 37 33 (.slice Ao k co) k css.flatten from fun ob => own_keep HOWN.out fun b hb => (by have h1 := own_lt HOWN.out hb; have h2 := HOB.out b hb; have h3 := HB3.out.size; exact (Below.heap_alloc w4 ob b (Nat.lt_of_lt_of_le (Nat.lt_of_lt_of_le h1 h3) HC4.out.size)).trans ((HC4.out.block b (Nat.lt_of_lt_of_le h1 h3) id).trans (HB3.out.block b h1)))); have HS2 := Lib.hid (Cs.of_new w4 37 (size := 33) 1 (cs := C) (by rw [HL.out]) (by simp only [maxLen]; decide)))
            | (refine wpList_load_blk' rfl 37 _ rfl HB4.out rfl Tryz.underlying37 rfl HI.out ?_)
            | (refine wpList_row1 rfl 31 37 _ rfl Tryz.underlying31 (.agg C.toArray) rfl C rfl HI2.out (by rw [HL.out]; decide) (by rw [HL.out]; decide) ?_)
            | (at_builtin; refine wpList_app _ rfl _ _ _ rfl Tryz.underlying31 info_allSig_any rfl (by decide) (HO2.out _) rfl HS2.out rfl H1.out H63.out.1 H63.out.2 ?_; intro v6 w6 ho6 hc6 hnil6 hat6; clear hnil6; have HO6 := Lib.hid ho6; clear ho6; have HC6 := Lib.hid hc6; clear hc6; have HAT6 := Lib.hid hat6; clear hat6))
          refine ⟨⟨k + 1, by omega, by push_cast; rfl, AllI.step hgw hwS HOWN.out HOB.out HLO.out HCH.out HB3.out (by have := HO.out; rw [Bool.or_false] at this; exact this) (HC4.out.mono (M' := fun b => b = g) fun _ h => h.elim) (HP3.out.chg HC4.out fun b h => h.elim) HTK.out HO6.out HC6.out HAT6.out⟩, ?_⟩
          simp only [intOf]; omega
        · skip
          obtain ⟨gw, rfl⟩ := hcn.form
          have HCN := Lib.hid hcn; clear hcn
          go_wp2_with (refine wpList_store_blk (cs0 := ([.int .i64 0] ++ List.replicate 32 (.int .u8 0) : List Value)) (cs := C) rfl 37 _ _ rfl (Blk.new w3 _ _) rfl rfl (by rw [HL.out]; rfl) HI.out H1.out ?_; intro w4 hb4 hc4; have HB4 := Lib.hid hb4; have HC4 := Lib.hid (show Chg (fun _ => False) w3 w4 from ((Chg.refl _ w3).alloc _).trans hc4 fun b h => .inr (Nat.le_of_eq h.symm)); clear hb4 hc4)
          have hp4 := (HP3.out.chg HC4.out fun b h => h.elim)
          have hlx := hp4.2.2.2.1
          have hE4 := hp4.2.2.2.2.1
          have hz4 := HC4.out.size
          have hz3 := HB3.out.size
          have hal := (Below.refl w4.heap.size w4).alloc (Nat.le_refl _) (.cells #[.string ⟨#[105, 110, 32, 97, 32, 108, 105, 115, 116]⟩, .iface 113 (.pointer (some ⟨gw, 0, none⟩))] 117)
          have hcn4 := (HCN.out.to (w' := w4) (S' := fun b => ¬ (X b ∨ (Value.slice Ao k co).ownBlock = some b) ∧ E ≤ b) (fun b hb hlt => ⟨Nat.lt_of_lt_of_le hlt HC4.out.size, HC4.out.block b hlt id⟩) fun b hb hlt => ⟨fun h => h.elim (fun h => by have := HX1.out b h; omega) fun h => by have := own_lt HOWN.out h; omega, by omega⟩)
          have HBAD := Lib.hid (bad_any _ (hp4.below hal) (hcn4.freshMore _ ⟨fun h => absurd (hlx _ h) (Nat.lt_irrefl _), hE4⟩))
          clear hp4 hlx hal hcn4 hE4
          refine HBAD.out.mono ?_
          rintro e w5 ⟨rfl, hc5, hp5⟩
          have HP5 := Lib.hid hp5
          have HC35 := Lib.hid (show Chg (fun b => b = g) w3 w5 from ((HC4.out.mono (M' := fun b => b = g) fun _ h => h.elim).alloc _).trans hc5 fun b h => .inl h)
          have HB5 := Lib.hid ((HB4.out.alloc _).chg hc5 (fun h => by omega))
          clear hc5 hp5 HBAD
          have HO2 := Lib.hid (show ∀ ob, Own (w5.alloc ob) 37 33 (.slice Ao k co) k css.flatten from fun ob => own_keep HOWN.out fun b hb => (by have h1 := own_lt HOWN.out hb; have h2 := HOB.out b hb; have h3 := HB3.out.size; exact (Below.heap_alloc w5 ob b (Nat.lt_of_lt_of_le (Nat.lt_of_lt_of_le h1 h3) HC35.out.size)).trans ((HC35.out.block b (Nat.lt_of_lt_of_le h1 h3) (fun e => by omega)).trans (HB3.out.block b h1))))
          have HS2 := Lib.hid (Cs.of_new w5 37 (size := 33) 1 (cs := C) (by rw [HL.out]) (by simp only [maxLen]; decide))
          go_wp2_with (first
            | (refine wpList_load_blk' rfl 37 _ rfl HB5.out rfl Tryz.underlying37 rfl HI.out ?_)
            | (refine wpList_row1 rfl 31 37 _ rfl Tryz.underlying31 (.agg C.toArray) rfl C rfl HI2.out (by rw [HL.out]; decide) (by rw [HL.out]; decide) ?_)
            | (at_builtin; refine wpList_app _ rfl _ _ _ rfl Tryz.underlying31 info_allSig_any rfl (by decide) (HO2.out _) rfl HS2.out rfl H1.out H63.out.1 H63.out.2 ?_; intro v6 w6 ho6 hc6 hnil6 hat6; clear hnil6; have HO6 := Lib.hid ho6; clear ho6; have HC6 := Lib.hid hc6; clear hc6; have HAT6 := Lib.hid hat6; clear hat6))
          refine ⟨⟨k + 1, by omega, by push_cast; rfl, AllI.step hgw hwS HOWN.out HOB.out HLO.out HCH.out HB3.out (by have := HO.out; rw [Bool.or_true] at this; exact this) HC35.out HP5.out HTK.out HO6.out HC6.out HAT6.out⟩, ?_⟩
          simp only [intOf]; omega
      · have hk' : k = l.length := by omega
        subst hk'
        have HI := Lib.hid hI
        clear hI
        go_wp2_with fail
        go_ret
        exact HI.out.out rfl HSPL.out (fun _ => rfl) HGX.out HC2.out

end Go.Proofs.YtjjgmkfkmckkoabGreatDoor

/- Codec: a certificate read. -/
namespace Go.Proofs.YtjjgmkfkmckkoabGreatDoor
open Go.RowKit Go.Maps
attribute [-simp] Tryz.isAgg24 Tryz.typeInfo24 Tryz.isAgg33 Tryz.typeInfo33

theorem info_readQC : (Tryz.prog.info? 33).map (fun i => (i.zero.map (fun z => z.cells.size))) = some (some 37) := by kernel_rfl
theorem size_readQC : (Tryz.prog.info? 33).map (·.size) = some 37 := by kernel_rfl
theorem places_readQC : ((match Tryz.prog.underlying 33 with | some (.struct fields) => fields.toList.mapM (fun f => (Tryz.prog.info? f.type).map fun i => (f.offset, i.size)) | _ => none)) = some [(0, 1), (1, 1), (2, 1), (3, 32), (35, 1), (36, 1)] := by kernel_rfl
set_option maxHeartbeats 4000000 in
set_option maxRecDepth 100000 in
theorem readQC_any (w : World) {S : Nat → Prop} {v sent : Value} {bs : List UInt8} (h : Bs w S v bs) (hlen : bs.length ≤ 262144) (hg : Gl w sent) :
    Calls Tryz.prog 93 #[v] w (ReadOut (.tup (.cons i64 (.cons i64 (.cons i64 (.cons .dig (.cons (.list i64) (.cons (.list tSig) .nil))))))) w sent bs) := by
  have hal := (Below.refl w.heap.size w).alloc (Nat.le_refl _) (.cells (([.int .i64 0, .int .i64 0, .int .i64 0] ++ List.replicate 32 (.int .u8 0) ++ [.slice none 0 0, .slice none 0 0] : List Value)).toArray 33)
  have HS := Lib.hid (psplit_any _ (h.below hal) (by omega) (hg.below hal) 6 (by omega) ⟨#[97, 32, 99, 101, 114, 116, 105, 102, 105, 99, 97, 116, 101]⟩)
  have HN := Lib.hid (Blk.new w 33 (([.int .i64 0, .int .i64 0, .int .i64 0] ++ List.replicate 32 (.int .u8 0) ++ [.slice none 0 0, .slice none 0 0] : List Value)).toArray)
  have HAL := Lib.hid hal
  obtain ⟨A, cap, rfl⟩ := h.form
  clear h hg hal
  go_enter Tryz.func93, Tryz.ntmps93
  go_wp2_with fail
  refine HS.out.mono ?_
  rintro e w1 ⟨g, rows, bad, rfl, hgw, hb1, hp, hn, hrl, hs⟩
  obtain ⟨r0, r1, r2, r3, r4, r5, rfl⟩ : ∃ r0 r1 r2 r3 r4 r5, rows = [r0, r1, r2, r3, r4, r5] := by
    match rows, hn with
    | [r0, r1, r2, r3, r4, r5], _ => exact ⟨r0, r1, r2, r3, r4, r5, rfl⟩
  have HK := Lib.hid (HN.out.below hb1 (by simp))
  have hgw' : w.heap.size + 1 ≤ g := by simpa using hgw
  have hz1 : w.heap.size + 1 ≤ w1.heap.size := by simpa using hb1.size
  have HB1 := Lib.hid (HAL.out.trans (hb1.mono (by simp)))
  have HSS := Lib.hid hs
  have HRL := Lib.hid (show ∀ x ∈ [r0, r1, r2, r3, r4, r5], x.length ≤ 262144 from fun x hx => Nat.le_trans (hrl x hx) hlen)
  have hE : Pt w1 (fun b => b = g) (w.heap.size + 1) g sent [r0, r1, r2, r3, r4, r5] bad := by simpa using hp
  clear HS HN HAL hgw hb1 hs hn hp hrl hlen
  have hp0 := hE
  clear hE
  go_wp2_with fail
  refine (int_any _ hp0).mono ?_
  rintro e w2 ht
  obtain ⟨y0, b0, rfl, h10, hc0, hp1, ho0⟩ := ht.one (fun _ => rfl) rfl
  have hgl0 := hp0.lt
  have hz2 := Nat.le_trans hz1 hc0.size
  have HO0 := Lib.hid ho0
  have HC0 := Lib.hid hc0
  have H10 := Lib.hid h10
  clear ht ho0 hc0 h10 hp0
  go_wp2_with fail
  refine (int_any _ hp1).mono ?_
  rintro e w3 ht
  obtain ⟨y1, b1, rfl, h11, hc1, hp2, ho1⟩ := ht.one (fun _ => rfl) rfl
  have hgl1 := hp1.lt
  have hz3 := Nat.le_trans hz2 hc1.size
  have HO1 := Lib.hid ho1
  have HC1 := Lib.hid hc1
  have H11 := Lib.hid h11
  clear ht ho1 hc1 h11 hp1
  go_wp2_with fail
  refine (n_any _ hp2).mono ?_
  rintro e w4 ht
  obtain ⟨y2, b2, rfl, h12, hc2, hp3, ho2⟩ := ht.one (fun _ => rfl) rfl
  have hgl2 := hp2.lt
  have hz4 := Nat.le_trans hz3 hc2.size
  have HO2 := Lib.hid ho2
  have HC2 := Lib.hid hc2
  have H12 := Lib.hid h12
  clear ht ho2 hc2 h12 hp2
  go_wp2_with fail
  refine (pdigest_any _ hp3).mono ?_
  rintro e w5 ht
  obtain ⟨c3, b3, rfl, h13, hl3, hc3, hp4, ho3⟩ := ht.agg (fun _ => rfl)
  have hl3 : c3.length = 32 := hl3
  have hgl3 := hp3.lt
  have hz5 := Nat.le_trans hz4 hc3.size
  have HO3 := Lib.hid ho3
  have HC3 := Lib.hid hc3
  have H13 := Lib.hid h13
  have HL3 := Lib.hid hl3
  clear hl3
  clear ht ho3 hc3 h13 hp3
  go_wp2_with fail
  refine (allInt_any _ hp4 (HRL.out _ (by simp))).mono ?_
  rintro e w6 ht
  obtain ⟨y4, b4, rfl, h14, hc4, hp5, ho4⟩ := ht.one (fun _ => rfl) rfl
  have hgl4 := hp4.lt
  have hz6 := Nat.le_trans hz5 hc4.size
  have HO4 := Lib.hid ho4
  have HC4 := Lib.hid hc4
  have H14 := Lib.hid h14
  clear ht ho4 hc4 h14 hp4
  go_wp2_with fail
  refine (allSig_any _ hp5 (HRL.out _ (by simp))).mono ?_
  rintro e w7 ht
  obtain ⟨y5, b5, rfl, h15, hc5, hp6, ho5⟩ := ht.one (fun _ => rfl) rfl
  have hgl5 := hp5.lt
  have hz7 := Nat.le_trans hz6 hc5.size
  have HO5 := Lib.hid ho5
  have HC5 := Lib.hid hc5
  have H15 := Lib.hid h15
  clear ht ho5 hc5 h15 hp5
  have hbu := run_struct (P := Tryz.prog) (vs := [y0, y1, y2, .agg c3.toArray, y4, y5]) (cs := [[y0], [y1], [y2], c3, [y4], [y5]]) info_readQC places_readQC ⟨cells_one H10.out, cells_one H11.out, cells_one H12.out, rfl, cells_one H14.out, cells_one H15.out, trivial⟩ (by simp [PlaceOk, HL3.out]) (by simp [HL3.out]) #[(0, y0), (1, y1), (2, y2), (3, .agg c3.toArray), (4, y4), (5, y5)] rfl
  have hone : ∀ v ∈ [[y0], [y1], [y2], c3, [y4], [y5]].flatten, v.oneCell' = true := by
    intro v hv
    simp only [List.flatten_cons, List.flatten_nil, List.mem_append, List.mem_singleton, List.not_mem_nil, or_false] at hv
    rcases hv with rfl | rfl | rfl | hv | rfl | rfl
    · exact H10.out
    · exact H11.out
    · exact H12.out
    · exact H13.out v hv
    · exact H14.out
    · exact H15.out
  have HOUT := Lib.hid (show Fs.Out (.cons i64 (.cons i64 (.cons i64 (.cons .dig (.cons (.list i64) (.cons (.list tSig) .nil)))))) w7 (fun b => w.heap.size + 1 ≤ b) [r0, r1, r2, r3, r4, r5] [[y0], [y1], [y2], c3, [y4], [y5]].flatten bad b5 from by
    have := Fs.Out.step HO0.out (Fs.Out.step HO1.out (Fs.Out.step HO2.out (Fs.Out.step HO3.out (Fs.Out.step HO4.out (Fs.Out.step HO5.out (Fs.Out.nil_ w7 _ _) (Chg.refl _ _) hgl5 hz6) HC5.out hgl4 hz5) (HC4.out.trans HC5.out fun b h => .inl h) hgl3 hz4) ((HC3.out.trans HC4.out fun b h => .inl h).trans HC5.out fun b h => .inl h) hgl2 hz3) (((HC2.out.trans HC3.out fun b h => .inl h).trans HC4.out fun b h => .inl h).trans HC5.out fun b h => .inl h) hgl1 hz2) ((((HC1.out.trans HC2.out fun b h => .inl h).trans HC3.out fun b h => .inl h).trans HC4.out fun b h => .inl h).trans HC5.out fun b h => .inl h) hgl0 hz1
    simpa using this)
  have HCA := Lib.hid (show Chg (fun k => k = g) w1 w7 from (((((HC0.out.trans HC1.out fun b h => .inl h).trans HC2.out fun b h => .inl h).trans HC3.out fun b h => .inl h).trans HC4.out fun b h => .inl h).trans HC5.out fun b h => .inl h))
  have hcl : [[y0], [y1], [y2], c3, [y4], [y5]].flatten.length = 37 := by simp [HL3.out]
  obtain ⟨C, hC⟩ : ∃ C, C = [[y0], [y1], [y2], c3, [y4], [y5]].flatten := ⟨_, rfl⟩
  rw [← hC] at hbu hone hcl HOUT
  have HBU := Lib.hid hbu
  have HONE := Lib.hid hone
  have HCL := Lib.hid hcl
  have HI := Lib.hid (show (Tryz.prog.info? 33).map (·.size) = some C.length from by rw [hcl]; exact size_readQC)
  have HK2 := Lib.hid (HK.out.chg HCA.out (show ¬ w.heap.size = g from by omega))
  clear hbu hone hcl hC HK HO0 HC0 H10 HO1 HC1 H11 HO2 HC2 H12 HO3 HC3 H13 HO4 HC4 H14 HO5 HC5 H15 HL3
  have HP := Lib.hid hp6
  have hgX := hp6.lt
  clear hp6
  have hbu := HBU.out w7
  have HX := Lib.hid (HP.out.parts)
  go_wp2_with (first | (refine wpList_build_ rfl 33 _ rfl #[(0, y0), (1, y1), (2, y2), (3, .agg c3.toArray), (4, y4), (5, y5)] (by simp [Act.eval]) _ hbu ?_) | (refine wpList_store_blk (cs0 := ([.int .i64 0, .int .i64 0, .int .i64 0] ++ List.replicate 32 (.int .u8 0) ++ [.slice none 0 0, .slice none 0 0] : List Value)) (cs := C) rfl 33 _ _ rfl (Blk.new w7 _ _) rfl rfl (by rw [HCL.out]; rfl) HI.out HONE.out ?_; intro wx hbx hcx; have HBX := Lib.hid hbx; have HCX := Lib.hid hcx; clear hbx hcx))
  obtain ⟨vy, ey, hblk, herr⟩ := HX.out
  have HCX' := Lib.hid (show Chg (fun _ => False) w7 wx from ((Chg.refl _ w7).alloc _).trans HCX.out fun b h => .inr (Nat.le_of_eq h.symm))
  have HGX := Lib.hid (hblk.chg HCX'.out id)
  have HKX := Lib.hid (HK2.out.chg HCX'.out id)
  have HE := Lib.hid herr
  clear hbu hblk herr HX HBU
  refine wp_region_hoist [0, 1, 2, 3, 4] [5] [6] (fun w' => Blk w' w7.heap.size 33 C.toArray ∧ Blk w' g 133 #[vy, ey])
    (by kernel_rfl) (by kernel_rfl) (by kernel_rfl) (by kernel_rfl) (by kernel_rfl) (by kernel_rfl) ⟨HBX.out.drew, HGX.out.drew⟩ ?_
  (refine HoistK.load (by rfl) (by kernel_rfl) 33 _ rfl w7.heap.size 0 rfl C _ (fun w' hw => hw.1.range) Tryz.underlying33 rfl HI.out ?_; simp only [Act.put, List.setIfInBounds_toArray, List.getElem_toArray, List.getElem_cons_zero, List.set_cons_succ, List.set_cons_zero])
  (refine HoistK.yes (by rfl) (by kernel_rfl) ⟨?_, fun w' hSw => ?_, ?_⟩; rotate_left; (· go_simp; try with_reducible rfl); simp only [Act.put, List.setIfInBounds_toArray, List.getElem_toArray, List.getElem_cons_succ, List.getElem_cons_zero, List.set_cons_succ, List.set_cons_zero])
  (refine HoistK.yes (by rfl) (by kernel_rfl) ⟨?_, fun w' hSw => ?_, ?_⟩; rotate_left; (· go_simp; try with_reducible rfl); simp only [Act.put, List.setIfInBounds_toArray, List.getElem_toArray, List.getElem_cons_succ, List.getElem_cons_zero, List.set_cons_succ, List.set_cons_zero])
  (refine HoistK.yes (by rfl) (by kernel_rfl) ⟨?_, fun w' hSw => ?_, ?_⟩; rotate_left; (· go_simp; try with_reducible rfl); simp only [Act.put, List.setIfInBounds_toArray, List.getElem_toArray, List.getElem_cons_succ, List.getElem_cons_zero, List.set_cons_succ, List.set_cons_zero])
  (refine HoistK.yes (by rfl) (by kernel_rfl) ⟨?_, fun w' hSw => ?_, ?_⟩; rotate_left; (· have hcc := hSw.2.cell; go_simp; try with_reducible rfl); simp only [Act.put, List.setIfInBounds_toArray, List.getElem_toArray, List.getElem_cons_succ, List.getElem_cons_zero, List.set_cons_succ, List.set_cons_zero])
  refine HoistK.nil_ ?_
  simp only [opsAt, List.filterMap_cons, List.filterMap_nil, List.getElem?_toArray, List.getElem?_cons_succ, List.getElem?_cons_zero]
  refine Effects.cons_ fun _ hQ1 => ?_
  go_wp2_with (refine wpList_store_blk (cs0 := ([.int .i64 0, .int .i64 0, .int .i64 0] ++ List.replicate 32 (.int .u8 0) ++ [.slice none 0 0, .slice none 0 0] : List Value)) (cs := C) rfl 33 _ _ rfl HKX.out.drew rfl rfl (by rw [HCL.out]; rfl) HI.out HONE.out ?_; intro wy hby hcy; have HBY := Lib.hid hby; have HCY := Lib.hid hcy; clear hby hcy)
  refine hQ1 _ _ ⟨HBX.out.drew.chg HCY.out (fun h => by omega), HGX.out.drew.chg HCY.out (fun h => by omega)⟩ (Effects.nil_ fun _ hQ2 => ?_)
  go_wp2
  have hld := run_loadVar_mid (P := Tryz.prog) wy w.heap.size 0 33 C _ HBY.out.range Tryz.underlying33 rfl HI.out
  refine bodyPost_ret (v := .tuple #[.agg C.toArray, ey]) (by simp [results, Tryz.results93, asAddr, hld]) rfl ?_
  have hcf : Chg (fun b => b = w.heap.size) w7 wy := ((HCX'.out.mono fun _ h => h.elim).drew).trans HCY.out fun b h => .inl h
  exact ReadOut.mk (n := 6) HOUT.out HSS.out rfl HE.out (HB1.out.trans (HCA.out.below HB1.out.size fun b h => by omega)) hcf

end Go.Proofs.YtjjgmkfkmckkoabGreatDoor

/- Codec: one[QC]. -/
namespace Go.Proofs.YtjjgmkfkmckkoabGreatDoor
open Go.RowKit Go.Maps
attribute [-simp] Tryz.isAgg24 Tryz.typeInfo24 Tryz.isAgg33 Tryz.typeInfo33

theorem size_oneQC_any : (Tryz.prog.info? 33).map (·.size) = some 37 := by kernel_rfl
set_option maxHeartbeats 4000000 in
set_option maxRecDepth 100000 in
theorem oneQC_any (w : World) {X : Nat → Prop} {E g : Nat} {sent : Value} {x : List UInt8} {rows : List (List UInt8)} {bad : Bool} (h : Pt w X E g sent (x :: rows) bad) (hxl : x.length ≤ 262144) :
    Calls Tryz.prog 92 #[.pointer (some ⟨g, 0, none⟩), .func (Fn.func 93) #[] #[]] w (Took tQC w X E g sent x rows bad) := by
  have hgx := h.2.2.1
  have hgw := h.lt
  have hEw := h.2.2.2.2.1
  have hp0 := h.more ((Below.refl w.heap.size w).alloc (Nat.le_refl _) (.cells (([.int .i64 0, .int .i64 0, .int .i64 0] ++ List.replicate 32 (.int .u8 0) ++ [.slice none 0 0, .slice none 0 0] : List Value)).toArray 33)) (fun b => b = w.heap.size) (fun b hb => ⟨Nat.le_of_eq hb.symm, by rw [hb]; simp⟩)
  have H := Lib.hid (next_any _ hp0)
  have HN := Lib.hid (Blk.new w 33 (([.int .i64 0, .int .i64 0, .int .i64 0] ++ List.replicate 32 (.int .u8 0) ++ [.slice none 0 0, .slice none 0 0] : List Value)).toArray)
  have HGX := Lib.hid hgx
  have HX1 := Lib.hid (show ∀ b, X b → b < w.heap.size from h.2.2.2.1)
  clear h hp0 hgx
  go_enter Tryz.func92, Tryz.ntmps92
  go_wp2_with fail
  refine H.out.mono ?_
  rintro e w1 ⟨v1, rfl, hb1, hc1, hp1⟩
  have HK := Lib.hid (HN.out.chg hc1 (fun h => by omega))
  have hz1 : w.heap.size + 1 ≤ w1.heap.size := by simpa using hc1.size
  have HR := Lib.hid (readQC_any w1 hb1 hxl hp1.1)
  have HC1 := Lib.hid (show Chg (fun k => k = g) w w1 from ((Chg.refl (fun k => k = g) w).alloc _).trans hc1 fun b h => .inl h)
  have HP1 := Lib.hid hp1
  obtain ⟨A1, c1, rfl⟩ := hb1.form
  clear hb1 hp1 hc1 H HN hxl
  go_wp2_with fail
  refine HR.out.mono ?_
  rintro e w2 hro
  obtain ⟨C, err, bd, rfl, h1, hl, hb2, he, ho⟩ := hro.agg (fun _ => rfl)
  have hl : C.length = 37 := hl
  have hz2 := Nat.le_trans hz1 hb2.size
  have HI := Lib.hid (show (Tryz.prog.info? 33).map (·.size) = some C.length from by rw [hl]; exact size_oneQC_any)
  have H1 := Lib.hid h1
  have HL := Lib.hid hl
  have HP2 := Lib.hid (HP1.out.below hb2)
  have HK2 := Lib.hid (HK.out.below hb2 HK.out.lt)
  have HC2 := Lib.hid (HC1.out.trans (Chg.of_below hb2 fun k => k = g) fun b h => .inl h)
  have HO := Lib.hid (ho.or_ bad)
  clear hro h1 hl hb2 ho HR HP1 HK HC1
  rcases he with ⟨rfl, rfl⟩ | ⟨rfl, hch⟩
  · go_wp2_with (first
      | (refine wpList_store_blk (cs0 := ([.int .i64 0, .int .i64 0, .int .i64 0] ++ List.replicate 32 (.int .u8 0) ++ [.slice none 0 0, .slice none 0 0] : List Value)) (cs := C) rfl 33 _ _ rfl (Blk.new w2 _ _) rfl rfl (by rw [HL.out]; rfl) HI.out H1.out ?_; intro w3 hb3 hc3; have HB3 := Lib.hid hb3
         have HC3 := Lib.hid (show Chg (fun _ => False) w2 w3 from ((Chg.refl _ w2).alloc _).trans hc3 fun b h => .inr (Nat.le_of_eq h.symm)); clear hb3 hc3
         have HK3 := Lib.hid (HK2.out.chg HC3.out id))
      | (refine wpList_load_blk' rfl 33 _ rfl HB3.out rfl Tryz.underlying33 rfl HI.out ?_)
      | (refine wpList_store_blk (cs0 := ([.int .i64 0, .int .i64 0, .int .i64 0] ++ List.replicate 32 (.int .u8 0) ++ [.slice none 0 0, .slice none 0 0] : List Value)) (cs := C) rfl 33 _ _ rfl HK3.out rfl rfl (by rw [HL.out]; rfl) HI.out H1.out ?_; intro w9 hb9 hc9; have HB9 := Lib.hid hb9; have HC9 := Lib.hid hc9; clear hb9 hc9))
    have hld := run_loadVar_mid (P := Tryz.prog) w9 w.heap.size 0 33 C _ HB9.out.range Tryz.underlying33 rfl HI.out
    refine bodyPost_ret (v := .agg C.toArray) (by simp [results, Tryz.results92, asAddr, hld, Act.put]) rfl ?_
    have hp9 := (HP2.out.chg HC3.out fun b h => h.elim).chg HC9.out fun b h => ⟨.inr h, fun e => by omega⟩
    have ho9 := HO.out.to (w' := w9) (S' := fun b => w.heap.size ≤ b) (fun b hb hlt => ⟨Nat.lt_of_lt_of_le hlt (Nat.le_trans HC3.out.size HC9.out.size), (HC9.out.block b (Nat.lt_of_lt_of_le hlt HC3.out.size) (fun e => by omega)).trans (HC3.out.block b hlt id)⟩) fun b hb _ => by omega
    rw [Bool.or_false] at ho9
    exact ⟨C, bad, rfl, (HC2.out.trans (HC3.out.mono (M' := fun k => k = g) fun _ h => h.elim) fun b h => .inl h).trans HC9.out fun b h => .inr (Nat.le_of_eq h.symm), hp9.less (fun b h => .inl h) HGX.out, ho9⟩
  · obtain ⟨gw, rfl⟩ := hch.form
    have HCH := Lib.hid hch; clear hch
    go_wp2_with (first
      | (refine wpList_store_blk (cs0 := ([.int .i64 0, .int .i64 0, .int .i64 0] ++ List.replicate 32 (.int .u8 0) ++ [.slice none 0 0, .slice none 0 0] : List Value)) (cs := C) rfl 33 _ _ rfl (Blk.new w2 _ _) rfl rfl (by rw [HL.out]; rfl) HI.out H1.out ?_; intro w3 hb3 hc3; have HB3 := Lib.hid hb3
         have HC3 := Lib.hid (show Chg (fun _ => False) w2 w3 from ((Chg.refl _ w2).alloc _).trans hc3 fun b h => .inr (Nat.le_of_eq h.symm)); clear hb3 hc3
         have HK3 := Lib.hid (HK2.out.chg HC3.out id)))
    have hp3 := (HP2.out.chg HC3.out fun b h => h.elim)
    have hlx := hp3.2.2.2.1
    have hz3 := Nat.le_trans hz2 HC3.out.size
    have hal := (Below.refl w3.heap.size w3).alloc (Nat.le_refl _) (.cells #[.string ⟨#[119, 105, 116, 104, 105, 110]⟩, .iface 113 (.pointer (some ⟨gw, 0, none⟩))] 117)
    have hch3 := (HCH.out.to (w' := w3) (S' := fun b => ¬ (X b ∨ b = w.heap.size) ∧ E ≤ b) (fun b hb hlt => ⟨Nat.lt_of_lt_of_le hlt HC3.out.size, HC3.out.block b hlt id⟩) fun b hb hlt => ⟨fun h => h.elim (fun h => by have := HP2.out.2.2.2.1 b (.inl h); have := HX1.out b h; omega) fun h => by omega, by omega⟩)
    have HBAD := Lib.hid (bad_any _ (hp3.below hal) (hch3.freshMore _ ⟨fun h => absurd (hlx _ h) (Nat.lt_irrefl _), by omega⟩))
    clear hp3 hlx hal hch3
    refine HBAD.out.mono ?_
    rintro e w4 ⟨rfl, hc4, hp4⟩
    have HC4 := Lib.hid hc4
    have HP4 := Lib.hid hp4
    have hgg : ¬ w.heap.size = g := by omega
    have HK4 := Lib.hid ((HK3.out.alloc _).chg hc4 (fun h => hgg h))
    have HB4 := Lib.hid ((HB3.out.alloc _).chg hc4 (fun h => by omega))
    clear hc4 hp4 HBAD
    go_wp2_with (first
      | (refine wpList_load_blk' rfl 33 _ rfl HB4.out rfl Tryz.underlying33 rfl HI.out ?_)
      | (refine wpList_store_blk (cs0 := ([.int .i64 0, .int .i64 0, .int .i64 0] ++ List.replicate 32 (.int .u8 0) ++ [.slice none 0 0, .slice none 0 0] : List Value)) (cs := C) rfl 33 _ _ rfl HK4.out rfl rfl (by rw [HL.out]; rfl) HI.out H1.out ?_; intro w9 hb9 hc9; have HB9 := Lib.hid hb9; have HC9 := Lib.hid hc9; clear hb9 hc9))
    have hld := run_loadVar_mid (P := Tryz.prog) w9 w.heap.size 0 33 C _ HB9.out.range Tryz.underlying33 rfl HI.out
    refine bodyPost_ret (v := .agg C.toArray) (by simp [results, Tryz.results92, asAddr, hld, Act.put]) rfl ?_
    have hc34 : Chg (fun k => k = g) w2 w4 := ((HC3.out.mono (M' := fun k => k = g) fun _ h => h.elim).alloc _).trans HC4.out fun b h => .inl h
    have hp9 := HP4.out.chg HC9.out fun b h => ⟨.inr h, fun e => by omega⟩
    have ho9 := HO.out.to (w' := w9) (S' := fun b => w.heap.size ≤ b) (fun b hb hlt => ⟨Nat.lt_of_lt_of_le hlt (Nat.le_trans hc34.size HC9.out.size), (HC9.out.block b (Nat.lt_of_lt_of_le hlt hc34.size) (fun e => by omega)).trans (hc34.block b hlt (fun e => by omega))⟩) fun b hb _ => by omega
    rw [Bool.or_true] at ho9
    exact ⟨C, true, rfl, (HC2.out.trans hc34 fun b h => .inl h).trans HC9.out fun b h => .inr (Nat.le_of_eq h.symm), hp9.less (fun b h => .inl h) HGX.out, ho9⟩

end Go.Proofs.YtjjgmkfkmckkoabGreatDoor

/- Codec: a commit read. -/
namespace Go.Proofs.YtjjgmkfkmckkoabGreatDoor
open Go.RowKit Go.Maps
attribute [-simp] Tryz.isAgg24 Tryz.typeInfo24 Tryz.isAgg56 Tryz.typeInfo56

theorem info_readCommit : (Tryz.prog.info? 56).map (fun i => (i.zero.map (fun z => z.cells.size))) = some (some 38) := by kernel_rfl
theorem size_readCommit : (Tryz.prog.info? 56).map (·.size) = some 38 := by kernel_rfl
theorem places_readCommit : ((match Tryz.prog.underlying 56 with | some (.struct fields) => fields.toList.mapM (fun f => (Tryz.prog.info? f.type).map fun i => (f.offset, i.size)) | _ => none)) = some [(0, 1), (1, 37)] := by kernel_rfl
set_option maxHeartbeats 4000000 in
set_option maxRecDepth 100000 in
theorem readCommit_any (w : World) {S : Nat → Prop} {v sent : Value} {bs : List UInt8} (h : Bs w S v bs) (hlen : bs.length ≤ 262144) (hg : Gl w sent) :
    Calls Tryz.prog 73 #[v] w (ReadOut (.tup (.cons (.list tHeader) (.cons tQC .nil))) w sent bs) := by
  have hal := (Below.refl w.heap.size w).alloc (Nat.le_refl _) (.cells (([.slice none 0 0] ++ ([.int .i64 0, .int .i64 0, .int .i64 0] ++ List.replicate 32 (.int .u8 0) ++ [.slice none 0 0, .slice none 0 0]) : List Value)).toArray 56)
  have HS := Lib.hid (psplit_any _ (h.below hal) (by omega) (hg.below hal) 2 (by omega) ⟨#[97, 32, 99, 111, 109, 109, 105, 116]⟩)
  have HN := Lib.hid (Blk.new w 56 (([.slice none 0 0] ++ ([.int .i64 0, .int .i64 0, .int .i64 0] ++ List.replicate 32 (.int .u8 0) ++ [.slice none 0 0, .slice none 0 0]) : List Value)).toArray)
  have HAL := Lib.hid hal
  obtain ⟨A, cap, rfl⟩ := h.form
  clear h hg hal
  go_enter Tryz.func73, Tryz.ntmps73
  go_wp2_with fail
  refine HS.out.mono ?_
  rintro e w1 ⟨g, rows, bad, rfl, hgw, hb1, hp, hn, hrl, hs⟩
  obtain ⟨r0, r1, rfl⟩ : ∃ r0 r1, rows = [r0, r1] := by
    match rows, hn with
    | [r0, r1], _ => exact ⟨r0, r1, rfl⟩
  have HK := Lib.hid (HN.out.below hb1 (by simp))
  have hgw' : w.heap.size + 1 ≤ g := by simpa using hgw
  have hz1 : w.heap.size + 1 ≤ w1.heap.size := by simpa using hb1.size
  have HB1 := Lib.hid (HAL.out.trans (hb1.mono (by simp)))
  have HSS := Lib.hid hs
  have HRL := Lib.hid (show ∀ x ∈ [r0, r1], x.length ≤ 262144 from fun x hx => Nat.le_trans (hrl x hx) hlen)
  have hE : Pt w1 (fun b => b = g) (w.heap.size + 1) g sent [r0, r1] bad := by simpa using hp
  clear HS HN HAL hgw hb1 hs hn hp hrl hlen
  have hp0 := hE
  clear hE
  go_wp2_with fail
  refine (allHeader_any _ hp0 (HRL.out _ (by simp))).mono ?_
  rintro e w2 ht
  obtain ⟨y0, b0, rfl, h10, hc0, hp1, ho0⟩ := ht.one (fun _ => rfl) rfl
  have hgl0 := hp0.lt
  have hz2 := Nat.le_trans hz1 hc0.size
  have HO0 := Lib.hid ho0
  have HC0 := Lib.hid hc0
  have H10 := Lib.hid h10
  clear ht ho0 hc0 h10 hp0
  go_wp2_with fail
  refine (oneQC_any _ hp1 (HRL.out _ (by simp))).mono ?_
  rintro e w3 ht
  obtain ⟨c1, b1, rfl, h11, hl1, hc1, hp2, ho1⟩ := ht.agg (fun _ => rfl)
  have hl1 : c1.length = 37 := hl1
  have hgl1 := hp1.lt
  have hz3 := Nat.le_trans hz2 hc1.size
  have HO1 := Lib.hid ho1
  have HC1 := Lib.hid hc1
  have H11 := Lib.hid h11
  have HL1 := Lib.hid hl1
  clear hl1
  clear ht ho1 hc1 h11 hp1
  have hbu := run_struct (P := Tryz.prog) (vs := [y0, .agg c1.toArray]) (cs := [[y0], c1]) info_readCommit places_readCommit ⟨cells_one H10.out, rfl, trivial⟩ (by simp [PlaceOk, HL1.out]) (by simp [HL1.out]) #[(0, y0), (1, .agg c1.toArray)] rfl
  have hone : ∀ v ∈ [[y0], c1].flatten, v.oneCell' = true := by
    intro v hv
    simp only [List.flatten_cons, List.flatten_nil, List.mem_append, List.mem_singleton, List.not_mem_nil, or_false] at hv
    rcases hv with rfl | hv
    · exact H10.out
    · exact H11.out v hv
  have HOUT := Lib.hid (show Fs.Out (.cons (.list tHeader) (.cons tQC .nil)) w3 (fun b => w.heap.size + 1 ≤ b) [r0, r1] [[y0], c1].flatten bad b1 from by
    have := Fs.Out.step HO0.out (Fs.Out.step HO1.out (Fs.Out.nil_ w3 _ _) (Chg.refl _ _) hgl1 hz2) HC1.out hgl0 hz1
    simpa using this)
  have HCA := Lib.hid (show Chg (fun k => k = g) w1 w3 from (HC0.out.trans HC1.out fun b h => .inl h))
  have hcl : [[y0], c1].flatten.length = 38 := by simp [HL1.out]
  obtain ⟨C, hC⟩ : ∃ C, C = [[y0], c1].flatten := ⟨_, rfl⟩
  rw [← hC] at hbu hone hcl HOUT
  have HBU := Lib.hid hbu
  have HONE := Lib.hid hone
  have HCL := Lib.hid hcl
  have HI := Lib.hid (show (Tryz.prog.info? 56).map (·.size) = some C.length from by rw [hcl]; exact size_readCommit)
  have HK2 := Lib.hid (HK.out.chg HCA.out (show ¬ w.heap.size = g from by omega))
  clear hbu hone hcl hC HK HO0 HC0 H10 HO1 HC1 H11 HL1
  have HP := Lib.hid hp2
  have hgX := hp2.lt
  clear hp2
  have hbu := HBU.out w3
  have HX := Lib.hid (HP.out.parts)
  go_wp2_with (first | (refine wpList_build_ rfl 56 _ rfl #[(0, y0), (1, .agg c1.toArray)] (by simp [Act.eval]) _ hbu ?_) | (refine wpList_store_blk (cs0 := ([.slice none 0 0] ++ ([.int .i64 0, .int .i64 0, .int .i64 0] ++ List.replicate 32 (.int .u8 0) ++ [.slice none 0 0, .slice none 0 0]) : List Value)) (cs := C) rfl 56 _ _ rfl (Blk.new w3 _ _) rfl rfl (by rw [HCL.out]; rfl) HI.out HONE.out ?_; intro wx hbx hcx; have HBX := Lib.hid hbx; have HCX := Lib.hid hcx; clear hbx hcx))
  obtain ⟨vy, ey, hblk, herr⟩ := HX.out
  have HCX' := Lib.hid (show Chg (fun _ => False) w3 wx from ((Chg.refl _ w3).alloc _).trans HCX.out fun b h => .inr (Nat.le_of_eq h.symm))
  have HGX := Lib.hid (hblk.chg HCX'.out id)
  have HKX := Lib.hid (HK2.out.chg HCX'.out id)
  have HE := Lib.hid herr
  clear hbu hblk herr HX HBU
  refine wp_region_hoist [0, 1, 2, 3, 4] [5] [6] (fun w' => Blk w' w3.heap.size 56 C.toArray ∧ Blk w' g 133 #[vy, ey])
    (by kernel_rfl) (by kernel_rfl) (by kernel_rfl) (by kernel_rfl) (by kernel_rfl) (by kernel_rfl) ⟨HBX.out.drew, HGX.out.drew⟩ ?_
  (refine HoistK.load (by rfl) (by kernel_rfl) 56 _ rfl w3.heap.size 0 rfl C _ (fun w' hw => hw.1.range) Tryz.underlying56 rfl HI.out ?_; simp only [Act.put, List.setIfInBounds_toArray, List.getElem_toArray, List.getElem_cons_zero, List.set_cons_succ, List.set_cons_zero])
  (refine HoistK.yes (by rfl) (by kernel_rfl) ⟨?_, fun w' hSw => ?_, ?_⟩; rotate_left; (· go_simp; try with_reducible rfl); simp only [Act.put, List.setIfInBounds_toArray, List.getElem_toArray, List.getElem_cons_succ, List.getElem_cons_zero, List.set_cons_succ, List.set_cons_zero])
  (refine HoistK.yes (by rfl) (by kernel_rfl) ⟨?_, fun w' hSw => ?_, ?_⟩; rotate_left; (· go_simp; try with_reducible rfl); simp only [Act.put, List.setIfInBounds_toArray, List.getElem_toArray, List.getElem_cons_succ, List.getElem_cons_zero, List.set_cons_succ, List.set_cons_zero])
  (refine HoistK.yes (by rfl) (by kernel_rfl) ⟨?_, fun w' hSw => ?_, ?_⟩; rotate_left; (· go_simp; try with_reducible rfl); simp only [Act.put, List.setIfInBounds_toArray, List.getElem_toArray, List.getElem_cons_succ, List.getElem_cons_zero, List.set_cons_succ, List.set_cons_zero])
  (refine HoistK.yes (by rfl) (by kernel_rfl) ⟨?_, fun w' hSw => ?_, ?_⟩; rotate_left; (· have hcc := hSw.2.cell; go_simp; try with_reducible rfl); simp only [Act.put, List.setIfInBounds_toArray, List.getElem_toArray, List.getElem_cons_succ, List.getElem_cons_zero, List.set_cons_succ, List.set_cons_zero])
  refine HoistK.nil_ ?_
  simp only [opsAt, List.filterMap_cons, List.filterMap_nil, List.getElem?_toArray, List.getElem?_cons_succ, List.getElem?_cons_zero]
  refine Effects.cons_ fun _ hQ1 => ?_
  go_wp2_with (refine wpList_store_blk (cs0 := ([.slice none 0 0] ++ ([.int .i64 0, .int .i64 0, .int .i64 0] ++ List.replicate 32 (.int .u8 0) ++ [.slice none 0 0, .slice none 0 0]) : List Value)) (cs := C) rfl 56 _ _ rfl HKX.out.drew rfl rfl (by rw [HCL.out]; rfl) HI.out HONE.out ?_; intro wy hby hcy; have HBY := Lib.hid hby; have HCY := Lib.hid hcy; clear hby hcy)
  refine hQ1 _ _ ⟨HBX.out.drew.chg HCY.out (fun h => by omega), HGX.out.drew.chg HCY.out (fun h => by omega)⟩ (Effects.nil_ fun _ hQ2 => ?_)
  go_wp2
  have hld := run_loadVar_mid (P := Tryz.prog) wy w.heap.size 0 56 C _ HBY.out.range Tryz.underlying56 rfl HI.out
  refine bodyPost_ret (v := .tuple #[.agg C.toArray, ey]) (by simp [results, Tryz.results73, asAddr, hld]) rfl ?_
  have hcf : Chg (fun b => b = w.heap.size) w3 wy := ((HCX'.out.mono fun _ h => h.elim).drew).trans HCY.out fun b h => .inl h
  exact ReadOut.mk (n := 2) HOUT.out HSS.out rfl HE.out (HB1.out.trans (HCA.out.below HB1.out.size fun b h => by omega)) hcf

end Go.Proofs.YtjjgmkfkmckkoabGreatDoor

/- Codec: one[Commit]. -/
namespace Go.Proofs.YtjjgmkfkmckkoabGreatDoor
open Go.RowKit Go.Maps
attribute [-simp] Tryz.isAgg24 Tryz.typeInfo24 Tryz.isAgg56 Tryz.typeInfo56

theorem size_oneCommit_any : (Tryz.prog.info? 56).map (·.size) = some 38 := by kernel_rfl
set_option maxHeartbeats 4000000 in
set_option maxRecDepth 100000 in
theorem oneCommit_any (w : World) {X : Nat → Prop} {E g : Nat} {sent : Value} {x : List UInt8} {rows : List (List UInt8)} {bad : Bool} (h : Pt w X E g sent (x :: rows) bad) (hxl : x.length ≤ 262144) :
    Calls Tryz.prog 75 #[.pointer (some ⟨g, 0, none⟩), .func (Fn.func 73) #[] #[]] w (Took tCommit w X E g sent x rows bad) := by
  have hgx := h.2.2.1
  have hgw := h.lt
  have hEw := h.2.2.2.2.1
  have hp0 := h.more ((Below.refl w.heap.size w).alloc (Nat.le_refl _) (.cells (([.slice none 0 0] ++ ([.int .i64 0, .int .i64 0, .int .i64 0] ++ List.replicate 32 (.int .u8 0) ++ [.slice none 0 0, .slice none 0 0]) : List Value)).toArray 56)) (fun b => b = w.heap.size) (fun b hb => ⟨Nat.le_of_eq hb.symm, by rw [hb]; simp⟩)
  have H := Lib.hid (next_any _ hp0)
  have HN := Lib.hid (Blk.new w 56 (([.slice none 0 0] ++ ([.int .i64 0, .int .i64 0, .int .i64 0] ++ List.replicate 32 (.int .u8 0) ++ [.slice none 0 0, .slice none 0 0]) : List Value)).toArray)
  have HGX := Lib.hid hgx
  have HX1 := Lib.hid (show ∀ b, X b → b < w.heap.size from h.2.2.2.1)
  clear h hp0 hgx
  go_enter Tryz.func75, Tryz.ntmps75
  go_wp2_with fail
  refine H.out.mono ?_
  rintro e w1 ⟨v1, rfl, hb1, hc1, hp1⟩
  have HK := Lib.hid (HN.out.chg hc1 (fun h => by omega))
  have hz1 : w.heap.size + 1 ≤ w1.heap.size := by simpa using hc1.size
  have HR := Lib.hid (readCommit_any w1 hb1 hxl hp1.1)
  have HC1 := Lib.hid (show Chg (fun k => k = g) w w1 from ((Chg.refl (fun k => k = g) w).alloc _).trans hc1 fun b h => .inl h)
  have HP1 := Lib.hid hp1
  obtain ⟨A1, c1, rfl⟩ := hb1.form
  clear hb1 hp1 hc1 H HN hxl
  go_wp2_with fail
  refine HR.out.mono ?_
  rintro e w2 hro
  obtain ⟨C, err, bd, rfl, h1, hl, hb2, he, ho⟩ := hro.agg (fun _ => rfl)
  have hl : C.length = 38 := hl
  have hz2 := Nat.le_trans hz1 hb2.size
  have HI := Lib.hid (show (Tryz.prog.info? 56).map (·.size) = some C.length from by rw [hl]; exact size_oneCommit_any)
  have H1 := Lib.hid h1
  have HL := Lib.hid hl
  have HP2 := Lib.hid (HP1.out.below hb2)
  have HK2 := Lib.hid (HK.out.below hb2 HK.out.lt)
  have HC2 := Lib.hid (HC1.out.trans (Chg.of_below hb2 fun k => k = g) fun b h => .inl h)
  have HO := Lib.hid (ho.or_ bad)
  clear hro h1 hl hb2 ho HR HP1 HK HC1
  rcases he with ⟨rfl, rfl⟩ | ⟨rfl, hch⟩
  · go_wp2_with (first
      | (refine wpList_store_blk (cs0 := ([.slice none 0 0] ++ ([.int .i64 0, .int .i64 0, .int .i64 0] ++ List.replicate 32 (.int .u8 0) ++ [.slice none 0 0, .slice none 0 0]) : List Value)) (cs := C) rfl 56 _ _ rfl (Blk.new w2 _ _) rfl rfl (by rw [HL.out]; rfl) HI.out H1.out ?_; intro w3 hb3 hc3; have HB3 := Lib.hid hb3
         have HC3 := Lib.hid (show Chg (fun _ => False) w2 w3 from ((Chg.refl _ w2).alloc _).trans hc3 fun b h => .inr (Nat.le_of_eq h.symm)); clear hb3 hc3
         have HK3 := Lib.hid (HK2.out.chg HC3.out id))
      | (refine wpList_load_blk' rfl 56 _ rfl HB3.out rfl Tryz.underlying56 rfl HI.out ?_)
      | (refine wpList_store_blk (cs0 := ([.slice none 0 0] ++ ([.int .i64 0, .int .i64 0, .int .i64 0] ++ List.replicate 32 (.int .u8 0) ++ [.slice none 0 0, .slice none 0 0]) : List Value)) (cs := C) rfl 56 _ _ rfl HK3.out rfl rfl (by rw [HL.out]; rfl) HI.out H1.out ?_; intro w9 hb9 hc9; have HB9 := Lib.hid hb9; have HC9 := Lib.hid hc9; clear hb9 hc9))
    have hld := run_loadVar_mid (P := Tryz.prog) w9 w.heap.size 0 56 C _ HB9.out.range Tryz.underlying56 rfl HI.out
    refine bodyPost_ret (v := .agg C.toArray) (by simp [results, Tryz.results75, asAddr, hld, Act.put]) rfl ?_
    have hp9 := (HP2.out.chg HC3.out fun b h => h.elim).chg HC9.out fun b h => ⟨.inr h, fun e => by omega⟩
    have ho9 := HO.out.to (w' := w9) (S' := fun b => w.heap.size ≤ b) (fun b hb hlt => ⟨Nat.lt_of_lt_of_le hlt (Nat.le_trans HC3.out.size HC9.out.size), (HC9.out.block b (Nat.lt_of_lt_of_le hlt HC3.out.size) (fun e => by omega)).trans (HC3.out.block b hlt id)⟩) fun b hb _ => by omega
    rw [Bool.or_false] at ho9
    exact ⟨C, bad, rfl, (HC2.out.trans (HC3.out.mono (M' := fun k => k = g) fun _ h => h.elim) fun b h => .inl h).trans HC9.out fun b h => .inr (Nat.le_of_eq h.symm), hp9.less (fun b h => .inl h) HGX.out, ho9⟩
  · obtain ⟨gw, rfl⟩ := hch.form
    have HCH := Lib.hid hch; clear hch
    go_wp2_with (first
      | (refine wpList_store_blk (cs0 := ([.slice none 0 0] ++ ([.int .i64 0, .int .i64 0, .int .i64 0] ++ List.replicate 32 (.int .u8 0) ++ [.slice none 0 0, .slice none 0 0]) : List Value)) (cs := C) rfl 56 _ _ rfl (Blk.new w2 _ _) rfl rfl (by rw [HL.out]; rfl) HI.out H1.out ?_; intro w3 hb3 hc3; have HB3 := Lib.hid hb3
         have HC3 := Lib.hid (show Chg (fun _ => False) w2 w3 from ((Chg.refl _ w2).alloc _).trans hc3 fun b h => .inr (Nat.le_of_eq h.symm)); clear hb3 hc3
         have HK3 := Lib.hid (HK2.out.chg HC3.out id)))
    have hp3 := (HP2.out.chg HC3.out fun b h => h.elim)
    have hlx := hp3.2.2.2.1
    have hz3 := Nat.le_trans hz2 HC3.out.size
    have hal := (Below.refl w3.heap.size w3).alloc (Nat.le_refl _) (.cells #[.string ⟨#[119, 105, 116, 104, 105, 110]⟩, .iface 113 (.pointer (some ⟨gw, 0, none⟩))] 117)
    have hch3 := (HCH.out.to (w' := w3) (S' := fun b => ¬ (X b ∨ b = w.heap.size) ∧ E ≤ b) (fun b hb hlt => ⟨Nat.lt_of_lt_of_le hlt HC3.out.size, HC3.out.block b hlt id⟩) fun b hb hlt => ⟨fun h => h.elim (fun h => by have := HP2.out.2.2.2.1 b (.inl h); have := HX1.out b h; omega) fun h => by omega, by omega⟩)
    have HBAD := Lib.hid (bad_any _ (hp3.below hal) (hch3.freshMore _ ⟨fun h => absurd (hlx _ h) (Nat.lt_irrefl _), by omega⟩))
    clear hp3 hlx hal hch3
    refine HBAD.out.mono ?_
    rintro e w4 ⟨rfl, hc4, hp4⟩
    have HC4 := Lib.hid hc4
    have HP4 := Lib.hid hp4
    have hgg : ¬ w.heap.size = g := by omega
    have HK4 := Lib.hid ((HK3.out.alloc _).chg hc4 (fun h => hgg h))
    have HB4 := Lib.hid ((HB3.out.alloc _).chg hc4 (fun h => by omega))
    clear hc4 hp4 HBAD
    go_wp2_with (first
      | (refine wpList_load_blk' rfl 56 _ rfl HB4.out rfl Tryz.underlying56 rfl HI.out ?_)
      | (refine wpList_store_blk (cs0 := ([.slice none 0 0] ++ ([.int .i64 0, .int .i64 0, .int .i64 0] ++ List.replicate 32 (.int .u8 0) ++ [.slice none 0 0, .slice none 0 0]) : List Value)) (cs := C) rfl 56 _ _ rfl HK4.out rfl rfl (by rw [HL.out]; rfl) HI.out H1.out ?_; intro w9 hb9 hc9; have HB9 := Lib.hid hb9; have HC9 := Lib.hid hc9; clear hb9 hc9))
    have hld := run_loadVar_mid (P := Tryz.prog) w9 w.heap.size 0 56 C _ HB9.out.range Tryz.underlying56 rfl HI.out
    refine bodyPost_ret (v := .agg C.toArray) (by simp [results, Tryz.results75, asAddr, hld, Act.put]) rfl ?_
    have hc34 : Chg (fun k => k = g) w2 w4 := ((HC3.out.mono (M' := fun k => k = g) fun _ h => h.elim).alloc _).trans HC4.out fun b h => .inl h
    have hp9 := HP4.out.chg HC9.out fun b h => ⟨.inr h, fun e => by omega⟩
    have ho9 := HO.out.to (w' := w9) (S' := fun b => w.heap.size ≤ b) (fun b hb hlt => ⟨Nat.lt_of_lt_of_le hlt (Nat.le_trans hc34.size HC9.out.size), (HC9.out.block b (Nat.lt_of_lt_of_le hlt hc34.size) (fun e => by omega)).trans (hc34.block b hlt (fun e => by omega))⟩) fun b hb _ => by omega
    rw [Bool.or_true] at ho9
    exact ⟨C, true, rfl, (HC2.out.trans hc34 fun b h => .inl h).trans HC9.out fun b h => .inr (Nat.le_of_eq h.symm), hp9.less (fun b h => .inl h) HGX.out, ho9⟩

end Go.Proofs.YtjjgmkfkmckkoabGreatDoor

/- Codec: a fact read. -/
namespace Go.Proofs.YtjjgmkfkmckkoabGreatDoor
open Go.RowKit Go.Maps
attribute [-simp] Tryz.isAgg24 Tryz.typeInfo24 Tryz.isAgg58 Tryz.typeInfo58

theorem info_readFact : (Tryz.prog.info? 58).map (fun i => (i.zero.map (fun z => z.cells.size))) = some (some 73) := by kernel_rfl
theorem size_readFact : (Tryz.prog.info? 58).map (·.size) = some 73 := by kernel_rfl
theorem places_readFact : ((match Tryz.prog.underlying 58 with | some (.struct fields) => fields.toList.mapM (fun f => (Tryz.prog.info? f.type).map fun i => (f.offset, i.size)) | _ => none)) = some [(0, 38), (38, 32), (70, 1), (71, 1), (72, 1)] := by kernel_rfl
set_option maxHeartbeats 4000000 in
set_option maxRecDepth 100000 in
theorem readFact_any (w : World) {S : Nat → Prop} {v sent : Value} {bs : List UInt8} (h : Bs w S v bs) (hlen : bs.length ≤ 262144) (hg : Gl w sent) :
    Calls Tryz.prog 26 #[v] w (ReadOut (.tup (.cons tCommit (.cons .dig (.cons .byt (.cons .bool (.cons .byt .nil)))))) w sent bs) := by
  have hal := (Below.refl w.heap.size w).alloc (Nat.le_refl _) (.cells (([.slice none 0 0] ++ ([.int .i64 0, .int .i64 0, .int .i64 0] ++ List.replicate 32 (.int .u8 0) ++ [.slice none 0 0, .slice none 0 0]) ++ List.replicate 32 (.int .u8 0) ++ [.slice none 0 0, .bool false, .slice none 0 0] : List Value)).toArray 58)
  have HS := Lib.hid (psplit_any _ (h.below hal) (by omega) (hg.below hal) 5 (by omega) ⟨#[97, 32, 102, 97, 99, 116]⟩)
  have HN := Lib.hid (Blk.new w 58 (([.slice none 0 0] ++ ([.int .i64 0, .int .i64 0, .int .i64 0] ++ List.replicate 32 (.int .u8 0) ++ [.slice none 0 0, .slice none 0 0]) ++ List.replicate 32 (.int .u8 0) ++ [.slice none 0 0, .bool false, .slice none 0 0] : List Value)).toArray)
  have HAL := Lib.hid hal
  obtain ⟨A, cap, rfl⟩ := h.form
  clear h hg hal
  go_enter Tryz.func26, Tryz.ntmps26
  go_wp2_with fail
  refine HS.out.mono ?_
  rintro e w1 ⟨g, rows, bad, rfl, hgw, hb1, hp, hn, hrl, hs⟩
  obtain ⟨r0, r1, r2, r3, r4, rfl⟩ : ∃ r0 r1 r2 r3 r4, rows = [r0, r1, r2, r3, r4] := by
    match rows, hn with
    | [r0, r1, r2, r3, r4], _ => exact ⟨r0, r1, r2, r3, r4, rfl⟩
  have HK := Lib.hid (HN.out.below hb1 (by simp))
  have hgw' : w.heap.size + 1 ≤ g := by simpa using hgw
  have hz1 : w.heap.size + 1 ≤ w1.heap.size := by simpa using hb1.size
  have HB1 := Lib.hid (HAL.out.trans (hb1.mono (by simp)))
  have HSS := Lib.hid hs
  have HRL := Lib.hid (show ∀ x ∈ [r0, r1, r2, r3, r4], x.length ≤ 262144 from fun x hx => Nat.le_trans (hrl x hx) hlen)
  have hE : Pt w1 (fun b => b = g) (w.heap.size + 1) g sent [r0, r1, r2, r3, r4] bad := by simpa using hp
  clear HS HN HAL hgw hb1 hs hn hp hrl hlen
  have hp0 := hE
  clear hE
  go_wp2_with fail
  refine (oneCommit_any _ hp0 (HRL.out _ (by simp))).mono ?_
  rintro e w2 ht
  obtain ⟨c0, b0, rfl, h10, hl0, hc0, hp1, ho0⟩ := ht.agg (fun _ => rfl)
  have hl0 : c0.length = 38 := hl0
  have hgl0 := hp0.lt
  have hz2 := Nat.le_trans hz1 hc0.size
  have HO0 := Lib.hid ho0
  have HC0 := Lib.hid hc0
  have H10 := Lib.hid h10
  have HL0 := Lib.hid hl0
  clear hl0
  clear ht ho0 hc0 h10 hp0
  go_wp2_with fail
  refine (pdigest_any _ hp1).mono ?_
  rintro e w3 ht
  obtain ⟨c1, b1, rfl, h11, hl1, hc1, hp2, ho1⟩ := ht.agg (fun _ => rfl)
  have hl1 : c1.length = 32 := hl1
  have hgl1 := hp1.lt
  have hz3 := Nat.le_trans hz2 hc1.size
  have HO1 := Lib.hid ho1
  have HC1 := Lib.hid hc1
  have H11 := Lib.hid h11
  have HL1 := Lib.hid hl1
  clear hl1
  clear ht ho1 hc1 h11 hp1
  go_wp2_with fail
  refine (pbytes_any _ hp2).mono ?_
  rintro e w4 ht
  obtain ⟨y2, b2, rfl, h12, hc2, hp3, ho2⟩ := ht.one (fun _ => rfl) rfl
  have hgl2 := hp2.lt
  have hz4 := Nat.le_trans hz3 hc2.size
  have HO2 := Lib.hid ho2
  have HC2 := Lib.hid hc2
  have H12 := Lib.hid h12
  clear ht ho2 hc2 h12 hp2
  go_wp2_with fail
  refine (ptruth_any _ hp3).mono ?_
  rintro e w5 ht
  obtain ⟨y3, b3, rfl, h13, hc3, hp4, ho3⟩ := ht.one (fun _ => rfl) rfl
  have hgl3 := hp3.lt
  have hz5 := Nat.le_trans hz4 hc3.size
  have HO3 := Lib.hid ho3
  have HC3 := Lib.hid hc3
  have H13 := Lib.hid h13
  clear ht ho3 hc3 h13 hp3
  go_wp2_with fail
  refine (pbytes_any _ hp4).mono ?_
  rintro e w6 ht
  obtain ⟨y4, b4, rfl, h14, hc4, hp5, ho4⟩ := ht.one (fun _ => rfl) rfl
  have hgl4 := hp4.lt
  have hz6 := Nat.le_trans hz5 hc4.size
  have HO4 := Lib.hid ho4
  have HC4 := Lib.hid hc4
  have H14 := Lib.hid h14
  clear ht ho4 hc4 h14 hp4
  have hbu := run_struct (P := Tryz.prog) (vs := [.agg c0.toArray, .agg c1.toArray, y2, y3, y4]) (cs := [c0, c1, [y2], [y3], [y4]]) info_readFact places_readFact ⟨rfl, rfl, cells_one H12.out, cells_one H13.out, cells_one H14.out, trivial⟩ (by simp [PlaceOk, HL0.out, HL1.out]) (by simp [HL0.out, HL1.out]) #[(0, .agg c0.toArray), (1, .agg c1.toArray), (2, y2), (3, y3), (4, y4)] rfl
  have hone : ∀ v ∈ [c0, c1, [y2], [y3], [y4]].flatten, v.oneCell' = true := by
    intro v hv
    simp only [List.flatten_cons, List.flatten_nil, List.mem_append, List.mem_singleton, List.not_mem_nil, or_false] at hv
    rcases hv with hv | hv | rfl | rfl | rfl
    · exact H10.out v hv
    · exact H11.out v hv
    · exact H12.out
    · exact H13.out
    · exact H14.out
  have HOUT := Lib.hid (show Fs.Out (.cons tCommit (.cons .dig (.cons .byt (.cons .bool (.cons .byt .nil))))) w6 (fun b => w.heap.size + 1 ≤ b) [r0, r1, r2, r3, r4] [c0, c1, [y2], [y3], [y4]].flatten bad b4 from by
    have := Fs.Out.step HO0.out (Fs.Out.step HO1.out (Fs.Out.step HO2.out (Fs.Out.step HO3.out (Fs.Out.step HO4.out (Fs.Out.nil_ w6 _ _) (Chg.refl _ _) hgl4 hz5) HC4.out hgl3 hz4) (HC3.out.trans HC4.out fun b h => .inl h) hgl2 hz3) ((HC2.out.trans HC3.out fun b h => .inl h).trans HC4.out fun b h => .inl h) hgl1 hz2) (((HC1.out.trans HC2.out fun b h => .inl h).trans HC3.out fun b h => .inl h).trans HC4.out fun b h => .inl h) hgl0 hz1
    simpa using this)
  have HCA := Lib.hid (show Chg (fun k => k = g) w1 w6 from ((((HC0.out.trans HC1.out fun b h => .inl h).trans HC2.out fun b h => .inl h).trans HC3.out fun b h => .inl h).trans HC4.out fun b h => .inl h))
  have hcl : [c0, c1, [y2], [y3], [y4]].flatten.length = 73 := by simp [HL0.out, HL1.out]
  obtain ⟨C, hC⟩ : ∃ C, C = [c0, c1, [y2], [y3], [y4]].flatten := ⟨_, rfl⟩
  rw [← hC] at hbu hone hcl HOUT
  have HBU := Lib.hid hbu
  have HONE := Lib.hid hone
  have HCL := Lib.hid hcl
  have HI := Lib.hid (show (Tryz.prog.info? 58).map (·.size) = some C.length from by rw [hcl]; exact size_readFact)
  have HK2 := Lib.hid (HK.out.chg HCA.out (show ¬ w.heap.size = g from by omega))
  clear hbu hone hcl hC HK HO0 HC0 H10 HO1 HC1 H11 HO2 HC2 H12 HO3 HC3 H13 HO4 HC4 H14 HL0 HL1
  have HP := Lib.hid hp5
  have hgX := hp5.lt
  clear hp5
  have hbu := HBU.out w6
  have HX := Lib.hid (HP.out.parts)
  go_wp2_with (first | (refine wpList_build_ rfl 58 _ rfl #[(0, .agg c0.toArray), (1, .agg c1.toArray), (2, y2), (3, y3), (4, y4)] (by simp [Act.eval]) _ hbu ?_) | (refine wpList_store_blk (cs0 := ([.slice none 0 0] ++ ([.int .i64 0, .int .i64 0, .int .i64 0] ++ List.replicate 32 (.int .u8 0) ++ [.slice none 0 0, .slice none 0 0]) ++ List.replicate 32 (.int .u8 0) ++ [.slice none 0 0, .bool false, .slice none 0 0] : List Value)) (cs := C) rfl 58 _ _ rfl (Blk.new w6 _ _) rfl rfl (by rw [HCL.out]; rfl) HI.out HONE.out ?_; intro wx hbx hcx; have HBX := Lib.hid hbx; have HCX := Lib.hid hcx; clear hbx hcx))
  obtain ⟨vy, ey, hblk, herr⟩ := HX.out
  have HCX' := Lib.hid (show Chg (fun _ => False) w6 wx from ((Chg.refl _ w6).alloc _).trans HCX.out fun b h => .inr (Nat.le_of_eq h.symm))
  have HGX := Lib.hid (hblk.chg HCX'.out id)
  have HKX := Lib.hid (HK2.out.chg HCX'.out id)
  have HE := Lib.hid herr
  clear hbu hblk herr HX HBU
  refine wp_region_hoist [0, 1, 2, 3, 4] [5] [6] (fun w' => Blk w' w6.heap.size 58 C.toArray ∧ Blk w' g 133 #[vy, ey])
    (by kernel_rfl) (by kernel_rfl) (by kernel_rfl) (by kernel_rfl) (by kernel_rfl) (by kernel_rfl) ⟨HBX.out.drew, HGX.out.drew⟩ ?_
  (refine HoistK.load (by rfl) (by kernel_rfl) 58 _ rfl w6.heap.size 0 rfl C _ (fun w' hw => hw.1.range) Tryz.underlying58 rfl HI.out ?_; simp only [Act.put, List.setIfInBounds_toArray, List.getElem_toArray, List.getElem_cons_zero, List.set_cons_succ, List.set_cons_zero])
  (refine HoistK.yes (by rfl) (by kernel_rfl) ⟨?_, fun w' hSw => ?_, ?_⟩; rotate_left; (· go_simp; try with_reducible rfl); simp only [Act.put, List.setIfInBounds_toArray, List.getElem_toArray, List.getElem_cons_succ, List.getElem_cons_zero, List.set_cons_succ, List.set_cons_zero])
  (refine HoistK.yes (by rfl) (by kernel_rfl) ⟨?_, fun w' hSw => ?_, ?_⟩; rotate_left; (· go_simp; try with_reducible rfl); simp only [Act.put, List.setIfInBounds_toArray, List.getElem_toArray, List.getElem_cons_succ, List.getElem_cons_zero, List.set_cons_succ, List.set_cons_zero])
  (refine HoistK.yes (by rfl) (by kernel_rfl) ⟨?_, fun w' hSw => ?_, ?_⟩; rotate_left; (· go_simp; try with_reducible rfl); simp only [Act.put, List.setIfInBounds_toArray, List.getElem_toArray, List.getElem_cons_succ, List.getElem_cons_zero, List.set_cons_succ, List.set_cons_zero])
  (refine HoistK.yes (by rfl) (by kernel_rfl) ⟨?_, fun w' hSw => ?_, ?_⟩; rotate_left; (· have hcc := hSw.2.cell; go_simp; try with_reducible rfl); simp only [Act.put, List.setIfInBounds_toArray, List.getElem_toArray, List.getElem_cons_succ, List.getElem_cons_zero, List.set_cons_succ, List.set_cons_zero])
  refine HoistK.nil_ ?_
  simp only [opsAt, List.filterMap_cons, List.filterMap_nil, List.getElem?_toArray, List.getElem?_cons_succ, List.getElem?_cons_zero]
  refine Effects.cons_ fun _ hQ1 => ?_
  go_wp2_with (refine wpList_store_blk (cs0 := ([.slice none 0 0] ++ ([.int .i64 0, .int .i64 0, .int .i64 0] ++ List.replicate 32 (.int .u8 0) ++ [.slice none 0 0, .slice none 0 0]) ++ List.replicate 32 (.int .u8 0) ++ [.slice none 0 0, .bool false, .slice none 0 0] : List Value)) (cs := C) rfl 58 _ _ rfl HKX.out.drew rfl rfl (by rw [HCL.out]; rfl) HI.out HONE.out ?_; intro wy hby hcy; have HBY := Lib.hid hby; have HCY := Lib.hid hcy; clear hby hcy)
  refine hQ1 _ _ ⟨HBX.out.drew.chg HCY.out (fun h => by omega), HGX.out.drew.chg HCY.out (fun h => by omega)⟩ (Effects.nil_ fun _ hQ2 => ?_)
  go_wp2
  have hld := run_loadVar_mid (P := Tryz.prog) wy w.heap.size 0 58 C _ HBY.out.range Tryz.underlying58 rfl HI.out
  refine bodyPost_ret (v := .tuple #[.agg C.toArray, ey]) (by simp [results, Tryz.results26, asAddr, hld]) rfl ?_
  have hcf : Chg (fun b => b = w.heap.size) w6 wy := ((HCX'.out.mono fun _ h => h.elim).drew).trans HCY.out fun b h => .inl h
  exact ReadOut.mk (n := 5) HOUT.out HSS.out rfl HE.out (HB1.out.trans (HCA.out.below HB1.out.size fun b h => by omega)) hcf

end Go.Proofs.YtjjgmkfkmckkoabGreatDoor

/- Codec: all[Fact]. -/
namespace Go.Proofs.YtjjgmkfkmckkoabGreatDoor
open Go.RowKit Go.Maps
attribute [-simp] Tryz.isAgg24 Tryz.typeInfo24 Tryz.isAgg58 Tryz.typeInfo58

theorem size_allFact_any : (Tryz.prog.info? 58).map (·.size) = some 73 := by kernel_rfl
theorem sizes_allFact_any : (Tryz.prog.info? 58).map (fun i => (i.zero.map (fun z => z.cells.size), i.size)) = some (some 73, 73) := by kernel_rfl
theorem info_allFact_any : (Tryz.prog.info? 58).map (fun i => (i.zero, i.size, i.bytes)) = some (some (.agg (([.slice none 0 0] ++ ([.int .i64 0, .int .i64 0, .int .i64 0] ++ List.replicate 32 (.int .u8 0) ++ [.slice none 0 0, .slice none 0 0]) ++ List.replicate 32 (.int .u8 0) ++ [.slice none 0 0, .bool false, .slice none 0 0] : List Value)).toArray), 73, 216) := by kernel_rfl
set_option maxHeartbeats 8000000 in
set_option maxRecDepth 100000 in
theorem allFact_any (w : World) {X : Nat → Prop} {E g : Nat} {sent : Value} {x : List UInt8} {rows : List (List UInt8)} {bad : Bool} (h : Pt w X E g sent (x :: rows) bad) (hxl : x.length ≤ 262144) :
    Calls Tryz.prog 87 #[.pointer (some ⟨g, 0, none⟩), .func (Fn.func 26) #[] #[]] w (Took (.list tFact) w X E g sent x rows bad) := by
  have hgx := h.2.2.1
  have hgw := h.lt
  have hEw := h.2.2.2.2.1
  have HGX := Lib.hid hgx
  have HX1 := Lib.hid (show ∀ b, X b → b < w.heap.size from h.2.2.2.1)
  have H := Lib.hid (next_any _ h)
  clear h hgx
  go_enter Tryz.func87, Tryz.ntmps87
  go_wp2_with fail
  refine H.out.mono ?_
  rintro e w1 ⟨v1, rfl, hb1, hc1, hp1⟩
  have HSP := Lib.hid (split_any w1 hb1 (by omega))
  have hz1 := hc1.size
  have HP1 := Lib.hid hp1
  have HC1 := Lib.hid hc1
  obtain ⟨A1, c1, rfl⟩ := hb1.form
  clear hb1 hp1 hc1 H
  go_wp2_with fail
  refine HSP.out.mono ?_
  rintro e w2 ⟨hb2, ⟨hno, rfl⟩ | ⟨v2, l, hsp, rfl, hbss⟩⟩
  · have HNO := Lib.hid hno; clear hno
    have hp2 := HP1.out.below hb2
    obtain ⟨⟨sa, rfl⟩, hgl⟩ := hp2.1
    have hgl : w2.cell? ⟨gF, 0, none⟩ = some _ := hgl
    unfold gF at hgl
    have hlx := hp2.2.2.2.1
    have hE2 := hp2.2.2.2.2.1
    have hal := (Below.refl w2.heap.size w2).alloc (Nat.le_refl _) (.cells #[.string ⟨#[97, 32, 108, 105, 115, 116]⟩, .iface 205 (.pointer (some sa))] 117)
    have HBAD := Lib.hid (bad_any _ (hp2.below hal) (Chain.fresh _ ⟨fun h => absurd (hlx _ h) (Nat.lt_irrefl _), hE2⟩))
    have HC2 := Lib.hid (HC1.out.trans (Chg.of_below hb2 fun k => k = g) fun b h => .inl h)
    clear hp2 hlx hal hE2 hb2 HP1 HC1 HSP
    go_wp2_with fail
    refine HBAD.out.mono ?_
    rintro e w3 ⟨rfl, hc3, hp3⟩
    have HP3 := Lib.hid hp3
    have HC3 := Lib.hid hc3
    clear hp3 hc3 HBAD
    go_wp2_with fail
    refine wp_loop_rounds 1 ?_
    rw [rounds_succ]
    go_wp2
    go_ret
    exact ⟨[.slice none 0 0], true, rfl, (HC2.out.alloc _).trans HC3.out fun b h => .inl h, HP3.out, SOut.noList HNO.out rfl⟩
  · have hrl : ∀ y ∈ l, y.length ≤ 262144 := fun y hy => Nat.le_trans (joinP_mem_le hsp y hy) hxl
    have hll : l.length ≤ 32768 := by
      have h1 := splitB_back hsp
      have h2 := joinP_count l
      rw [← h1, joinB_length] at hxl
      omega
    obtain ⟨A2, c2, rfl⟩ := hbss.form
    have HROWS := Lib.hid (((hbss.read fun y hy => by have := hrl y hy; omega).lt_ (T := fun b => w1.heap.size ≤ b) fun b h => h.elim id id).subs (T := fun b => b ≠ g) fun b hb _ => by have := hb.1; omega)
    have HP2 := Lib.hid (HP1.out.below hb2)
    have HC2 := Lib.hid (HC1.out.trans (Chg.of_below hb2 fun k => k = g) fun b h => .inl h)
    have HSPL := Lib.hid hsp
    have HRL := Lib.hid hrl
    have hwS : w.heap.size ≤ w2.heap.size := Nat.le_trans hz1 hb2.size
    clear hbss hsp hrl hb2 HP1 HC1 HSP hxl
    go_wp2_with fail
    go_loopw [7, 28] (fun o i wr => ∃ k : Nat, k ≤ l.length ∧ i = .int .i64 k ∧ AllI 58 73 tFact w w2 X E g sent rows bad l o k wr) (fun _ i _ => l.length - (intOf i).toNat)
    case atStart => exact ⟨0, Nat.zero_le _, rfl, AllI.start HP2.out⟩
    case round =>
      obtain ⟨k, hk, rfl, hI⟩ := hrel
      by_cases hlt : k < l.length
      · obtain ⟨css, bk, hown, hob, hlo, hpt, hch⟩ := hI
        obtain ⟨ba, oa, ua, rfl, hca, hua, _, hSb⟩ := (HROWS.out.chg hch (fun b hb h => hb h)).at_ hlt
        have htk : l.take (k + 1) = l.take k ++ [l[k]] := List.take_succ_eq_append_getElem hlt
        have hyl := HRL.out l[k] (List.getElem_mem hlt)
        obtain ⟨y, hy⟩ : ∃ y, y = l[k] := ⟨_, rfl⟩
        rw [← hy] at hua htk hyl
        have HR := Lib.hid (readFact_any wr hua hyl hpt.1)
        obtain ⟨Ay, cy, rfl⟩ := hua.form
        obtain ⟨Ao, co, rfl⟩ := hown.form
        have HOWN := Lib.hid hown
        have HOB := Lib.hid hob
        have HLO := Lib.hid hlo
        have HPT := Lib.hid hpt
        have HCH := Lib.hid hch
        have HTK := Lib.hid htk
        have H63 := Lib.hid (show k + 1 ≤ maxLen ∧ (k + 1) * 216 ≤ 140737488355328 from ⟨by simp only [maxLen]; omega, by omega⟩)
        have hzr := hch.size
        clear hown hob hlo hpt hch htk hy hua hyl
        go_wp2_with fail
        refine HR.out.mono ?_
        rintro e w3 hro
        obtain ⟨C, err, bd, rfl, h1, hl, hb3, he, ho⟩ := hro.agg (fun _ => rfl)
        have hl : C.length = 73 := hl
        have HL := Lib.hid hl
        have HI := Lib.hid (show (Tryz.prog.info? 58).map (·.size) = some C.length from by rw [hl]; exact size_allFact_any)
        have HI2 := Lib.hid (show (Tryz.prog.info? 58).map (fun i => (i.zero.map (fun z => z.cells.size), i.size)) = some (some C.length, C.length) from by rw [hl]; exact sizes_allFact_any)
        have H1 := Lib.hid h1
        clear h1 hl
        have HB3 := Lib.hid hb3
        have HP3 := Lib.hid (HPT.out.below hb3)
        have HO := Lib.hid (ho.or_ bk)
        clear hro hb3 ho HR
        rcases he with ⟨rfl, rfl⟩ | ⟨rfl, hcn⟩
        · skip
          go_wp2_with (first
            | (refine wpList_store_blk (cs0 := ([.slice none 0 0] ++ ([.int .i64 0, .int .i64 0, .int .i64 0] ++ List.replicate 32 (.int .u8 0) ++ [.slice none 0 0, .slice none 0 0]) ++ List.replicate 32 (.int .u8 0) ++ [.slice none 0 0, .bool false, .slice none 0 0] : List Value)) (cs := C) rfl 58 _ _ rfl (Blk.new w3 _ _) rfl rfl (by rw [HL.out]; rfl) HI.out H1.out ?_; intro w4 hb4 hc4; have HB4 := Lib.hid hb4; have HC4 := Lib.hid (show Chg (fun _ => False) w3 w4 from ((Chg.refl _ w3).alloc _).trans hc4 fun b h => .inr (Nat.le_of_eq h.symm)); clear hb4 hc4; have HO2 := Lib.hid (show ∀ ob, Own (w4.alloc ob) 58 73 (.slice Ao k co) k css.flatten from fun ob => own_keep HOWN.out fun b hb => (by have h1 := own_lt HOWN.out hb; have h2 := HOB.out b hb; have h3 := HB3.out.size; exact (Below.heap_alloc w4 ob b (Nat.lt_of_lt_of_le (Nat.lt_of_lt_of_le h1 h3) HC4.out.size)).trans ((HC4.out.block b (Nat.lt_of_lt_of_le h1 h3) id).trans (HB3.out.block b h1)))); have HS2 := Lib.hid (Cs.of_new w4 58 (size := 73) 1 (cs := C) (by rw [HL.out]) (by simp only [maxLen]; decide)))
            | (refine wpList_load_blk' rfl 58 _ rfl HB4.out rfl Tryz.underlying58 rfl HI.out ?_)
            | (refine wpList_row1 rfl 25 58 _ rfl Tryz.underlying25 (.agg C.toArray) rfl C rfl HI2.out (by rw [HL.out]; decide) (by rw [HL.out]; decide) ?_)
            | (at_builtin; refine wpList_app _ rfl _ _ _ rfl Tryz.underlying25 info_allFact_any rfl (by decide) (HO2.out _) rfl HS2.out rfl H1.out H63.out.1 H63.out.2 ?_; intro v6 w6 ho6 hc6 hnil6 hat6; clear hnil6; have HO6 := Lib.hid ho6; clear ho6; have HC6 := Lib.hid hc6; clear hc6; have HAT6 := Lib.hid hat6; clear hat6))
          refine ⟨⟨k + 1, by omega, by push_cast; rfl, AllI.step hgw hwS HOWN.out HOB.out HLO.out HCH.out HB3.out (by have := HO.out; rw [Bool.or_false] at this; exact this) (HC4.out.mono (M' := fun b => b = g) fun _ h => h.elim) (HP3.out.chg HC4.out fun b h => h.elim) HTK.out HO6.out HC6.out HAT6.out⟩, ?_⟩
          simp only [intOf]; omega
        · skip
          obtain ⟨gw, rfl⟩ := hcn.form
          have HCN := Lib.hid hcn; clear hcn
          go_wp2_with (refine wpList_store_blk (cs0 := ([.slice none 0 0] ++ ([.int .i64 0, .int .i64 0, .int .i64 0] ++ List.replicate 32 (.int .u8 0) ++ [.slice none 0 0, .slice none 0 0]) ++ List.replicate 32 (.int .u8 0) ++ [.slice none 0 0, .bool false, .slice none 0 0] : List Value)) (cs := C) rfl 58 _ _ rfl (Blk.new w3 _ _) rfl rfl (by rw [HL.out]; rfl) HI.out H1.out ?_; intro w4 hb4 hc4; have HB4 := Lib.hid hb4; have HC4 := Lib.hid (show Chg (fun _ => False) w3 w4 from ((Chg.refl _ w3).alloc _).trans hc4 fun b h => .inr (Nat.le_of_eq h.symm)); clear hb4 hc4)
          have hp4 := (HP3.out.chg HC4.out fun b h => h.elim)
          have hlx := hp4.2.2.2.1
          have hE4 := hp4.2.2.2.2.1
          have hz4 := HC4.out.size
          have hz3 := HB3.out.size
          have hal := (Below.refl w4.heap.size w4).alloc (Nat.le_refl _) (.cells #[.string ⟨#[105, 110, 32, 97, 32, 108, 105, 115, 116]⟩, .iface 113 (.pointer (some ⟨gw, 0, none⟩))] 117)
          have hcn4 := (HCN.out.to (w' := w4) (S' := fun b => ¬ (X b ∨ (Value.slice Ao k co).ownBlock = some b) ∧ E ≤ b) (fun b hb hlt => ⟨Nat.lt_of_lt_of_le hlt HC4.out.size, HC4.out.block b hlt id⟩) fun b hb hlt => ⟨fun h => h.elim (fun h => by have := HX1.out b h; omega) fun h => by have := own_lt HOWN.out h; omega, by omega⟩)
          have HBAD := Lib.hid (bad_any _ (hp4.below hal) (hcn4.freshMore _ ⟨fun h => absurd (hlx _ h) (Nat.lt_irrefl _), hE4⟩))
          clear hp4 hlx hal hcn4 hE4
          refine HBAD.out.mono ?_
          rintro e w5 ⟨rfl, hc5, hp5⟩
          have HP5 := Lib.hid hp5
          have HC35 := Lib.hid (show Chg (fun b => b = g) w3 w5 from ((HC4.out.mono (M' := fun b => b = g) fun _ h => h.elim).alloc _).trans hc5 fun b h => .inl h)
          have HB5 := Lib.hid ((HB4.out.alloc _).chg hc5 (fun h => by omega))
          clear hc5 hp5 HBAD
          have HO2 := Lib.hid (show ∀ ob, Own (w5.alloc ob) 58 73 (.slice Ao k co) k css.flatten from fun ob => own_keep HOWN.out fun b hb => (by have h1 := own_lt HOWN.out hb; have h2 := HOB.out b hb; have h3 := HB3.out.size; exact (Below.heap_alloc w5 ob b (Nat.lt_of_lt_of_le (Nat.lt_of_lt_of_le h1 h3) HC35.out.size)).trans ((HC35.out.block b (Nat.lt_of_lt_of_le h1 h3) (fun e => by omega)).trans (HB3.out.block b h1))))
          have HS2 := Lib.hid (Cs.of_new w5 58 (size := 73) 1 (cs := C) (by rw [HL.out]) (by simp only [maxLen]; decide))
          go_wp2_with (first
            | (refine wpList_load_blk' rfl 58 _ rfl HB5.out rfl Tryz.underlying58 rfl HI.out ?_)
            | (refine wpList_row1 rfl 25 58 _ rfl Tryz.underlying25 (.agg C.toArray) rfl C rfl HI2.out (by rw [HL.out]; decide) (by rw [HL.out]; decide) ?_)
            | (at_builtin; refine wpList_app _ rfl _ _ _ rfl Tryz.underlying25 info_allFact_any rfl (by decide) (HO2.out _) rfl HS2.out rfl H1.out H63.out.1 H63.out.2 ?_; intro v6 w6 ho6 hc6 hnil6 hat6; clear hnil6; have HO6 := Lib.hid ho6; clear ho6; have HC6 := Lib.hid hc6; clear hc6; have HAT6 := Lib.hid hat6; clear hat6))
          refine ⟨⟨k + 1, by omega, by push_cast; rfl, AllI.step hgw hwS HOWN.out HOB.out HLO.out HCH.out HB3.out (by have := HO.out; rw [Bool.or_true] at this; exact this) HC35.out HP5.out HTK.out HO6.out HC6.out HAT6.out⟩, ?_⟩
          simp only [intOf]; omega
      · have hk' : k = l.length := by omega
        subst hk'
        have HI := Lib.hid hI
        clear hI
        go_wp2_with fail
        go_ret
        exact HI.out.out rfl HSPL.out (fun _ => rfl) HGX.out HC2.out

end Go.Proofs.YtjjgmkfkmckkoabGreatDoor

/- Codec: a transaction read. -/
namespace Go.Proofs.YtjjgmkfkmckkoabGreatDoor
open Go.RowKit Go.Maps
attribute [-simp] Tryz.isAgg24 Tryz.typeInfo24 Tryz.isAgg27 Tryz.typeInfo27

theorem info_readTx : (Tryz.prog.info? 27).map (fun i => (i.zero.map (fun z => z.cells.size))) = some (some 41) := by kernel_rfl
theorem size_readTx : (Tryz.prog.info? 27).map (·.size) = some 41 := by kernel_rfl
theorem places_readTx : ((match Tryz.prog.underlying 27 with | some (.struct fields) => fields.toList.mapM (fun f => (Tryz.prog.info? f.type).map fun i => (f.offset, i.size)) | _ => none)) = some [(0, 1), (1, 1), (2, 1), (3, 1), (4, 1), (5, 1), (6, 1), (7, 32), (39, 1), (40, 1)] := by kernel_rfl
set_option maxHeartbeats 4000000 in
set_option maxRecDepth 100000 in
theorem readTx_any (w : World) {S : Nat → Prop} {v sent : Value} {bs : List UInt8} (h : Bs w S v bs) (hlen : bs.length ≤ 262144) (hg : Gl w sent) :
    Calls Tryz.prog 50 #[v] w (ReadOut (.tup (.cons i64 (.cons u64 (.cons u64 (.cons u64 (.cons u64 (.cons i64 (.cons i64 (.cons .dig (.cons i64 (.cons (.list tFact) .nil))))))))))) w sent bs) := by
  have hal := (Below.refl w.heap.size w).alloc (Nat.le_refl _) (.cells (([.int .i64 0, .int .u64 0, .int .u64 0, .int .u64 0, .int .u64 0, .int .i64 0, .int .i64 0] ++ List.replicate 32 (.int .u8 0) ++ [.int .i64 0, .slice none 0 0] : List Value)).toArray 27)
  have HS := Lib.hid (psplit_any _ (h.below hal) (by omega) (hg.below hal) 10 (by omega) ⟨#[97, 32, 116, 114, 97, 110, 115, 97, 99, 116, 105, 111, 110]⟩)
  have HN := Lib.hid (Blk.new w 27 (([.int .i64 0, .int .u64 0, .int .u64 0, .int .u64 0, .int .u64 0, .int .i64 0, .int .i64 0] ++ List.replicate 32 (.int .u8 0) ++ [.int .i64 0, .slice none 0 0] : List Value)).toArray)
  have HAL := Lib.hid hal
  obtain ⟨A, cap, rfl⟩ := h.form
  clear h hg hal
  go_enter Tryz.func50, Tryz.ntmps50
  go_wp2_with fail
  refine HS.out.mono ?_
  rintro e w1 ⟨g, rows, bad, rfl, hgw, hb1, hp, hn, hrl, hs⟩
  obtain ⟨r0, r1, r2, r3, r4, r5, r6, r7, r8, r9, rfl⟩ : ∃ r0 r1 r2 r3 r4 r5 r6 r7 r8 r9, rows = [r0, r1, r2, r3, r4, r5, r6, r7, r8, r9] := by
    match rows, hn with
    | [r0, r1, r2, r3, r4, r5, r6, r7, r8, r9], _ => exact ⟨r0, r1, r2, r3, r4, r5, r6, r7, r8, r9, rfl⟩
  have HK := Lib.hid (HN.out.below hb1 (by simp))
  have hgw' : w.heap.size + 1 ≤ g := by simpa using hgw
  have hz1 : w.heap.size + 1 ≤ w1.heap.size := by simpa using hb1.size
  have HB1 := Lib.hid (HAL.out.trans (hb1.mono (by simp)))
  have HSS := Lib.hid hs
  have HRL := Lib.hid (show ∀ x ∈ [r0, r1, r2, r3, r4, r5, r6, r7, r8, r9], x.length ≤ 262144 from fun x hx => Nat.le_trans (hrl x hx) hlen)
  have hE : Pt w1 (fun b => b = g) (w.heap.size + 1) g sent [r0, r1, r2, r3, r4, r5, r6, r7, r8, r9] bad := by simpa using hp
  clear HS HN HAL hgw hb1 hs hn hp hrl hlen
  have hp0 := hE
  clear hE
  go_wp2_with fail
  refine (int_any _ hp0).mono ?_
  rintro e w2 ht
  obtain ⟨y0, b0, rfl, h10, hc0, hp1, ho0⟩ := ht.one (fun _ => rfl) rfl
  have hgl0 := hp0.lt
  have hz2 := Nat.le_trans hz1 hc0.size
  have HO0 := Lib.hid ho0
  have HC0 := Lib.hid hc0
  have H10 := Lib.hid h10
  clear ht ho0 hc0 h10 hp0
  go_wp2_with fail
  refine (uTook_any _ hp1).mono ?_
  rintro e w3 ht
  obtain ⟨y1, b1, rfl, h11, hc1, hp2, ho1⟩ := ht.one (fun _ => rfl) rfl
  have hgl1 := hp1.lt
  have hz3 := Nat.le_trans hz2 hc1.size
  have HO1 := Lib.hid ho1
  have HC1 := Lib.hid hc1
  have H11 := Lib.hid h11
  clear ht ho1 hc1 h11 hp1
  go_wp2_with fail
  refine (uTook_any _ hp2).mono ?_
  rintro e w4 ht
  obtain ⟨y2, b2, rfl, h12, hc2, hp3, ho2⟩ := ht.one (fun _ => rfl) rfl
  have hgl2 := hp2.lt
  have hz4 := Nat.le_trans hz3 hc2.size
  have HO2 := Lib.hid ho2
  have HC2 := Lib.hid hc2
  have H12 := Lib.hid h12
  clear ht ho2 hc2 h12 hp2
  go_wp2_with fail
  refine (uTook_any _ hp3).mono ?_
  rintro e w5 ht
  obtain ⟨y3, b3, rfl, h13, hc3, hp4, ho3⟩ := ht.one (fun _ => rfl) rfl
  have hgl3 := hp3.lt
  have hz5 := Nat.le_trans hz4 hc3.size
  have HO3 := Lib.hid ho3
  have HC3 := Lib.hid hc3
  have H13 := Lib.hid h13
  clear ht ho3 hc3 h13 hp3
  go_wp2_with fail
  refine (uTook_any _ hp4).mono ?_
  rintro e w6 ht
  obtain ⟨y4, b4, rfl, h14, hc4, hp5, ho4⟩ := ht.one (fun _ => rfl) rfl
  have hgl4 := hp4.lt
  have hz6 := Nat.le_trans hz5 hc4.size
  have HO4 := Lib.hid ho4
  have HC4 := Lib.hid hc4
  have H14 := Lib.hid h14
  clear ht ho4 hc4 h14 hp4
  go_wp2_with fail
  refine (int_any _ hp5).mono ?_
  rintro e w7 ht
  obtain ⟨y5, b5, rfl, h15, hc5, hp6, ho5⟩ := ht.one (fun _ => rfl) rfl
  have hgl5 := hp5.lt
  have hz7 := Nat.le_trans hz6 hc5.size
  have HO5 := Lib.hid ho5
  have HC5 := Lib.hid hc5
  have H15 := Lib.hid h15
  clear ht ho5 hc5 h15 hp5
  go_wp2_with fail
  refine (n_any _ hp6).mono ?_
  rintro e w8 ht
  obtain ⟨y6, b6, rfl, h16, hc6, hp7, ho6⟩ := ht.one (fun _ => rfl) rfl
  have hgl6 := hp6.lt
  have hz8 := Nat.le_trans hz7 hc6.size
  have HO6 := Lib.hid ho6
  have HC6 := Lib.hid hc6
  have H16 := Lib.hid h16
  clear ht ho6 hc6 h16 hp6
  go_wp2_with fail
  refine (pdigest_any _ hp7).mono ?_
  rintro e w9 ht
  obtain ⟨c7, b7, rfl, h17, hl7, hc7, hp8, ho7⟩ := ht.agg (fun _ => rfl)
  have hl7 : c7.length = 32 := hl7
  have hgl7 := hp7.lt
  have hz9 := Nat.le_trans hz8 hc7.size
  have HO7 := Lib.hid ho7
  have HC7 := Lib.hid hc7
  have H17 := Lib.hid h17
  have HL7 := Lib.hid hl7
  clear hl7
  clear ht ho7 hc7 h17 hp7
  go_wp2_with fail
  refine (int_any _ hp8).mono ?_
  rintro e w10 ht
  obtain ⟨y8, b8, rfl, h18, hc8, hp9, ho8⟩ := ht.one (fun _ => rfl) rfl
  have hgl8 := hp8.lt
  have hz10 := Nat.le_trans hz9 hc8.size
  have HO8 := Lib.hid ho8
  have HC8 := Lib.hid hc8
  have H18 := Lib.hid h18
  clear ht ho8 hc8 h18 hp8
  go_wp2_with fail
  refine (allFact_any _ hp9 (HRL.out _ (by simp))).mono ?_
  rintro e w11 ht
  obtain ⟨y9, b9, rfl, h19, hc9, hp10, ho9⟩ := ht.one (fun _ => rfl) rfl
  have hgl9 := hp9.lt
  have hz11 := Nat.le_trans hz10 hc9.size
  have HO9 := Lib.hid ho9
  have HC9 := Lib.hid hc9
  have H19 := Lib.hid h19
  clear ht ho9 hc9 h19 hp9
  have hbu := run_struct (P := Tryz.prog) (vs := [y0, y1, y2, y3, y4, y5, y6, .agg c7.toArray, y8, y9]) (cs := [[y0], [y1], [y2], [y3], [y4], [y5], [y6], c7, [y8], [y9]]) info_readTx places_readTx ⟨cells_one H10.out, cells_one H11.out, cells_one H12.out, cells_one H13.out, cells_one H14.out, cells_one H15.out, cells_one H16.out, rfl, cells_one H18.out, cells_one H19.out, trivial⟩ (by simp [PlaceOk, HL7.out]) (by simp [HL7.out]) #[(0, y0), (1, y1), (2, y2), (3, y3), (4, y4), (5, y5), (6, y6), (7, .agg c7.toArray), (8, y8), (9, y9)] rfl
  have hone : ∀ v ∈ [[y0], [y1], [y2], [y3], [y4], [y5], [y6], c7, [y8], [y9]].flatten, v.oneCell' = true := by
    intro v hv
    simp only [List.flatten_cons, List.flatten_nil, List.mem_append, List.mem_singleton, List.not_mem_nil, or_false] at hv
    rcases hv with rfl | rfl | rfl | rfl | rfl | rfl | rfl | hv | rfl | rfl
    · exact H10.out
    · exact H11.out
    · exact H12.out
    · exact H13.out
    · exact H14.out
    · exact H15.out
    · exact H16.out
    · exact H17.out v hv
    · exact H18.out
    · exact H19.out
  have HOUT := Lib.hid (show Fs.Out (.cons i64 (.cons u64 (.cons u64 (.cons u64 (.cons u64 (.cons i64 (.cons i64 (.cons .dig (.cons i64 (.cons (.list tFact) .nil)))))))))) w11 (fun b => w.heap.size + 1 ≤ b) [r0, r1, r2, r3, r4, r5, r6, r7, r8, r9] [[y0], [y1], [y2], [y3], [y4], [y5], [y6], c7, [y8], [y9]].flatten bad b9 from by
    have := Fs.Out.step HO0.out (Fs.Out.step HO1.out (Fs.Out.step HO2.out (Fs.Out.step HO3.out (Fs.Out.step HO4.out (Fs.Out.step HO5.out (Fs.Out.step HO6.out (Fs.Out.step HO7.out (Fs.Out.step HO8.out (Fs.Out.step HO9.out (Fs.Out.nil_ w11 _ _) (Chg.refl _ _) hgl9 hz10) HC9.out hgl8 hz9) (HC8.out.trans HC9.out fun b h => .inl h) hgl7 hz8) ((HC7.out.trans HC8.out fun b h => .inl h).trans HC9.out fun b h => .inl h) hgl6 hz7) (((HC6.out.trans HC7.out fun b h => .inl h).trans HC8.out fun b h => .inl h).trans HC9.out fun b h => .inl h) hgl5 hz6) ((((HC5.out.trans HC6.out fun b h => .inl h).trans HC7.out fun b h => .inl h).trans HC8.out fun b h => .inl h).trans HC9.out fun b h => .inl h) hgl4 hz5) (((((HC4.out.trans HC5.out fun b h => .inl h).trans HC6.out fun b h => .inl h).trans HC7.out fun b h => .inl h).trans HC8.out fun b h => .inl h).trans HC9.out fun b h => .inl h) hgl3 hz4) ((((((HC3.out.trans HC4.out fun b h => .inl h).trans HC5.out fun b h => .inl h).trans HC6.out fun b h => .inl h).trans HC7.out fun b h => .inl h).trans HC8.out fun b h => .inl h).trans HC9.out fun b h => .inl h) hgl2 hz3) (((((((HC2.out.trans HC3.out fun b h => .inl h).trans HC4.out fun b h => .inl h).trans HC5.out fun b h => .inl h).trans HC6.out fun b h => .inl h).trans HC7.out fun b h => .inl h).trans HC8.out fun b h => .inl h).trans HC9.out fun b h => .inl h) hgl1 hz2) ((((((((HC1.out.trans HC2.out fun b h => .inl h).trans HC3.out fun b h => .inl h).trans HC4.out fun b h => .inl h).trans HC5.out fun b h => .inl h).trans HC6.out fun b h => .inl h).trans HC7.out fun b h => .inl h).trans HC8.out fun b h => .inl h).trans HC9.out fun b h => .inl h) hgl0 hz1
    simpa using this)
  have HCA := Lib.hid (show Chg (fun k => k = g) w1 w11 from (((((((((HC0.out.trans HC1.out fun b h => .inl h).trans HC2.out fun b h => .inl h).trans HC3.out fun b h => .inl h).trans HC4.out fun b h => .inl h).trans HC5.out fun b h => .inl h).trans HC6.out fun b h => .inl h).trans HC7.out fun b h => .inl h).trans HC8.out fun b h => .inl h).trans HC9.out fun b h => .inl h))
  have hcl : [[y0], [y1], [y2], [y3], [y4], [y5], [y6], c7, [y8], [y9]].flatten.length = 41 := by simp [HL7.out]
  obtain ⟨C, hC⟩ : ∃ C, C = [[y0], [y1], [y2], [y3], [y4], [y5], [y6], c7, [y8], [y9]].flatten := ⟨_, rfl⟩
  rw [← hC] at hbu hone hcl HOUT
  have HBU := Lib.hid hbu
  have HONE := Lib.hid hone
  have HCL := Lib.hid hcl
  have HI := Lib.hid (show (Tryz.prog.info? 27).map (·.size) = some C.length from by rw [hcl]; exact size_readTx)
  have HK2 := Lib.hid (HK.out.chg HCA.out (show ¬ w.heap.size = g from by omega))
  clear hbu hone hcl hC HK HO0 HC0 H10 HO1 HC1 H11 HO2 HC2 H12 HO3 HC3 H13 HO4 HC4 H14 HO5 HC5 H15 HO6 HC6 H16 HO7 HC7 H17 HO8 HC8 H18 HO9 HC9 H19 HL7
  have HP := Lib.hid hp10
  have hgX := hp10.lt
  clear hp10
  have hbu := HBU.out w11
  have HX := Lib.hid (HP.out.parts)
  go_wp2_with (first | (refine wpList_build_ rfl 27 _ rfl #[(0, y0), (1, y1), (2, y2), (3, y3), (4, y4), (5, y5), (6, y6), (7, .agg c7.toArray), (8, y8), (9, y9)] (by simp [Act.eval]) _ hbu ?_) | (refine wpList_store_blk (cs0 := ([.int .i64 0, .int .u64 0, .int .u64 0, .int .u64 0, .int .u64 0, .int .i64 0, .int .i64 0] ++ List.replicate 32 (.int .u8 0) ++ [.int .i64 0, .slice none 0 0] : List Value)) (cs := C) rfl 27 _ _ rfl (Blk.new w11 _ _) rfl rfl (by rw [HCL.out]; rfl) HI.out HONE.out ?_; intro wx hbx hcx; have HBX := Lib.hid hbx; have HCX := Lib.hid hcx; clear hbx hcx))
  obtain ⟨vy, ey, hblk, herr⟩ := HX.out
  have HCX' := Lib.hid (show Chg (fun _ => False) w11 wx from ((Chg.refl _ w11).alloc _).trans HCX.out fun b h => .inr (Nat.le_of_eq h.symm))
  have HGX := Lib.hid (hblk.chg HCX'.out id)
  have HKX := Lib.hid (HK2.out.chg HCX'.out id)
  have HE := Lib.hid herr
  clear hbu hblk herr HX HBU
  refine wp_region_hoist [0, 1, 2, 3, 4] [5] [6] (fun w' => Blk w' w11.heap.size 27 C.toArray ∧ Blk w' g 133 #[vy, ey])
    (by kernel_rfl) (by kernel_rfl) (by kernel_rfl) (by kernel_rfl) (by kernel_rfl) (by kernel_rfl) ⟨HBX.out.drew, HGX.out.drew⟩ ?_
  (refine HoistK.load (by rfl) (by kernel_rfl) 27 _ rfl w11.heap.size 0 rfl C _ (fun w' hw => hw.1.range) Tryz.underlying27 rfl HI.out ?_; simp only [Act.put, List.setIfInBounds_toArray, List.getElem_toArray, List.getElem_cons_zero, List.set_cons_succ, List.set_cons_zero])
  (refine HoistK.yes (by rfl) (by kernel_rfl) ⟨?_, fun w' hSw => ?_, ?_⟩; rotate_left; (· go_simp; try with_reducible rfl); simp only [Act.put, List.setIfInBounds_toArray, List.getElem_toArray, List.getElem_cons_succ, List.getElem_cons_zero, List.set_cons_succ, List.set_cons_zero])
  (refine HoistK.yes (by rfl) (by kernel_rfl) ⟨?_, fun w' hSw => ?_, ?_⟩; rotate_left; (· go_simp; try with_reducible rfl); simp only [Act.put, List.setIfInBounds_toArray, List.getElem_toArray, List.getElem_cons_succ, List.getElem_cons_zero, List.set_cons_succ, List.set_cons_zero])
  (refine HoistK.yes (by rfl) (by kernel_rfl) ⟨?_, fun w' hSw => ?_, ?_⟩; rotate_left; (· go_simp; try with_reducible rfl); simp only [Act.put, List.setIfInBounds_toArray, List.getElem_toArray, List.getElem_cons_succ, List.getElem_cons_zero, List.set_cons_succ, List.set_cons_zero])
  (refine HoistK.yes (by rfl) (by kernel_rfl) ⟨?_, fun w' hSw => ?_, ?_⟩; rotate_left; (· have hcc := hSw.2.cell; go_simp; try with_reducible rfl); simp only [Act.put, List.setIfInBounds_toArray, List.getElem_toArray, List.getElem_cons_succ, List.getElem_cons_zero, List.set_cons_succ, List.set_cons_zero])
  refine HoistK.nil_ ?_
  simp only [opsAt, List.filterMap_cons, List.filterMap_nil, List.getElem?_toArray, List.getElem?_cons_succ, List.getElem?_cons_zero]
  refine Effects.cons_ fun _ hQ1 => ?_
  go_wp2_with (refine wpList_store_blk (cs0 := ([.int .i64 0, .int .u64 0, .int .u64 0, .int .u64 0, .int .u64 0, .int .i64 0, .int .i64 0] ++ List.replicate 32 (.int .u8 0) ++ [.int .i64 0, .slice none 0 0] : List Value)) (cs := C) rfl 27 _ _ rfl HKX.out.drew rfl rfl (by rw [HCL.out]; rfl) HI.out HONE.out ?_; intro wy hby hcy; have HBY := Lib.hid hby; have HCY := Lib.hid hcy; clear hby hcy)
  refine hQ1 _ _ ⟨HBX.out.drew.chg HCY.out (fun h => by omega), HGX.out.drew.chg HCY.out (fun h => by omega)⟩ (Effects.nil_ fun _ hQ2 => ?_)
  go_wp2
  have hld := run_loadVar_mid (P := Tryz.prog) wy w.heap.size 0 27 C _ HBY.out.range Tryz.underlying27 rfl HI.out
  refine bodyPost_ret (v := .tuple #[.agg C.toArray, ey]) (by simp [results, Tryz.results50, asAddr, hld]) rfl ?_
  have hcf : Chg (fun b => b = w.heap.size) w11 wy := ((HCX'.out.mono fun _ h => h.elim).drew).trans HCY.out fun b h => .inl h
  exact ReadOut.mk (n := 10) HOUT.out HSS.out rfl HE.out (HB1.out.trans (HCA.out.below HB1.out.size fun b h => by omega)) hcf

end Go.Proofs.YtjjgmkfkmckkoabGreatDoor

/- A region that draws its order, in three parts: H is taken first (its values hang on S), then E one behind the other, then H2, whose values hang on no world: a call between what it is handed and the shares of its answer. -/
namespace Go.Proofs.YtjjgmkfkmckkoabGreatDoor
open Go.RowKit

section
variable {P : Program} {ops : Array Oper} {Q : Exit → Act → World → Prop} {S S' : World → Prop} {late late' : List Nat}

theorem AnyS.weaken : ∀ (n : Nat) (listed : Array Bool) (a : Act) (w : World), (∀ i, listed.getD i true = false → late.contains i = true) → AnyS P ops Q S' late' n listed a w → AnyS P ops Q S late n listed a w
  | 0, _, _, _, _, h => h
  | n + 1, listed, a, w, hl, h => ⟨h.1, fun i hi => wpOp_mono (fun a' w' h' => ⟨fun hn => (by rw [hl i (mem_ready.1 hi).1] at hn; cases hn), AnyS.weaken n _ a' w' (fun k hk => by
      by_cases e : i = k
      · subst e
        exact hl i (mem_ready.1 hi).1
      · rw [getD_set_ne true e] at hk
        exact hl k hk) h'.2⟩) (h.2 i hi)⟩

/-- One behind the other, and behind them K. -/
def EffK (P : Program) (ops : Array Oper) (Q : Exit → Act → World → Prop) : List Oper → Act → World → (Act → World → Prop) → Prop
  | [], a, w, K => K a w
  | o :: r, a, w, K => wpList P ops (Exit.then (fun a' w' => EffK P ops Q r a' w' K) Q) [o] a w
theorem EffK.nil_ {a : Act} {w : World} {K : Act → World → Prop} (h : K a w) : EffK P ops Q [] a w K := h
theorem EffK.cons_ {o : Oper} {r : List Oper} {a : Act} {w : World} {K : Act → World → Prop} (h : ∀ Q' : Exit → Act → World → Prop, (∀ a w, EffK P ops Q r a w K → Q' .normal a w) → wpList P ops Q' [o] a w) : EffK P ops Q (o :: r) a w K :=
  h _ fun _ _ he => he

/-- Is each of them the only one that may come up in its turn? -/
def chainPre (ops : Array Oper) : List Nat → Array Bool → Bool
  | [], _ => true
  | i :: r, listed => (Region.ready .any ops listed == [i]) && chainPre ops r (listed.setIfInBounds i true)

theorem Closed.chain : ∀ (E : List Nat) (listed : Array Bool), Closed ops listed → chainPre ops E listed = true → Closed ops (listedBy E listed)
  | [], _, h, _ => h
  | i :: r, listed, h, hc => by
    simp only [chainPre, Bool.and_eq_true, beq_iff_eq] at hc
    exact Closed.chain r _ (h.more (by rw [hc.1]; simp)) hc.2
theorem Closed.hoist {late : List Nat} : ∀ (H : List Nat) (listed : Array Bool), Closed ops listed → hoistOk ops late H listed = true → Closed ops (listedBy H listed)
  | [], _, h, _ => h
  | i :: r, listed, h, hc => by
    simp only [hoistOk, Bool.and_eq_true] at hc
    exact Closed.hoist r _ (h.more (by simpa using hc.1.1.2)) hc.2

theorem AnyS.chainK {n : Nat} {K : Act → World → Prop} : ∀ (E : List Nat) (listed : Array Bool) (a : Act) (w : World), E.all (fun i => late.contains i) = true → chainPre ops E listed = true → E.all (fun i => (ops[i]?).isSome) = true →
    (∀ a' w', K a' w' → AnyS P ops (NoPanic Q) S late n (listedBy E listed) a' w') → EffK P ops (NoPanic Q) (opsAt ops E) a w K → AnyS P ops (NoPanic Q) S late (E.length + n) listed a w
  | [], listed, a, w, _, _, _, hK, h => by simpa [opsAt, EffK, listedBy] using hK a w h
  | i :: r, listed, a, w, hl, hc, hs, hK, h => by
    simp only [List.all_cons, Bool.and_eq_true] at hl hs
    simp only [chainPre, Bool.and_eq_true, beq_iff_eq] at hc
    obtain ⟨o, ho⟩ := Option.isSome_iff_exists.1 hs.1
    rw [show (i :: r).length + n = r.length + n + 1 from by simp; omega]
    refine ⟨fun h0 => (by rw [hc.1] at h0; cases h0), fun j hj => ?_⟩
    rw [hc.1] at hj
    obtain rfl : j = i := by simpa using hj
    have hops : opsAt ops (j :: r) = o :: opsAt ops r := by simp [opsAt, ho]
    rw [hops] at h
    exact wpOp_mono (fun a' w' h' => ⟨fun hn => (by rw [hl.1] at hn; cases hn), AnyS.chainK r _ _ _ hl.2 hc.2 hs.2 hK h'⟩) (wpList_one ho h (fun h => h) (fun _ _ _ h => h))

theorem listedBy_less : ∀ (E : List Nat) (listed : Array Bool) (i : Nat), (listedBy E listed).getD i true = false → listed.getD i true = false
  | [], _, _, h => h
  | k :: r, listed, i, h => by
    have := listedBy_less r (listed.setIfInBounds k true) i h
    by_cases e : k = i
    · subst e
      simp only [Array.getD_eq_getD_getElem?, Array.getElem?_setIfInBounds] at this
      split at this
      · split at this <;> simp at this
      · rename_i hne; exact absurd trivial hne
    · rwa [getD_set_ne true e] at this
theorem listedBy_size : ∀ (E : List Nat) (listed : Array Bool), (listedBy E listed).size = listed.size
  | [], _ => rfl
  | k :: r, listed => by have := listedBy_size r (listed.setIfInBounds k true); simpa [listedBy] using this

/-- A region that draws its order: H first, then E, then H2. -/
theorem wp_region_two {id : Nat} {a : Act} {w : World} (H E H2 : List Nat) (S : World → Prop) (hm : P.follows .mixedOrders = true)
    (hsel : Region.noSelect ops = true) (hall : H.length + (E.length + (H2.length + 0)) = ops.size) (hok : hoistOk ops (E ++ H2) H (Array.replicate ops.size false) = true)
    (hch : chainPre ops E (listedBy H (Array.replicate ops.size false)) = true) (hsome : E.all (fun i => (ops[i]?).isSome) = true)
    (hok2 : hoistOk ops [] H2 (listedBy E (listedBy H (Array.replicate ops.size false))) = true)
    (hrest : (List.range ops.size).all (fun i => (listedBy H (Array.replicate ops.size false)).getD i true || (E ++ H2).contains i) = true)
    (hend : (Region.ready .any ops (listedBy H2 (listedBy E (listedBy H (Array.replicate ops.size false))))).isEmpty = true)
    (hS : S w.drew) (hH : HoistK P ops S H a fun a' => EffK P ops (NoPanic Q) (opsAt ops E) a' w.drew fun a2 w2 => HoistK P ops (fun _ => True) H2 a2 fun a3 =>
      ∀ Q' : Exit → Act → World → Prop, (∀ a w, Q .normal a w → Q' .normal a w) → wpList P ops Q' [] a3 w2) : (Code.region id ops true).wp P Q a w := by
  obtain ⟨a', hH, h⟩ := HoistK.out _ _ _ hH
  have hcl1 := Closed.hoist (late := E ++ H2) H _ (Closed.start ops.size) hok
  have hcl2 := Closed.chain E _ hcl1 hch
  have hrest' : ∀ i, (listedBy H (Array.replicate ops.size false)).getD i true = false → (E ++ H2).contains i = true := fun i hi => by
    have hlt : i < ops.size := by
      rcases Nat.lt_or_ge i ops.size with h | h
      · exact h
      · have := listedBy_size H (Array.replicate ops.size false)
        rw [Array.getD_eq_getD_getElem?, Array.getElem?_eq_none (by rw [this]; simpa using h)] at hi
        cases hi
    have := List.all_eq_true.1 hrest i (List.mem_range.2 hlt)
    rw [hi] at this
    simpa using this
  have hmid : AnyS P ops (NoPanic Q) S (E ++ H2) (E.length + (H2.length + 0)) (listedBy H (Array.replicate ops.size false)) a' w.drew := by
    refine AnyS.chainK E _ _ _ (List.all_eq_true.2 fun i hi => by simp [hi]) hch hsome (fun a2 w2 h2 => ?_) h
    obtain ⟨a3, hH2, h3⟩ := HoistK.out _ _ _ h2
    have hq : NoPanic Q .normal a3 w2 := h3 (NoPanic Q) (fun _ _ h => h)
    have := AnyS.hoist (Q := Q) (late := []) hsel (S := fun _ => True) trivial H2 0 _ a2 hcl2 hok2 hH2 ⟨by simpa using hend, hq⟩
    exact AnyS.weaken _ _ _ _ (fun i hi => hrest' i (listedBy_less E _ i hi)) this
  have hfin := AnyS.hoist (Q := Q) (late := E ++ H2) hsel hS H _ _ a (Closed.start _) hok hH hmid
  rw [hall] at hfin
  exact wp_region_noPanic (wp_region_any hm (AnyS.any (S := S) (late := E ++ H2) _ _ _ _ hfin))
end

end Go.Proofs.YtjjgmkfkmckkoabGreatDoor

/- A region that draws its order and only reads or makes memory: segments, in each operations that are taken first (their values hang on S), then effects, one behind the other, that leave S. -/
namespace Go.Proofs.YtjjgmkfkmckkoabGreatDoor
open Go.RowKit

section
variable {P : Program} {ops : Array Oper} {Q : Exit → Act → World → Prop} {S : World → Prop}

/-- One behind the other, S behind each, and behind them K. -/
def EffS (P : Program) (ops : Array Oper) (Q : Exit → Act → World → Prop) (S : World → Prop) : List Oper → Act → World → (Act → World → Prop) → Prop
  | [], a, w, K => K a w
  | o :: r, a, w, K => wpList P ops (Exit.then (fun a' w' => S w' ∧ EffS P ops Q S r a' w' K) Q) [o] a w
theorem EffS.nil_ {a : Act} {w : World} {K : Act → World → Prop} (h : K a w) : EffS P ops Q S [] a w K := h
theorem EffS.cons_ {o : Oper} {r : List Oper} {a : Act} {w : World} {K : Act → World → Prop} (h : ∀ Q' : Exit → Act → World → Prop, (∀ a w, S w → EffS P ops Q S r a w K → Q' .normal a w) → wpList P ops Q' [o] a w) : EffS P ops Q S (o :: r) a w K :=
  h _ fun _ _ hs he => ⟨hs, he⟩

theorem AnyS.chainS {n : Nat} {K : Act → World → Prop} : ∀ (E : List Nat) (listed : Array Bool) (a : Act) (w : World), chainPre ops E listed = true → E.all (fun i => (ops[i]?).isSome) = true → S w →
    (∀ a' w', S w' → K a' w' → AnyS P ops (NoPanic Q) S [] n (listedBy E listed) a' w') → EffS P ops (NoPanic Q) S (opsAt ops E) a w K → AnyS P ops (NoPanic Q) S [] (E.length + n) listed a w
  | [], listed, a, w, _, _, hS, hK, h => by simpa [opsAt, EffS, listedBy] using hK a w hS h
  | i :: r, listed, a, w, hc, hs, hS, hK, h => by
    simp only [List.all_cons, Bool.and_eq_true] at hs
    simp only [chainPre, Bool.and_eq_true, beq_iff_eq] at hc
    obtain ⟨o, ho⟩ := Option.isSome_iff_exists.1 hs.1
    rw [show (i :: r).length + n = r.length + n + 1 from by simp; omega]
    refine ⟨fun h0 => (by rw [hc.1] at h0; cases h0), fun j hj => ?_⟩
    rw [hc.1] at hj
    obtain rfl : j = i := by simpa using hj
    have hops : opsAt ops (j :: r) = o :: opsAt ops r := by simp [opsAt, ho]
    rw [hops] at h
    exact wpOp_mono (fun a' w' h' => ⟨fun _ => h'.1, AnyS.chainS r _ _ _ hc.2 hs.2 h'.1 hK h'.2⟩) (wpList_one ho h (fun h => h) (fun _ _ _ h => h))

/-- Segment for segment. -/
def SegK (P : Program) (ops : Array Oper) (Q : Exit → Act → World → Prop) (S : World → Prop) : List (List Nat × List Nat) → Act → World → Prop
  | [], a, w => ∀ Q' : Exit → Act → World → Prop, (∀ a w, Q .normal a w → Q' .normal a w) → wpList P ops Q' [] a w
  | (H, E) :: r, a, w => HoistK P ops S H a fun a' => EffS P ops (NoPanic Q) S (opsAt ops E) a' w (SegK P ops Q S r)
def segsOk (ops : Array Oper) : List (List Nat × List Nat) → Array Bool → Bool
  | [], listed => (Region.ready .any ops listed).isEmpty
  | (H, E) :: r, listed => hoistOk ops [] H listed && chainPre ops E (listedBy H listed) && E.all (fun i => (ops[i]?).isSome) && segsOk ops r (listedBy E (listedBy H listed))
def segsLen : List (List Nat × List Nat) → Nat
  | [] => 0
  | (H, E) :: r => H.length + (E.length + segsLen r)

theorem AnyS.segs (hsel : Region.noSelect ops = true) : ∀ (segs : List (List Nat × List Nat)) (listed : Array Bool) (a : Act) (w : World), Closed ops listed → segsOk ops segs listed = true → S w → SegK P ops Q S segs a w → AnyS P ops (NoPanic Q) S [] (segsLen segs) listed a w
  | [], listed, a, w, _, hok, _, h => ⟨by simpa [segsOk] using hok, (h (NoPanic Q) (fun _ _ h => h) : NoPanic Q .normal a w)⟩
  | (H, E) :: r, listed, a, w, hcl, hok, hS, h => by
    simp only [segsOk, Bool.and_eq_true] at hok
    obtain ⟨⟨⟨h1, h2⟩, h3⟩, h4⟩ := hok
    obtain ⟨a', hH, h⟩ := HoistK.out _ _ _ h
    have hcl1 := Closed.hoist (late := []) H _ hcl h1
    have hcl2 := Closed.chain E _ hcl1 h2
    exact AnyS.hoist hsel hS H _ _ a hcl h1 hH (AnyS.chainS E _ _ _ h2 h3 hS (fun a2 w2 hs2 hk => AnyS.segs hsel r _ a2 w2 hcl2 h4 hs2 hk) h)

/-- The region. -/
theorem wp_region_segs {id : Nat} {a : Act} {w : World} (segs : List (List Nat × List Nat)) (S : World → Prop) (hm : P.follows .mixedOrders = true) (hsel : Region.noSelect ops = true)
    (hall : segsLen segs = ops.size) (hok : segsOk ops segs (Array.replicate ops.size false) = true) (hS : S w.drew) (h : SegK P ops Q S segs a w.drew) : (Code.region id ops true).wp P Q a w := by
  have hfin := AnyS.segs (Q := Q) hsel segs _ a _ (Closed.start ops.size) hok hS h
  rw [hall] at hfin
  exact wp_region_noPanic (wp_region_any hm (AnyS.any (S := S) (late := []) _ _ _ _ hfin))
end

end Go.Proofs.YtjjgmkfkmckkoabGreatDoor

/- A region that draws its order: segments, as Hoist3's, but what holds may grow from segment to segment. -/
namespace Go.Proofs.YtjjgmkfkmckkoabGreatDoor
open Go.RowKit

section
variable {P : Program} {ops : Array Oper} {Q : Exit → Act → World → Prop}

theorem AnyS.weak {S S' : World → Prop} {late : List Nat} (h : ∀ w, S' w → S w) : ∀ (n : Nat) (listed : Array Bool) (a : Act) (w : World), AnyS P ops Q S' late n listed a w → AnyS P ops Q S late n listed a w
  | 0, _, _, _, k => k
  | n + 1, _, _, _, k => ⟨k.1, fun i hi => wpOp_mono (fun _ _ k' => ⟨fun hl => h _ (k'.1 hl), AnyS.weak h n _ _ _ k'.2⟩) (k.2 i hi)⟩
/-- Segment for segment; in each, what holds from there on. -/
def SegV (P : Program) (ops : Array Oper) (Q : Exit → Act → World → Prop) : (World → Prop) → List (List Nat × List Nat) → Act → World → Prop
  | _, [], a, w => ∀ Q' : Exit → Act → World → Prop, (∀ a w, Q .normal a w → Q' .normal a w) → wpList P ops Q' [] a w
  | S, (H, E) :: r, a, w => ∃ S' : World → Prop, (∀ w, S' w → S w) ∧ S' w ∧ HoistK P ops S' H a fun a' => EffS P ops (NoPanic Q) S' (opsAt ops E) a' w (SegV P ops Q S' r)
theorem SegV.mk {S : World → Prop} (S' : World → Prop) {H E : List Nat} {r : List (List Nat × List Nat)} {a : Act} {w : World} (h : ∀ w, S' w → S w) (hS : S' w) (k : HoistK P ops S' H a fun a' => EffS P ops (NoPanic Q) S' (opsAt ops E) a' w (SegV P ops Q S' r)) : SegV P ops Q S ((H, E) :: r) a w := ⟨S', h, hS, k⟩
theorem AnyS.segsV (hsel : Region.noSelect ops = true) : ∀ (segs : List (List Nat × List Nat)) (S : World → Prop) (listed : Array Bool) (a : Act) (w : World), Closed ops listed → segsOk ops segs listed = true → SegV P ops Q S segs a w → AnyS P ops (NoPanic Q) S [] (segsLen segs) listed a w
  | [], _, listed, a, w, _, hok, h => ⟨by simpa [segsOk] using hok, (h (NoPanic Q) (fun _ _ h => h) : NoPanic Q .normal a w)⟩
  | (H, E) :: r, S, listed, a, w, hcl, hok, ⟨S', hSS, hS, h⟩ => by
    simp only [segsOk, Bool.and_eq_true] at hok
    obtain ⟨⟨⟨h1, h2⟩, h3⟩, h4⟩ := hok
    obtain ⟨a', hH, h⟩ := HoistK.out _ _ _ h
    have hcl1 := Closed.hoist (late := []) H _ hcl h1
    have hcl2 := Closed.chain E _ hcl1 h2
    exact AnyS.weak hSS _ _ _ _ (AnyS.hoist hsel hS H _ _ a hcl h1 hH (AnyS.chainS E _ _ _ h2 h3 hS (fun a2 w2 _ hk => AnyS.segsV hsel r S' _ a2 w2 hcl2 h4 hk) h))

/-- The region. -/
theorem wp_region_segsV {id : Nat} {a : Act} {w : World} (segs : List (List Nat × List Nat)) (hm : P.follows .mixedOrders = true) (hsel : Region.noSelect ops = true)
    (hall : segsLen segs = ops.size) (hok : segsOk ops segs (Array.replicate ops.size false) = true) (h : SegV P ops Q (fun _ => True) segs a w.drew) : (Code.region id ops true).wp P Q a w := by
  have hfin := AnyS.segsV (Q := Q) hsel segs (fun _ => True) _ a _ (Closed.start ops.size) hok h
  rw [hall] at hfin
  exact wp_region_noPanic (wp_region_any hm (AnyS.any (S := fun _ => True) (late := []) _ _ _ _ hfin))
end

end Go.Proofs.YtjjgmkfkmckkoabGreatDoor
