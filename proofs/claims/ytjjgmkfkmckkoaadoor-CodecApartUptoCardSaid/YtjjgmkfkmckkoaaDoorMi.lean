/- Texts joined: CdN CdS CdT CdL CdU CdV CdX CdZ CeA CrK CrL CrO. -/
import Derived.Test.YtjjgmkfkmckkoaaDoorMg
import Derived.Test.YtjjgmkfkmckkoaaDoorMd
import Derived.Test.YtjjgmkfkmckkoaaDoorMf
import Derived.Test.YtjjgmkfkmckkoaaDoorMa
/- Codec: list[Fact]. -/
namespace Go.Proofs.YtjjgmkfkmckkoaaDoor
open Go.RowKit Go.Maps
attribute [-simp] Tryd.isAgg23 Tryd.typeInfo23 Tryd.isAgg60 Tryd.typeInfo60

set_option maxHeartbeats 2000000 in
set_option maxRecDepth 100000 in
theorem listFact_any (w : World) {S : Nat → Prop} {v : Value} {l : List (tFact).El} (h : (Sh.list tFact).rep w S l [v]) (hl : ((Sh.list tFact).enc l).length ≤ 1099511627776) :
    Calls Tryd.prog 64 #[v, .func (Fn.func 50) #[] #[]] w fun e w' => ∃ v', e = .returned v' ∧ Fresh w w' v' ((Sh.list tFact).enc l) := by
  obtain ⟨A, cap, rfl, hlen, hat⟩ := list_at h
  have H := Lib.hid h; clear h
  have hl' : (joinB (l.map (tFact).enc)).length ≤ 1099511627776 := hl
  have hcnt := joinP_count (l.map (tFact).enc)
  rw [joinB_length] at hl'
  rw [List.length_map] at hcnt
  have HLL := Lib.hid hl
  clear hl hat
  go_enter Tryd.func64, Tryd.ntmps64
  go_wp2_with fail
  go_loopw [5, 10] (fun a i wr => ∃ k : Nat, k ≤ l.length ∧ i = .int .i64 k ∧ Bss wr (fun b => w.heap.size ≤ b) (fun b => w.heap.size ≤ b) a ((l.take k).map (tFact).enc) ∧ Below w.heap.size w wr) (fun _ i _ => l.length - (intOf i).toNat)
  case atStart => exact ⟨0, Nat.zero_le _, rfl, Bss.nil_ _ _ _, Below.refl _ _⟩
  case round =>
    obtain ⟨k, hk, rfl, hB, hbl⟩ := hrel
    by_cases hlt : k < l.length
    · obtain ⟨R, hR⟩ : ∃ R, R = (l.take k).map (tFact).enc := ⟨_, rfl⟩
      rw [← hR] at hB
      have hRl : R.length = k := by rw [hR, List.length_map, List.length_take]; omega
      have hnext : (l.take (k + 1)).map (tFact).enc = R ++ [(tFact).enc l[k]] := by rw [List.take_succ_eq_append_getElem hlt, List.map_append, ← hR]; rfl
      obtain ⟨Aa, ca, rfl⟩ := hB.form
      obtain ⟨_, _, e, _, hat⟩ := list_at (Sh.rep_below H.out hbl)
      injection e with e1 e2 e3
      subst e1 e3
      obtain ⟨b, off, c, rfl, hca, hr, hcl, _, _⟩ := hat k hlt
      obtain ⟨x, hx⟩ : ∃ x, x = l[k] := ⟨_, rfl⟩
      rw [← hx] at hr hnext
      have hsm2 : ((tFact).enc x).length ≤ 1099511627776 := by
        have h1 := joinP_mem (List.mem_map.2 ⟨l[k], List.getElem_mem hlt, rfl⟩ : (tFact).enc l[k] ∈ l.map (tFact).enc)
        rw [hx]; omega
      have hinfo : (Tryd.prog.info? 60).map (·.size) = some c.length := by rw [hcl]; kernel_rfl
      have HC1 := Lib.hid (Sh.rep_one _ _ _ hr)
      have HCA := Lib.hid (show wr.rangeAt b (off + k * 73) c from hca)
      have HI := Lib.hid hinfo
      have HCL := Lib.hid hcl
      have HREP := Lib.hid hr
      have HSM := Lib.hid hsm2
      clear hinfo hr hsm2
      have hown : ∀ k, (Value.slice Aa R.length ca).ownBlock = some k → k < wr.heap.size := fun k hk => by obtain ⟨vs, ho, _⟩ := hB; exact own_lt ho hk
      have HB := Lib.hid hB
      have HN := Lib.hid hnext
      have HRL := Lib.hid hRl
      have HOWN := Lib.hid hown
      clear hB hca hcl hat hx hR hnext hRl hown
      go_wp2_with (first | (refine wpList_load_mid rfl 60 _ rfl b (off + k * 73) rfl c _ HCA.out Tryd.underlying60 rfl HI.out ?_) | (refine wpList_store_blk (cs0 := [.slice none 0 0] ++ ([.int .i64 0, .int .i64 0, .int .i64 0] ++ List.replicate 32 (.int .u8 0) ++ [.slice none 0 0, .slice none 0 0]) ++ List.replicate 32 (.int .u8 0) ++ [.slice none 0 0, .bool false, .slice none 0 0]) (cs := c) rfl 60 _ _ rfl (Blk.new wr _ _) rfl rfl (by rw [HCL.out]; rfl) HI.out HC1.out ?_; intro w4 hb4 hc4; have HB4 := Lib.hid hb4; have HC4 := Lib.hid hc4; clear hb4 hc4) | (refine wpList_load_blk' rfl 60 _ rfl HB4.out rfl Tryd.underlying60 rfl HI.out ?_))
      have hbw4 : Below wr.heap.size wr w4 := ((Below.refl _ wr).alloc (Nat.le_refl _) _).trans (HC4.out.below (by simp) fun b hb => Nat.le_of_eq hb.symm)
      have hr := Sh.rep_below HREP.out hbw4
      refine (fact_any _ hr HSM.out).mono ?_
      rintro e w1 ⟨v1, rfl, f4⟩
      have f1 : Fresh wr w1 v1 _ := ⟨f4.1.sub fun b hb _ => ⟨Nat.le_trans hbw4.size hb.1, hb.2⟩, hbw4.trans (f4.2.mono hbw4.size)⟩
      clear f4 hr
      have hb1 := hbl.trans (f1.2.mono hbl.size)
      obtain ⟨y, hy⟩ : ∃ y, y = (tFact).enc x := ⟨_, rfl⟩
      have f1 : Fresh wr w1 v1 y := hy ▸ f1
      rw [← hy] at HN
      obtain ⟨A1, c1, rfl⟩ := f1.1.form
      obtain ⟨vs, ho, hS, hr⟩ := HB.out.below f1.2
      have hsz1 := f1.2.size
      have hal : Below w1.heap.size w1 (w1.alloc (.cells #[.slice A1 y.length c1] 28)) := (Below.refl _ w1).alloc (Nat.le_refl _) _
      have HAL := Lib.hid hal
      have HO := Lib.hid (show Own (w1.alloc (.cells #[.slice A1 y.length c1] 28)) _ _ _ _ _ from own_keep ho fun k hk => hal.block k (own_lt ho hk))
      have HS := Lib.hid hS
      have HR := Lib.hid (fun i x u h1 h2 => (hr i x u h1 h2).below hal)
      have HU := Lib.hid ((f1.1.1.below hal).sub (T := fun b => w.heap.size ≤ b ∧ (Value.slice Aa R.length ca).ownBlock ≠ some b) fun b hb _ => ⟨Nat.le_trans hbl.size hb.1, fun e => by have := HOWN.out b e; omega⟩)
      have HS2 := Lib.hid (Cs.of_new w1 28 (size := 1) 1 (cs := [.slice A1 y.length c1]) rfl (by simp only [maxLen]; decide))
      have H63 := Lib.hid (show R.length + 1 ≤ maxLen ∧ (R.length + 1) * 24 ≤ 140737488355328 from by have := HRL.out; refine ⟨by simp only [maxLen]; omega, by omega⟩)
      clear ho hS hr hal f1 hy
      go_wp2_with (at_builtin; refine wpList_app _ rfl _ _ _ rfl Tryd.underlying93 info_row rfl (by decide) HO.out rfl HS2.out rfl (by simp [Value.oneCell']) H63.out.1 H63.out.2 ?_; intro v3 w3 ho3 hg3 hnil3 hat3; clear hnil3; have HO3 := Lib.hid ho3; clear ho3; have HG3 := Lib.hid hg3; clear hg3; have HAT3 := Lib.hid hat3; clear hat3)
      have hpush := Bss.push HO.out HS.out HR.out HU.out HO3.out HG3.out HAT3.out (by have := hb1.size; have := HAL.out.size; omega)
      rw [← HN.out] at hpush
      refine ⟨⟨k + 1, by omega, by push_cast; rfl, hpush, (hb1.trans (HAL.out.mono hb1.size)).trans (HG3.out.below (Nat.le_trans hb1.size HAL.out.size) fun b h => HS.out b h)⟩, ?_⟩
      simp only [intOf]
      omega
    · have hk' : k = l.length := by omega
      rw [hk', List.take_length] at hB
      have hsm : ∀ x ∈ l.map (tFact).enc, x.length ≤ 140737488355328 := fun x hx => by have := joinP_mem hx; omega
      have hj := join_any _ ((hB.read hsm).lt_ (T := fun b => w.heap.size ≤ b) fun b h => h.elim id id) (by rw [joinB_length]; omega) fun b h => h.2
      have HJ := Lib.hid hj
      obtain ⟨R, hR⟩ : ∃ R, R = l.map (tFact).enc := ⟨_, rfl⟩
      have HR := Lib.hid hR
      rw [← hR] at hB HJ
      obtain ⟨Aa, ca, rfl⟩ := hB.form
      clear hj hB hR hsm
      go_wp2_with fail
      refine HJ.out.mono ?_
      rintro e w1 ⟨v1, rfl, f1⟩
      go_wp2_with fail
      go_ret
      refine ⟨v1, rfl, ?_, hbl.trans (f1.2.mono hbl.size)⟩
      have := f1.1.sub (T := fun b => w.heap.size ≤ b ∧ Th w1 b) fun b hb _ => ⟨Nat.le_trans hbl.size hb.1, hb.2⟩
      rw [HR.out] at this
      exact this

end Go.Proofs.YtjjgmkfkmckkoaaDoor

/- Codec: a transaction. -/
namespace Go.Proofs.YtjjgmkfkmckkoaaDoor
open Go.RowKit Go.Maps
attribute [-simp] Tryd.isAgg23 Tryd.typeInfo23

set_option maxHeartbeats 4000000 in
set_option maxRecDepth 100000 in
theorem tx_any (w : World) {S : Nat → Prop} {x : tTx.El} {cs : List Value} (h : tTx.rep w S x cs) (hl : (tTx.enc x).length ≤ 1099511627776) :
    Calls Tryd.prog 36 #[.agg cs.toArray] w fun e w' => ∃ v', e = .returned v' ∧ Fresh w w' v' (tTx.enc x) := by
  obtain ⟨x0, x1, x2, x3, x4, x5, x6, x7, x8, x9, _⟩ := x
  obtain ⟨c0, _, rfl, ⟨rfl, _⟩, c1, _, rfl, ⟨rfl, q1⟩, c2, _, rfl, ⟨rfl, q2⟩, c3, _, rfl, ⟨rfl, q3⟩, c4, _, rfl, ⟨rfl, q4⟩, c5, _, rfl, ⟨rfl, _⟩, c6, _, rfl, ⟨rfl, _⟩, c7, _, rfl, ⟨rfl, l7⟩, c8, _, rfl, ⟨rfl, _⟩, c9, _, rfl, r9, rfl⟩ := h
  obtain ⟨y9, rfl⟩ : ∃ y, c9 = [y] := by obtain ⟨v, _, e, _⟩ := r9; exact ⟨v, e⟩
  have R9 := Lib.hid r9; clear r9
  have Q1 := Lib.hid q1; clear q1
  have Q2 := Lib.hid q2; clear q2
  have Q3 := Lib.hid q3; clear q3
  have Q4 := Lib.hid q4; clear q4
  simp only [nk_t, nk_f]
  obtain ⟨C, hC⟩ : ∃ C, C = [Value.int .i64 x0] ++ ([Value.int .u64 x1] ++ ([Value.int .u64 x2] ++ ([Value.int .u64 x3] ++ ([Value.int .u64 x4] ++ ([Value.int .i64 x5] ++ ([Value.int .i64 x6] ++ (u8s x7 ++ ([Value.int .i64 x8] ++ ([y9] ++ ([])))))))))) := ⟨_, rfl⟩
  rw [← hC]
  have hf : ∀ w', Blk w' w.heap.size 91 C.toArray → w'.cell? ⟨w.heap.size, 0, none⟩ = some (.int .i64 x0) ∧ w'.cell? ⟨w.heap.size, 1, none⟩ = some (.int .u64 x1) ∧ w'.cell? ⟨w.heap.size, 2, none⟩ = some (.int .u64 x2) ∧ w'.cell? ⟨w.heap.size, 3, none⟩ = some (.int .u64 x3) ∧ w'.cell? ⟨w.heap.size, 4, none⟩ = some (.int .u64 x4) ∧ w'.cell? ⟨w.heap.size, 5, none⟩ = some (.int .i64 x5) ∧ w'.cell? ⟨w.heap.size, 6, none⟩ = some (.int .i64 x6) ∧ w'.rangeAt w.heap.size 7 (u8s x7) ∧ w'.cell? ⟨w.heap.size, 39, none⟩ = some (.int .i64 x8) ∧ w'.cell? ⟨w.heap.size, 40, none⟩ = some y9 := fun w' hb => by
    have := hb.lies [[Value.int .i64 x0], [Value.int .u64 x1], [Value.int .u64 x2], [Value.int .u64 x3], [Value.int .u64 x4], [Value.int .i64 x5], [Value.int .i64 x6], u8s x7, [Value.int .i64 x8], [y9]] [] (by rw [hC]; simp)
    simp only [Lies, u8s_length, l7, List.length_cons, List.length_nil] at this
    obtain ⟨s0, s1, s2, s3, s4, s5, s6, s7, s8, s9, _⟩ := this
    exact ⟨Lies.one s0, Lies.one s1, Lies.one s2, Lies.one s3, Lies.one s4, Lies.one s5, Lies.one s6, s7, Lies.one s8, Lies.one s9⟩
  have HF := Lib.hid hf
  clear hf hC
  have hrows : tTx.enc (x0, x1, x2, x3, x4, x5, x6, x7, x8, x9, ()) = joinB [numB x0, numB x1, numB x2, numB x3, numB x4, numB x5, numB x6, x7, numB x8, (Sh.list tFact).enc x9] := rfl
  have hl' : (joinB [numB x0, numB x1, numB x2, numB x3, numB x4, numB x5, numB x6, x7, numB x8, (Sh.list tFact).enc x9]).length ≤ 1099511627776 := hl
  have HLL := Lib.hid hl'
  clear hl hl'
  go_enter Tryd.func36, Tryd.ntmps36
  go_wp2_with fail
  have hsz : w.heap.size < w.heap.size + 1 := by omega
  refine wp_region_hoist [0, 1, 3, 4, 6, 7, 9, 10, 12, 13, 15, 16, 18, 19, 21, 22, 24, 25, 27, 28] [2, 5, 8, 11, 14, 17, 20, 23, 26, 29] [30, 31, 32] (fun w' => Blk w' w.heap.size 91 C.toArray)
    (by kernel_rfl) (by kernel_rfl) (by kernel_rfl) (by kernel_rfl) (by kernel_rfl) (by kernel_rfl) (Blk.new w _ _).drew ?_
  (refine HoistK.yes (by rfl) (by kernel_rfl) ⟨?_, fun w' hSw => ?_, ?_⟩; rotate_left; (· go_simp; try with_reducible rfl); simp only [Act.put, List.setIfInBounds_toArray, List.getElem_toArray, List.getElem_cons_zero, List.set_cons_succ, List.set_cons_zero])
  (refine HoistK.yes (by rfl) (by kernel_rfl) ⟨?_, fun w' hSw => ?_, ?_⟩; rotate_left; (· obtain ⟨s0, s1, s2, s3, s4, s5, s6, s7, s8, s9⟩ := HF.out _ hSw; go_simp; try with_reducible rfl); simp only [Act.put, List.setIfInBounds_toArray, List.getElem_toArray, List.getElem_cons_succ, List.getElem_cons_zero, List.set_cons_succ, List.set_cons_zero])
  (refine HoistK.yes (by rfl) (by kernel_rfl) ⟨?_, fun w' hSw => ?_, ?_⟩; rotate_left; (· go_simp; try with_reducible rfl); simp only [Act.put, List.setIfInBounds_toArray, List.getElem_toArray, List.getElem_cons_succ, List.getElem_cons_zero, List.set_cons_succ, List.set_cons_zero])
  (refine HoistK.yes (by rfl) (by kernel_rfl) ⟨?_, fun w' hSw => ?_, ?_⟩; rotate_left; (· obtain ⟨s0, s1, s2, s3, s4, s5, s6, s7, s8, s9⟩ := HF.out _ hSw; go_simp; try with_reducible rfl); simp only [Act.put, List.setIfInBounds_toArray, List.getElem_toArray, List.getElem_cons_succ, List.getElem_cons_zero, List.set_cons_succ, List.set_cons_zero])
  (refine HoistK.yes (by rfl) (by kernel_rfl) ⟨?_, fun w' hSw => ?_, ?_⟩; rotate_left; (· go_simp; try with_reducible rfl); simp only [Act.put, List.setIfInBounds_toArray, List.getElem_toArray, List.getElem_cons_succ, List.getElem_cons_zero, List.set_cons_succ, List.set_cons_zero])
  (refine HoistK.yes (by rfl) (by kernel_rfl) ⟨?_, fun w' hSw => ?_, ?_⟩; rotate_left; (· obtain ⟨s0, s1, s2, s3, s4, s5, s6, s7, s8, s9⟩ := HF.out _ hSw; go_simp; try with_reducible rfl); simp only [Act.put, List.setIfInBounds_toArray, List.getElem_toArray, List.getElem_cons_succ, List.getElem_cons_zero, List.set_cons_succ, List.set_cons_zero])
  (refine HoistK.yes (by rfl) (by kernel_rfl) ⟨?_, fun w' hSw => ?_, ?_⟩; rotate_left; (· go_simp; try with_reducible rfl); simp only [Act.put, List.setIfInBounds_toArray, List.getElem_toArray, List.getElem_cons_succ, List.getElem_cons_zero, List.set_cons_succ, List.set_cons_zero])
  (refine HoistK.yes (by rfl) (by kernel_rfl) ⟨?_, fun w' hSw => ?_, ?_⟩; rotate_left; (· obtain ⟨s0, s1, s2, s3, s4, s5, s6, s7, s8, s9⟩ := HF.out _ hSw; go_simp; try with_reducible rfl); simp only [Act.put, List.setIfInBounds_toArray, List.getElem_toArray, List.getElem_cons_succ, List.getElem_cons_zero, List.set_cons_succ, List.set_cons_zero])
  (refine HoistK.yes (by rfl) (by kernel_rfl) ⟨?_, fun w' hSw => ?_, ?_⟩; rotate_left; (· go_simp; try with_reducible rfl); simp only [Act.put, List.setIfInBounds_toArray, List.getElem_toArray, List.getElem_cons_succ, List.getElem_cons_zero, List.set_cons_succ, List.set_cons_zero])
  (refine HoistK.yes (by rfl) (by kernel_rfl) ⟨?_, fun w' hSw => ?_, ?_⟩; rotate_left; (· obtain ⟨s0, s1, s2, s3, s4, s5, s6, s7, s8, s9⟩ := HF.out _ hSw; go_simp; try with_reducible rfl); simp only [Act.put, List.setIfInBounds_toArray, List.getElem_toArray, List.getElem_cons_succ, List.getElem_cons_zero, List.set_cons_succ, List.set_cons_zero])
  (refine HoistK.yes (by rfl) (by kernel_rfl) ⟨?_, fun w' hSw => ?_, ?_⟩; rotate_left; (· go_simp; try with_reducible rfl); simp only [Act.put, List.setIfInBounds_toArray, List.getElem_toArray, List.getElem_cons_succ, List.getElem_cons_zero, List.set_cons_succ, List.set_cons_zero])
  (refine HoistK.yes (by rfl) (by kernel_rfl) ⟨?_, fun w' hSw => ?_, ?_⟩; rotate_left; (· obtain ⟨s0, s1, s2, s3, s4, s5, s6, s7, s8, s9⟩ := HF.out _ hSw; go_simp; try with_reducible rfl); simp only [Act.put, List.setIfInBounds_toArray, List.getElem_toArray, List.getElem_cons_succ, List.getElem_cons_zero, List.set_cons_succ, List.set_cons_zero])
  (refine HoistK.yes (by rfl) (by kernel_rfl) ⟨?_, fun w' hSw => ?_, ?_⟩; rotate_left; (· go_simp; try with_reducible rfl); simp only [Act.put, List.setIfInBounds_toArray, List.getElem_toArray, List.getElem_cons_succ, List.getElem_cons_zero, List.set_cons_succ, List.set_cons_zero])
  (refine HoistK.yes (by rfl) (by kernel_rfl) ⟨?_, fun w' hSw => ?_, ?_⟩; rotate_left; (· obtain ⟨s0, s1, s2, s3, s4, s5, s6, s7, s8, s9⟩ := HF.out _ hSw; go_simp; try with_reducible rfl); simp only [Act.put, List.setIfInBounds_toArray, List.getElem_toArray, List.getElem_cons_succ, List.getElem_cons_zero, List.set_cons_succ, List.set_cons_zero])
  (refine HoistK.yes (by rfl) (by kernel_rfl) ⟨?_, fun w' hSw => ?_, ?_⟩; rotate_left; (· go_simp; try with_reducible rfl); simp only [Act.put, List.setIfInBounds_toArray, List.getElem_toArray, List.getElem_cons_succ, List.getElem_cons_zero, List.set_cons_succ, List.set_cons_zero])
  (refine HoistK.load (by rfl) (by kernel_rfl) 23 _ rfl w.heap.size 7 rfl (u8s x7) _ (fun w' hw => (HF.out w' hw).2.2.2.2.2.2.2.1) Tryd.underlying23 rfl (by rw [u8s_length, l7]; kernel_rfl) ?_; simp only [Act.put, List.setIfInBounds_toArray, List.getElem_toArray, List.getElem_cons_succ, List.getElem_cons_zero, List.set_cons_succ, List.set_cons_zero])
  (refine HoistK.yes (by rfl) (by kernel_rfl) ⟨?_, fun w' hSw => ?_, ?_⟩; rotate_left; (· go_simp; try with_reducible rfl); simp only [Act.put, List.setIfInBounds_toArray, List.getElem_toArray, List.getElem_cons_succ, List.getElem_cons_zero, List.set_cons_succ, List.set_cons_zero])
  (refine HoistK.yes (by rfl) (by kernel_rfl) ⟨?_, fun w' hSw => ?_, ?_⟩; rotate_left; (· obtain ⟨s0, s1, s2, s3, s4, s5, s6, s7, s8, s9⟩ := HF.out _ hSw; go_simp; try with_reducible rfl); simp only [Act.put, List.setIfInBounds_toArray, List.getElem_toArray, List.getElem_cons_succ, List.getElem_cons_zero, List.set_cons_succ, List.set_cons_zero])
  (refine HoistK.yes (by rfl) (by kernel_rfl) ⟨?_, fun w' hSw => ?_, ?_⟩; rotate_left; (· go_simp; try with_reducible rfl); simp only [Act.put, List.setIfInBounds_toArray, List.getElem_toArray, List.getElem_cons_succ, List.getElem_cons_zero, List.set_cons_succ, List.set_cons_zero])
  (refine HoistK.yes (by rfl) (by kernel_rfl) ⟨?_, fun w' hSw => ?_, ?_⟩; rotate_left; (· obtain ⟨s0, s1, s2, s3, s4, s5, s6, s7, s8, s9⟩ := HF.out _ hSw; go_simp; try with_reducible rfl); simp only [Act.put, List.setIfInBounds_toArray, List.getElem_toArray, List.getElem_cons_succ, List.getElem_cons_zero, List.set_cons_succ, List.set_cons_zero])
  refine HoistK.nil_ ?_
  simp only [opsAt, List.filterMap_cons, List.filterMap_nil, List.getElem?_toArray, List.getElem?_cons_succ, List.getElem?_cons_zero]
  have hb0 : Blk (w.alloc (.cells C.toArray 91)).drew w.heap.size 91 C.toArray := (Blk.new w _ _).drew
  have g0 : Got w (w.alloc (.cells C.toArray 91)).drew [] [] := Got.start ((Below.refl _ w).alloc (Nat.le_refl _) _).drew
  refine Effects.cons_ fun _ hQ1 => ?_
  go_wp2_with fail
  refine (numInt_any _ _).mono ?_
  rintro e w1 ⟨v1, rfl, f1⟩
  have g1 := g0.step f1
  have hb1 := hb0.below f1.2 hb0.lt
  clear f1
  go_wp2_with fail
  refine hQ1 _ _ hb1 (Effects.cons_ fun _ hQ2 => ?_)
  clear hQ1 hb0 g0
  go_wp2_with fail
  refine (numU64_any _ _ Q1.out).mono ?_
  rintro e w2 ⟨v2, rfl, f2⟩
  have g2 := g1.step f2
  have hb2 := hb1.below f2.2 hb1.lt
  clear f2
  go_wp2_with fail
  refine hQ2 _ _ hb2 (Effects.cons_ fun _ hQ3 => ?_)
  clear hQ2 hb1 g1
  go_wp2_with fail
  refine (numU64_any _ _ Q2.out).mono ?_
  rintro e w3 ⟨v3, rfl, f3⟩
  have g3 := g2.step f3
  have hb3 := hb2.below f3.2 hb2.lt
  clear f3
  go_wp2_with fail
  refine hQ3 _ _ hb3 (Effects.cons_ fun _ hQ4 => ?_)
  clear hQ3 hb2 g2
  go_wp2_with fail
  refine (numU64_any _ _ Q3.out).mono ?_
  rintro e w4 ⟨v4, rfl, f4⟩
  have g4 := g3.step f4
  have hb4 := hb3.below f4.2 hb3.lt
  clear f4
  go_wp2_with fail
  refine hQ4 _ _ hb4 (Effects.cons_ fun _ hQ5 => ?_)
  clear hQ4 hb3 g3
  go_wp2_with fail
  refine (numU64_any _ _ Q4.out).mono ?_
  rintro e w5 ⟨v5, rfl, f5⟩
  have g5 := g4.step f5
  have hb5 := hb4.below f5.2 hb4.lt
  clear f5
  go_wp2_with fail
  refine hQ5 _ _ hb5 (Effects.cons_ fun _ hQ6 => ?_)
  clear hQ5 hb4 g4
  go_wp2_with fail
  refine (numInt_any _ _).mono ?_
  rintro e w6 ⟨v6, rfl, f6⟩
  have g6 := g5.step f6
  have hb6 := hb5.below f6.2 hb5.lt
  clear f6
  go_wp2_with fail
  refine hQ6 _ _ hb6 (Effects.cons_ fun _ hQ7 => ?_)
  clear hQ6 hb5 g5
  go_wp2_with fail
  refine (numInt64_any _ _).mono ?_
  rintro e w7 ⟨v7, rfl, f7⟩
  have g7 := g6.step f7
  have hb7 := hb6.below f7.2 hb6.lt
  clear f7
  go_wp2_with fail
  refine hQ7 _ _ hb7 (Effects.cons_ fun _ hQ8 => ?_)
  clear hQ7 hb6 g6
  go_wp2_with fail
  refine (digest_any _ _ l7).mono ?_
  rintro e w8 ⟨v8, rfl, f8⟩
  have g8 := g7.step f8
  have hb8 := hb7.below f8.2 hb7.lt
  clear f8
  go_wp2_with fail
  refine hQ8 _ _ hb8 (Effects.cons_ fun _ hQ9 => ?_)
  clear hQ8 hb7 g7
  go_wp2_with fail
  refine (numInt_any _ _).mono ?_
  rintro e w9 ⟨v9, rfl, f9⟩
  have g9 := g8.step f9
  have hb9 := hb8.below f9.2 hb8.lt
  clear f9
  go_wp2_with fail
  refine hQ9 _ _ hb9 (Effects.cons_ fun _ hQ10 => ?_)
  clear hQ9 hb8 g8
  go_wp2_with fail
  refine (listFact_any _ (Sh.rep_below R9.out g9.1) (by have h1 := HLL.out; rw [joinB_length] at h1; have h2 := joinP_mem (l := [numB x0, numB x1, numB x2, numB x3, numB x4, numB x5, numB x6, x7, numB x8, (Sh.list tFact).enc x9]) (x := (Sh.list tFact).enc x9) (by simp); omega)).mono ?_
  rintro e w10 ⟨v10, rfl, f10⟩
  have g10 := g9.step f10
  have hb10 := hb9.below f10.2 hb9.lt
  clear f10
  go_wp2_with fail
  refine hQ10 _ _ hb10 (Effects.nil_ fun _ hQ11 => ?_)
  clear hQ10 hb9 g9
  have hcs : ∀ v ∈ [v1, v2, v3, v4, v5, v6, v7, v8, v9, v10], v.cells = #[v] := fun v hv => by
    obtain ⟨i, hi, rfl⟩ := List.getElem_of_mem hv
    obtain ⟨y, _, hr⟩ := g10.2.get i hi
    obtain ⟨A, c, e⟩ := hr.form
    have e' : [v1, v2, v3, v4, v5, v6, v7, v8, v9, v10][i] = .slice A y.length c := e
    rw [e']; rfl
  refine wpList_rows rfl 10 _ rfl [v1, v2, v3, v4, v5, v6, v7, v8, v9, v10] rfl (by decide) (by decide) hcs (by simp [Act.eval]) ?_
  have hr : Bsr (w10.alloc (.cells [v1, v2, v3, v4, v5, v6, v7, v8, v9, v10].toArray 28)) (fun b => b < w10.heap.size + 1) (.slice (some ⟨w10.heap.size, 0, none⟩) 10 10) [numB x0, numB x1, numB x2, numB x3, numB x4, numB x5, numB x6, x7, numB x8, (Sh.list tFact).enc x9] := g10.row (by simp [maxLen]) 28
  have hj := join_any _ hr (by have := HLL.out; omega) (fun b hb => by simpa using hb)
  have hbb : Below w.heap.size w (w10.alloc (.cells [v1, v2, v3, v4, v5, v6, v7, v8, v9, v10].toArray 28)) := g10.1.alloc g10.1.size _
  have HJ := Lib.hid hj
  have HBB := Lib.hid hbb
  clear hj hbb hr g10 hcs
  go_wp2_with fail
  refine HJ.out.mono ?_
  rintro e w11 ⟨v11, rfl, f11⟩
  go_wp2_with fail
  go_ret
  exact ⟨v11, rfl, f11.1.sub fun b hb _ => ⟨Nat.le_trans HBB.out.size hb.1, hb.2⟩, HBB.out.trans (f11.2.mono HBB.out.size)⟩

end Go.Proofs.YtjjgmkfkmckkoaaDoor

/- Codec: list[Tx]. -/
namespace Go.Proofs.YtjjgmkfkmckkoaaDoor
open Go.RowKit Go.Maps
attribute [-simp] Tryd.isAgg23 Tryd.typeInfo23 Tryd.isAgg91 Tryd.typeInfo91

set_option maxHeartbeats 2000000 in
set_option maxRecDepth 100000 in
theorem listTx_any (w : World) {S : Nat → Prop} {v : Value} {l : List (tTx).El} (h : (Sh.list tTx).rep w S l [v]) (hl : ((Sh.list tTx).enc l).length ≤ 1099511627776) :
    Calls Tryd.prog 35 #[v, .func (Fn.func 36) #[] #[]] w fun e w' => ∃ v', e = .returned v' ∧ Fresh w w' v' ((Sh.list tTx).enc l) := by
  obtain ⟨A, cap, rfl, hlen, hat⟩ := list_at h
  have H := Lib.hid h; clear h
  have hl' : (joinB (l.map (tTx).enc)).length ≤ 1099511627776 := hl
  have hcnt := joinP_count (l.map (tTx).enc)
  rw [joinB_length] at hl'
  rw [List.length_map] at hcnt
  have HLL := Lib.hid hl
  clear hl hat
  go_enter Tryd.func35, Tryd.ntmps35
  go_wp2_with fail
  go_loopw [5, 10] (fun a i wr => ∃ k : Nat, k ≤ l.length ∧ i = .int .i64 k ∧ Bss wr (fun b => w.heap.size ≤ b) (fun b => w.heap.size ≤ b) a ((l.take k).map (tTx).enc) ∧ Below w.heap.size w wr) (fun _ i _ => l.length - (intOf i).toNat)
  case atStart => exact ⟨0, Nat.zero_le _, rfl, Bss.nil_ _ _ _, Below.refl _ _⟩
  case round =>
    obtain ⟨k, hk, rfl, hB, hbl⟩ := hrel
    by_cases hlt : k < l.length
    · obtain ⟨R, hR⟩ : ∃ R, R = (l.take k).map (tTx).enc := ⟨_, rfl⟩
      rw [← hR] at hB
      have hRl : R.length = k := by rw [hR, List.length_map, List.length_take]; omega
      have hnext : (l.take (k + 1)).map (tTx).enc = R ++ [(tTx).enc l[k]] := by rw [List.take_succ_eq_append_getElem hlt, List.map_append, ← hR]; rfl
      obtain ⟨Aa, ca, rfl⟩ := hB.form
      obtain ⟨_, _, e, _, hat⟩ := list_at (Sh.rep_below H.out hbl)
      injection e with e1 e2 e3
      subst e1 e3
      obtain ⟨b, off, c, rfl, hca, hr, hcl, _, _⟩ := hat k hlt
      obtain ⟨x, hx⟩ : ∃ x, x = l[k] := ⟨_, rfl⟩
      rw [← hx] at hr hnext
      have hsm2 : ((tTx).enc x).length ≤ 1099511627776 := by
        have h1 := joinP_mem (List.mem_map.2 ⟨l[k], List.getElem_mem hlt, rfl⟩ : (tTx).enc l[k] ∈ l.map (tTx).enc)
        rw [hx]; omega
      have hinfo : (Tryd.prog.info? 91).map (·.size) = some c.length := by rw [hcl]; kernel_rfl
      have HC1 := Lib.hid (Sh.rep_one _ _ _ hr)
      have HCA := Lib.hid (show wr.rangeAt b (off + k * 41) c from hca)
      have HI := Lib.hid hinfo
      have HCL := Lib.hid hcl
      have HREP := Lib.hid hr
      have HSM := Lib.hid hsm2
      clear hinfo hr hsm2
      have hown : ∀ k, (Value.slice Aa R.length ca).ownBlock = some k → k < wr.heap.size := fun k hk => by obtain ⟨vs, ho, _⟩ := hB; exact own_lt ho hk
      have HB := Lib.hid hB
      have HN := Lib.hid hnext
      have HRL := Lib.hid hRl
      have HOWN := Lib.hid hown
      clear hB hca hcl hat hx hR hnext hRl hown
      go_wp2_with (first | (refine wpList_load_mid rfl 91 _ rfl b (off + k * 41) rfl c _ HCA.out Tryd.underlying91 rfl HI.out ?_) | (refine wpList_store_blk (cs0 := [.int .i64 0, .int .u64 0, .int .u64 0, .int .u64 0, .int .u64 0, .int .i64 0, .int .i64 0] ++ List.replicate 32 (.int .u8 0) ++ [.int .i64 0, .slice none 0 0]) (cs := c) rfl 91 _ _ rfl (Blk.new wr _ _) rfl rfl (by rw [HCL.out]; rfl) HI.out HC1.out ?_; intro w4 hb4 hc4; have HB4 := Lib.hid hb4; have HC4 := Lib.hid hc4; clear hb4 hc4) | (refine wpList_load_blk' rfl 91 _ rfl HB4.out rfl Tryd.underlying91 rfl HI.out ?_))
      have hbw4 : Below wr.heap.size wr w4 := ((Below.refl _ wr).alloc (Nat.le_refl _) _).trans (HC4.out.below (by simp) fun b hb => Nat.le_of_eq hb.symm)
      have hr := Sh.rep_below HREP.out hbw4
      refine (tx_any _ hr HSM.out).mono ?_
      rintro e w1 ⟨v1, rfl, f4⟩
      have f1 : Fresh wr w1 v1 _ := ⟨f4.1.sub fun b hb _ => ⟨Nat.le_trans hbw4.size hb.1, hb.2⟩, hbw4.trans (f4.2.mono hbw4.size)⟩
      clear f4 hr
      have hb1 := hbl.trans (f1.2.mono hbl.size)
      obtain ⟨y, hy⟩ : ∃ y, y = (tTx).enc x := ⟨_, rfl⟩
      have f1 : Fresh wr w1 v1 y := hy ▸ f1
      rw [← hy] at HN
      obtain ⟨A1, c1, rfl⟩ := f1.1.form
      obtain ⟨vs, ho, hS, hr⟩ := HB.out.below f1.2
      have hsz1 := f1.2.size
      have hal : Below w1.heap.size w1 (w1.alloc (.cells #[.slice A1 y.length c1] 28)) := (Below.refl _ w1).alloc (Nat.le_refl _) _
      have HAL := Lib.hid hal
      have HO := Lib.hid (show Own (w1.alloc (.cells #[.slice A1 y.length c1] 28)) _ _ _ _ _ from own_keep ho fun k hk => hal.block k (own_lt ho hk))
      have HS := Lib.hid hS
      have HR := Lib.hid (fun i x u h1 h2 => (hr i x u h1 h2).below hal)
      have HU := Lib.hid ((f1.1.1.below hal).sub (T := fun b => w.heap.size ≤ b ∧ (Value.slice Aa R.length ca).ownBlock ≠ some b) fun b hb _ => ⟨Nat.le_trans hbl.size hb.1, fun e => by have := HOWN.out b e; omega⟩)
      have HS2 := Lib.hid (Cs.of_new w1 28 (size := 1) 1 (cs := [.slice A1 y.length c1]) rfl (by simp only [maxLen]; decide))
      have H63 := Lib.hid (show R.length + 1 ≤ maxLen ∧ (R.length + 1) * 24 ≤ 140737488355328 from by have := HRL.out; refine ⟨by simp only [maxLen]; omega, by omega⟩)
      clear ho hS hr hal f1 hy
      go_wp2_with (at_builtin; refine wpList_app _ rfl _ _ _ rfl Tryd.underlying93 info_row rfl (by decide) HO.out rfl HS2.out rfl (by simp [Value.oneCell']) H63.out.1 H63.out.2 ?_; intro v3 w3 ho3 hg3 hnil3 hat3; clear hnil3; have HO3 := Lib.hid ho3; clear ho3; have HG3 := Lib.hid hg3; clear hg3; have HAT3 := Lib.hid hat3; clear hat3)
      have hpush := Bss.push HO.out HS.out HR.out HU.out HO3.out HG3.out HAT3.out (by have := hb1.size; have := HAL.out.size; omega)
      rw [← HN.out] at hpush
      refine ⟨⟨k + 1, by omega, by push_cast; rfl, hpush, (hb1.trans (HAL.out.mono hb1.size)).trans (HG3.out.below (Nat.le_trans hb1.size HAL.out.size) fun b h => HS.out b h)⟩, ?_⟩
      simp only [intOf]
      omega
    · have hk' : k = l.length := by omega
      rw [hk', List.take_length] at hB
      have hsm : ∀ x ∈ l.map (tTx).enc, x.length ≤ 140737488355328 := fun x hx => by have := joinP_mem hx; omega
      have hj := join_any _ ((hB.read hsm).lt_ (T := fun b => w.heap.size ≤ b) fun b h => h.elim id id) (by rw [joinB_length]; omega) fun b h => h.2
      have HJ := Lib.hid hj
      obtain ⟨R, hR⟩ : ∃ R, R = l.map (tTx).enc := ⟨_, rfl⟩
      have HR := Lib.hid hR
      rw [← hR] at hB HJ
      obtain ⟨Aa, ca, rfl⟩ := hB.form
      clear hj hB hR hsm
      go_wp2_with fail
      refine HJ.out.mono ?_
      rintro e w1 ⟨v1, rfl, f1⟩
      go_wp2_with fail
      go_ret
      refine ⟨v1, rfl, ?_, hbl.trans (f1.2.mono hbl.size)⟩
      have := f1.1.sub (T := fun b => w.heap.size ≤ b ∧ Th w1 b) fun b hb _ => ⟨Nat.le_trans hbl.size hb.1, hb.2⟩
      rw [HR.out] at this
      exact this

end Go.Proofs.YtjjgmkfkmckkoaaDoor

/- Codec: list[Commit]. -/
namespace Go.Proofs.YtjjgmkfkmckkoaaDoor
open Go.RowKit Go.Maps
attribute [-simp] Tryd.isAgg23 Tryd.typeInfo23 Tryd.isAgg46 Tryd.typeInfo46

set_option maxHeartbeats 2000000 in
set_option maxRecDepth 100000 in
theorem listCommit_any (w : World) {S : Nat → Prop} {v : Value} {l : List (tCommit).El} (h : (Sh.list tCommit).rep w S l [v]) (hl : ((Sh.list tCommit).enc l).length ≤ 1099511627776) :
    Calls Tryd.prog 33 #[v, .func (Fn.func 34) #[] #[]] w fun e w' => ∃ v', e = .returned v' ∧ Fresh w w' v' ((Sh.list tCommit).enc l) := by
  obtain ⟨A, cap, rfl, hlen, hat⟩ := list_at h
  have H := Lib.hid h; clear h
  have hl' : (joinB (l.map (tCommit).enc)).length ≤ 1099511627776 := hl
  have hcnt := joinP_count (l.map (tCommit).enc)
  rw [joinB_length] at hl'
  rw [List.length_map] at hcnt
  have HLL := Lib.hid hl
  clear hl hat
  go_enter Tryd.func33, Tryd.ntmps33
  go_wp2_with fail
  go_loopw [5, 10] (fun a i wr => ∃ k : Nat, k ≤ l.length ∧ i = .int .i64 k ∧ Bss wr (fun b => w.heap.size ≤ b) (fun b => w.heap.size ≤ b) a ((l.take k).map (tCommit).enc) ∧ Below w.heap.size w wr) (fun _ i _ => l.length - (intOf i).toNat)
  case atStart => exact ⟨0, Nat.zero_le _, rfl, Bss.nil_ _ _ _, Below.refl _ _⟩
  case round =>
    obtain ⟨k, hk, rfl, hB, hbl⟩ := hrel
    by_cases hlt : k < l.length
    · obtain ⟨R, hR⟩ : ∃ R, R = (l.take k).map (tCommit).enc := ⟨_, rfl⟩
      rw [← hR] at hB
      have hRl : R.length = k := by rw [hR, List.length_map, List.length_take]; omega
      have hnext : (l.take (k + 1)).map (tCommit).enc = R ++ [(tCommit).enc l[k]] := by rw [List.take_succ_eq_append_getElem hlt, List.map_append, ← hR]; rfl
      obtain ⟨Aa, ca, rfl⟩ := hB.form
      obtain ⟨_, _, e, _, hat⟩ := list_at (Sh.rep_below H.out hbl)
      injection e with e1 e2 e3
      subst e1 e3
      obtain ⟨b, off, c, rfl, hca, hr, hcl, _, _⟩ := hat k hlt
      obtain ⟨x, hx⟩ : ∃ x, x = l[k] := ⟨_, rfl⟩
      rw [← hx] at hr hnext
      have hsm2 : ((tCommit).enc x).length ≤ 1099511627776 := by
        have h1 := joinP_mem (List.mem_map.2 ⟨l[k], List.getElem_mem hlt, rfl⟩ : (tCommit).enc l[k] ∈ l.map (tCommit).enc)
        rw [hx]; omega
      have hinfo : (Tryd.prog.info? 46).map (·.size) = some c.length := by rw [hcl]; kernel_rfl
      have HC1 := Lib.hid (Sh.rep_one _ _ _ hr)
      have HCA := Lib.hid (show wr.rangeAt b (off + k * 38) c from hca)
      have HI := Lib.hid hinfo
      have HCL := Lib.hid hcl
      have HREP := Lib.hid hr
      have HSM := Lib.hid hsm2
      clear hinfo hr hsm2
      have hown : ∀ k, (Value.slice Aa R.length ca).ownBlock = some k → k < wr.heap.size := fun k hk => by obtain ⟨vs, ho, _⟩ := hB; exact own_lt ho hk
      have HB := Lib.hid hB
      have HN := Lib.hid hnext
      have HRL := Lib.hid hRl
      have HOWN := Lib.hid hown
      clear hB hca hcl hat hx hR hnext hRl hown
      go_wp2_with (first | (refine wpList_load_mid rfl 46 _ rfl b (off + k * 38) rfl c _ HCA.out Tryd.underlying46 rfl HI.out ?_) | (refine wpList_store_blk (cs0 := [.slice none 0 0] ++ ([.int .i64 0, .int .i64 0, .int .i64 0] ++ List.replicate 32 (.int .u8 0) ++ [.slice none 0 0, .slice none 0 0])) (cs := c) rfl 46 _ _ rfl (Blk.new wr _ _) rfl rfl (by rw [HCL.out]; rfl) HI.out HC1.out ?_; intro w4 hb4 hc4; have HB4 := Lib.hid hb4; have HC4 := Lib.hid hc4; clear hb4 hc4) | (refine wpList_load_blk' rfl 46 _ rfl HB4.out rfl Tryd.underlying46 rfl HI.out ?_))
      have hbw4 : Below wr.heap.size wr w4 := ((Below.refl _ wr).alloc (Nat.le_refl _) _).trans (HC4.out.below (by simp) fun b hb => Nat.le_of_eq hb.symm)
      have hr := Sh.rep_below HREP.out hbw4
      refine (commit_any _ hr HSM.out).mono ?_
      rintro e w1 ⟨v1, rfl, f4⟩
      have f1 : Fresh wr w1 v1 _ := ⟨f4.1.sub fun b hb _ => ⟨Nat.le_trans hbw4.size hb.1, hb.2⟩, hbw4.trans (f4.2.mono hbw4.size)⟩
      clear f4 hr
      have hb1 := hbl.trans (f1.2.mono hbl.size)
      obtain ⟨y, hy⟩ : ∃ y, y = (tCommit).enc x := ⟨_, rfl⟩
      have f1 : Fresh wr w1 v1 y := hy ▸ f1
      rw [← hy] at HN
      obtain ⟨A1, c1, rfl⟩ := f1.1.form
      obtain ⟨vs, ho, hS, hr⟩ := HB.out.below f1.2
      have hsz1 := f1.2.size
      have hal : Below w1.heap.size w1 (w1.alloc (.cells #[.slice A1 y.length c1] 28)) := (Below.refl _ w1).alloc (Nat.le_refl _) _
      have HAL := Lib.hid hal
      have HO := Lib.hid (show Own (w1.alloc (.cells #[.slice A1 y.length c1] 28)) _ _ _ _ _ from own_keep ho fun k hk => hal.block k (own_lt ho hk))
      have HS := Lib.hid hS
      have HR := Lib.hid (fun i x u h1 h2 => (hr i x u h1 h2).below hal)
      have HU := Lib.hid ((f1.1.1.below hal).sub (T := fun b => w.heap.size ≤ b ∧ (Value.slice Aa R.length ca).ownBlock ≠ some b) fun b hb _ => ⟨Nat.le_trans hbl.size hb.1, fun e => by have := HOWN.out b e; omega⟩)
      have HS2 := Lib.hid (Cs.of_new w1 28 (size := 1) 1 (cs := [.slice A1 y.length c1]) rfl (by simp only [maxLen]; decide))
      have H63 := Lib.hid (show R.length + 1 ≤ maxLen ∧ (R.length + 1) * 24 ≤ 140737488355328 from by have := HRL.out; refine ⟨by simp only [maxLen]; omega, by omega⟩)
      clear ho hS hr hal f1 hy
      go_wp2_with (at_builtin; refine wpList_app _ rfl _ _ _ rfl Tryd.underlying93 info_row rfl (by decide) HO.out rfl HS2.out rfl (by simp [Value.oneCell']) H63.out.1 H63.out.2 ?_; intro v3 w3 ho3 hg3 hnil3 hat3; clear hnil3; have HO3 := Lib.hid ho3; clear ho3; have HG3 := Lib.hid hg3; clear hg3; have HAT3 := Lib.hid hat3; clear hat3)
      have hpush := Bss.push HO.out HS.out HR.out HU.out HO3.out HG3.out HAT3.out (by have := hb1.size; have := HAL.out.size; omega)
      rw [← HN.out] at hpush
      refine ⟨⟨k + 1, by omega, by push_cast; rfl, hpush, (hb1.trans (HAL.out.mono hb1.size)).trans (HG3.out.below (Nat.le_trans hb1.size HAL.out.size) fun b h => HS.out b h)⟩, ?_⟩
      simp only [intOf]
      omega
    · have hk' : k = l.length := by omega
      rw [hk', List.take_length] at hB
      have hsm : ∀ x ∈ l.map (tCommit).enc, x.length ≤ 140737488355328 := fun x hx => by have := joinP_mem hx; omega
      have hj := join_any _ ((hB.read hsm).lt_ (T := fun b => w.heap.size ≤ b) fun b h => h.elim id id) (by rw [joinB_length]; omega) fun b h => h.2
      have HJ := Lib.hid hj
      obtain ⟨R, hR⟩ : ∃ R, R = l.map (tCommit).enc := ⟨_, rfl⟩
      have HR := Lib.hid hR
      rw [← hR] at hB HJ
      obtain ⟨Aa, ca, rfl⟩ := hB.form
      clear hj hB hR hsm
      go_wp2_with fail
      refine HJ.out.mono ?_
      rintro e w1 ⟨v1, rfl, f1⟩
      go_wp2_with fail
      go_ret
      refine ⟨v1, rfl, ?_, hbl.trans (f1.2.mono hbl.size)⟩
      have := f1.1.sub (T := fun b => w.heap.size ≤ b ∧ Th w1 b) fun b hb _ => ⟨Nat.le_trans hbl.size hb.1, hb.2⟩
      rw [HR.out] at this
      exact this

end Go.Proofs.YtjjgmkfkmckkoaaDoor

/- Codec: a block. -/
namespace Go.Proofs.YtjjgmkfkmckkoaaDoor
open Go.RowKit Go.Maps
attribute [-simp] Tryd.isAgg23 Tryd.typeInfo23 Tryd.isAgg25 Tryd.typeInfo25 Tryd.isAgg43 Tryd.typeInfo43 Tryd.isAgg51 Tryd.typeInfo51

set_option maxHeartbeats 4000000 in
set_option maxRecDepth 100000 in
theorem block_any (w : World) {S : Nat → Prop} {x : tBlock.El} {cs : List Value} (h : tBlock.rep w S x cs) (hl : (tBlock.enc x).length ≤ 1099511627776) :
    Calls Tryd.prog 28 #[.agg cs.toArray] w fun e w' => ∃ v', e = .returned v' ∧ Fresh w w' v' (tBlock.enc x) := by
  obtain ⟨x0, x1, x2, x3, x4, _⟩ := x
  obtain ⟨c0, _, rfl, r0, c1, _, rfl, r1, c2, _, rfl, r2, c3, _, rfl, r3, c4, _, rfl, r4, rfl⟩ := h
  have l0 : c0.length = 101 := Sh.rep_size _ _ _ r0
  obtain ⟨y0, hy0⟩ : ∃ y, y = c0 := ⟨_, rfl⟩
  subst hy0
  have l1 : c1.length = 37 := Sh.rep_size _ _ _ r1
  obtain ⟨y1, hy1⟩ : ∃ y, y = c1 := ⟨_, rfl⟩
  subst hy1
  obtain ⟨y2, rfl⟩ : ∃ y, c2 = [y] := by obtain ⟨v, _, e, _⟩ := r2; exact ⟨v, e⟩
  obtain ⟨y3, rfl⟩ : ∃ y, c3 = [y] := by obtain ⟨v, _, e, _⟩ := r3; exact ⟨v, e⟩
  have l4 : c4.length = 33 := Sh.rep_size _ _ _ r4
  obtain ⟨y4, hy4⟩ : ∃ y, y = c4 := ⟨_, rfl⟩
  subst hy4
  have R0 := Lib.hid r0; clear r0
  have R1 := Lib.hid r1; clear r1
  have R2 := Lib.hid r2; clear r2
  have R3 := Lib.hid r3; clear r3
  have R4 := Lib.hid r4; clear r4
  obtain ⟨C, hC⟩ : ∃ C, C = y0 ++ (y1 ++ ([y2] ++ ([y3] ++ (y4 ++ ([]))))) := ⟨_, rfl⟩
  rw [← hC]
  have hf : ∀ w', Blk w' w.heap.size 79 C.toArray → w'.rangeAt w.heap.size 0 y0 ∧ w'.rangeAt w.heap.size 101 y1 ∧ w'.cell? ⟨w.heap.size, 138, none⟩ = some y2 ∧ w'.cell? ⟨w.heap.size, 139, none⟩ = some y3 ∧ w'.rangeAt w.heap.size 140 y4 := fun w' hb => by
    have := hb.lies [y0, y1, [y2], [y3], y4] [] (by rw [hC]; simp)
    simp only [Lies, l0, l1, List.length_cons, List.length_nil] at this
    obtain ⟨s0, s1, s2, s3, s4, _⟩ := this
    exact ⟨s0, s1, Lies.one s2, Lies.one s3, s4⟩
  have HF := Lib.hid hf
  clear hf hC
  have hrows : tBlock.enc (x0, x1, x2, x3, x4, ()) = joinB [tHeader.enc x0, tQC.enc x1, (Sh.list tCommit).enc x2, (Sh.list tTx).enc x3, tSig.enc x4] := rfl
  have hl' : (joinB [tHeader.enc x0, tQC.enc x1, (Sh.list tCommit).enc x2, (Sh.list tTx).enc x3, tSig.enc x4]).length ≤ 1099511627776 := hl
  have HLL := Lib.hid hl'
  clear hl hl'
  go_enter Tryd.func28, Tryd.ntmps28
  go_wp2_with fail
  have hsz : w.heap.size < w.heap.size + 1 := by omega
  refine wp_region_hoist [0, 1, 3, 4, 6, 7, 9, 10, 12, 13] [2, 5, 8, 11, 14] [15, 16, 17] (fun w' => Blk w' w.heap.size 79 C.toArray)
    (by kernel_rfl) (by kernel_rfl) (by kernel_rfl) (by kernel_rfl) (by kernel_rfl) (by kernel_rfl) (Blk.new w _ _).drew ?_
  (refine HoistK.yes (by rfl) (by kernel_rfl) ⟨?_, fun w' hSw => ?_, ?_⟩; rotate_left; (· go_simp; try with_reducible rfl); simp only [Act.put, List.setIfInBounds_toArray, List.getElem_toArray, List.getElem_cons_zero, List.set_cons_succ, List.set_cons_zero])
  (refine HoistK.load (by rfl) (by kernel_rfl) 25 _ rfl w.heap.size 0 rfl (y0) _ (fun w' hw => (HF.out w' hw).1) Tryd.underlying25 rfl (by rw [l0]; kernel_rfl) ?_; simp only [Act.put, List.setIfInBounds_toArray, List.getElem_toArray, List.getElem_cons_succ, List.getElem_cons_zero, List.set_cons_succ, List.set_cons_zero])
  (refine HoistK.yes (by rfl) (by kernel_rfl) ⟨?_, fun w' hSw => ?_, ?_⟩; rotate_left; (· go_simp; try with_reducible rfl); simp only [Act.put, List.setIfInBounds_toArray, List.getElem_toArray, List.getElem_cons_succ, List.getElem_cons_zero, List.set_cons_succ, List.set_cons_zero])
  (refine HoistK.load (by rfl) (by kernel_rfl) 43 _ rfl w.heap.size 101 rfl (y1) _ (fun w' hw => (HF.out w' hw).2.1) Tryd.underlying43 rfl (by rw [l1]; kernel_rfl) ?_; simp only [Act.put, List.setIfInBounds_toArray, List.getElem_toArray, List.getElem_cons_succ, List.getElem_cons_zero, List.set_cons_succ, List.set_cons_zero])
  (refine HoistK.yes (by rfl) (by kernel_rfl) ⟨?_, fun w' hSw => ?_, ?_⟩; rotate_left; (· go_simp; try with_reducible rfl); simp only [Act.put, List.setIfInBounds_toArray, List.getElem_toArray, List.getElem_cons_succ, List.getElem_cons_zero, List.set_cons_succ, List.set_cons_zero])
  (refine HoistK.yes (by rfl) (by kernel_rfl) ⟨?_, fun w' hSw => ?_, ?_⟩; rotate_left; (· obtain ⟨s0, s1, s2, s3, s4⟩ := HF.out _ hSw; go_simp; try with_reducible rfl); simp only [Act.put, List.setIfInBounds_toArray, List.getElem_toArray, List.getElem_cons_succ, List.getElem_cons_zero, List.set_cons_succ, List.set_cons_zero])
  (refine HoistK.yes (by rfl) (by kernel_rfl) ⟨?_, fun w' hSw => ?_, ?_⟩; rotate_left; (· go_simp; try with_reducible rfl); simp only [Act.put, List.setIfInBounds_toArray, List.getElem_toArray, List.getElem_cons_succ, List.getElem_cons_zero, List.set_cons_succ, List.set_cons_zero])
  (refine HoistK.yes (by rfl) (by kernel_rfl) ⟨?_, fun w' hSw => ?_, ?_⟩; rotate_left; (· obtain ⟨s0, s1, s2, s3, s4⟩ := HF.out _ hSw; go_simp; try with_reducible rfl); simp only [Act.put, List.setIfInBounds_toArray, List.getElem_toArray, List.getElem_cons_succ, List.getElem_cons_zero, List.set_cons_succ, List.set_cons_zero])
  (refine HoistK.yes (by rfl) (by kernel_rfl) ⟨?_, fun w' hSw => ?_, ?_⟩; rotate_left; (· go_simp; try with_reducible rfl); simp only [Act.put, List.setIfInBounds_toArray, List.getElem_toArray, List.getElem_cons_succ, List.getElem_cons_zero, List.set_cons_succ, List.set_cons_zero])
  (refine HoistK.load (by rfl) (by kernel_rfl) 51 _ rfl w.heap.size 140 rfl (y4) _ (fun w' hw => (HF.out w' hw).2.2.2.2) Tryd.underlying51 rfl (by rw [l4]; kernel_rfl) ?_; simp only [Act.put, List.setIfInBounds_toArray, List.getElem_toArray, List.getElem_cons_succ, List.getElem_cons_zero, List.set_cons_succ, List.set_cons_zero])
  refine HoistK.nil_ ?_
  simp only [opsAt, List.filterMap_cons, List.filterMap_nil, List.getElem?_toArray, List.getElem?_cons_succ, List.getElem?_cons_zero]
  have hb0 : Blk (w.alloc (.cells C.toArray 79)).drew w.heap.size 79 C.toArray := (Blk.new w _ _).drew
  have g0 : Got w (w.alloc (.cells C.toArray 79)).drew [] [] := Got.start ((Below.refl _ w).alloc (Nat.le_refl _) _).drew
  refine Effects.cons_ fun _ hQ1 => ?_
  go_wp2_with fail
  refine (header_any _ (Sh.rep_below R0.out g0.1)).mono ?_
  rintro e w1 ⟨v1, rfl, f1⟩
  have g1 := g0.step f1
  have hb1 := hb0.below f1.2 hb0.lt
  clear f1
  go_wp2_with fail
  refine hQ1 _ _ hb1 (Effects.cons_ fun _ hQ2 => ?_)
  clear hQ1 hb0 g0
  go_wp2_with fail
  refine (qc_any _ (Sh.rep_below R1.out g1.1) (by have h1 := HLL.out; rw [joinB_length] at h1; have h2 := joinP_mem (l := [tHeader.enc x0, tQC.enc x1, (Sh.list tCommit).enc x2, (Sh.list tTx).enc x3, tSig.enc x4]) (x := tQC.enc x1) (by simp); omega)).mono ?_
  rintro e w2 ⟨v2, rfl, f2⟩
  have g2 := g1.step f2
  have hb2 := hb1.below f2.2 hb1.lt
  clear f2
  go_wp2_with fail
  refine hQ2 _ _ hb2 (Effects.cons_ fun _ hQ3 => ?_)
  clear hQ2 hb1 g1
  go_wp2_with fail
  refine (listCommit_any _ (Sh.rep_below R2.out g2.1) (by have h1 := HLL.out; rw [joinB_length] at h1; have h2 := joinP_mem (l := [tHeader.enc x0, tQC.enc x1, (Sh.list tCommit).enc x2, (Sh.list tTx).enc x3, tSig.enc x4]) (x := (Sh.list tCommit).enc x2) (by simp); omega)).mono ?_
  rintro e w3 ⟨v3, rfl, f3⟩
  have g3 := g2.step f3
  have hb3 := hb2.below f3.2 hb2.lt
  clear f3
  go_wp2_with fail
  refine hQ3 _ _ hb3 (Effects.cons_ fun _ hQ4 => ?_)
  clear hQ3 hb2 g2
  go_wp2_with fail
  refine (listTx_any _ (Sh.rep_below R3.out g3.1) (by have h1 := HLL.out; rw [joinB_length] at h1; have h2 := joinP_mem (l := [tHeader.enc x0, tQC.enc x1, (Sh.list tCommit).enc x2, (Sh.list tTx).enc x3, tSig.enc x4]) (x := (Sh.list tTx).enc x3) (by simp); omega)).mono ?_
  rintro e w4 ⟨v4, rfl, f4⟩
  have g4 := g3.step f4
  have hb4 := hb3.below f4.2 hb3.lt
  clear f4
  go_wp2_with fail
  refine hQ4 _ _ hb4 (Effects.cons_ fun _ hQ5 => ?_)
  clear hQ4 hb3 g3
  go_wp2_with fail
  refine (sig_any _ (Sh.rep_below R4.out g4.1) (by have h1 := HLL.out; rw [joinB_length] at h1; have h2 := joinP_mem (l := [tHeader.enc x0, tQC.enc x1, (Sh.list tCommit).enc x2, (Sh.list tTx).enc x3, tSig.enc x4]) (x := tSig.enc x4) (by simp); omega)).mono ?_
  rintro e w5 ⟨v5, rfl, f5⟩
  have g5 := g4.step f5
  have hb5 := hb4.below f5.2 hb4.lt
  clear f5
  go_wp2_with fail
  refine hQ5 _ _ hb5 (Effects.nil_ fun _ hQ6 => ?_)
  clear hQ5 hb4 g4
  have hcs : ∀ v ∈ [v1, v2, v3, v4, v5], v.cells = #[v] := fun v hv => by
    obtain ⟨i, hi, rfl⟩ := List.getElem_of_mem hv
    obtain ⟨y, _, hr⟩ := g5.2.get i hi
    obtain ⟨A, c, e⟩ := hr.form
    have e' : [v1, v2, v3, v4, v5][i] = .slice A y.length c := e
    rw [e']; rfl
  refine wpList_rows rfl 5 _ rfl [v1, v2, v3, v4, v5] rfl (by decide) (by decide) hcs (by simp [Act.eval]) ?_
  have hr : Bsr (w5.alloc (.cells [v1, v2, v3, v4, v5].toArray 28)) (fun b => b < w5.heap.size + 1) (.slice (some ⟨w5.heap.size, 0, none⟩) 5 5) [tHeader.enc x0, tQC.enc x1, (Sh.list tCommit).enc x2, (Sh.list tTx).enc x3, tSig.enc x4] := g5.row (by simp [maxLen]) 28
  have hj := join_any _ hr (by have := HLL.out; omega) (fun b hb => by simpa using hb)
  have hbb : Below w.heap.size w (w5.alloc (.cells [v1, v2, v3, v4, v5].toArray 28)) := g5.1.alloc g5.1.size _
  have HJ := Lib.hid hj
  have HBB := Lib.hid hbb
  clear hj hbb hr g5 hcs
  go_wp2_with fail
  refine HJ.out.mono ?_
  rintro e w6 ⟨v6, rfl, f6⟩
  go_wp2_with fail
  go_ret
  exact ⟨v6, rfl, f6.1.sub fun b hb _ => ⟨Nat.le_trans HBB.out.size hb.1, hb.2⟩, HBB.out.trans (f6.2.mono HBB.out.size)⟩

end Go.Proofs.YtjjgmkfkmckkoaaDoor

/- Codec: list[Block]. -/
namespace Go.Proofs.YtjjgmkfkmckkoaaDoor
open Go.RowKit Go.Maps
attribute [-simp] Tryd.isAgg23 Tryd.typeInfo23 Tryd.isAgg79 Tryd.typeInfo79

set_option maxHeartbeats 2000000 in
set_option maxRecDepth 100000 in
theorem listBlock_any (w : World) {S : Nat → Prop} {v : Value} {l : List (tBlock).El} (h : (Sh.list tBlock).rep w S l [v]) (hl : ((Sh.list tBlock).enc l).length ≤ 1099511627776) :
    Calls Tryd.prog 27 #[v, .func (Fn.func 28) #[] #[]] w fun e w' => ∃ v', e = .returned v' ∧ Fresh w w' v' ((Sh.list tBlock).enc l) := by
  obtain ⟨A, cap, rfl, hlen, hat⟩ := list_at h
  have H := Lib.hid h; clear h
  have hl' : (joinB (l.map (tBlock).enc)).length ≤ 1099511627776 := hl
  have hcnt := joinP_count (l.map (tBlock).enc)
  rw [joinB_length] at hl'
  rw [List.length_map] at hcnt
  have HLL := Lib.hid hl
  clear hl hat
  go_enter Tryd.func27, Tryd.ntmps27
  go_wp2_with fail
  go_loopw [5, 10] (fun a i wr => ∃ k : Nat, k ≤ l.length ∧ i = .int .i64 k ∧ Bss wr (fun b => w.heap.size ≤ b) (fun b => w.heap.size ≤ b) a ((l.take k).map (tBlock).enc) ∧ Below w.heap.size w wr) (fun _ i _ => l.length - (intOf i).toNat)
  case atStart => exact ⟨0, Nat.zero_le _, rfl, Bss.nil_ _ _ _, Below.refl _ _⟩
  case round =>
    obtain ⟨k, hk, rfl, hB, hbl⟩ := hrel
    by_cases hlt : k < l.length
    · obtain ⟨R, hR⟩ : ∃ R, R = (l.take k).map (tBlock).enc := ⟨_, rfl⟩
      rw [← hR] at hB
      have hRl : R.length = k := by rw [hR, List.length_map, List.length_take]; omega
      have hnext : (l.take (k + 1)).map (tBlock).enc = R ++ [(tBlock).enc l[k]] := by rw [List.take_succ_eq_append_getElem hlt, List.map_append, ← hR]; rfl
      obtain ⟨Aa, ca, rfl⟩ := hB.form
      obtain ⟨_, _, e, _, hat⟩ := list_at (Sh.rep_below H.out hbl)
      injection e with e1 e2 e3
      subst e1 e3
      obtain ⟨b, off, c, rfl, hca, hr, hcl, _, _⟩ := hat k hlt
      obtain ⟨x, hx⟩ : ∃ x, x = l[k] := ⟨_, rfl⟩
      rw [← hx] at hr hnext
      have hsm2 : ((tBlock).enc x).length ≤ 1099511627776 := by
        have h1 := joinP_mem (List.mem_map.2 ⟨l[k], List.getElem_mem hlt, rfl⟩ : (tBlock).enc l[k] ∈ l.map (tBlock).enc)
        rw [hx]; omega
      have hinfo : (Tryd.prog.info? 79).map (·.size) = some c.length := by rw [hcl]; kernel_rfl
      have HC1 := Lib.hid (Sh.rep_one _ _ _ hr)
      have HCA := Lib.hid (show wr.rangeAt b (off + k * 173) c from hca)
      have HI := Lib.hid hinfo
      have HCL := Lib.hid hcl
      have HREP := Lib.hid hr
      have HSM := Lib.hid hsm2
      clear hinfo hr hsm2
      have hown : ∀ k, (Value.slice Aa R.length ca).ownBlock = some k → k < wr.heap.size := fun k hk => by obtain ⟨vs, ho, _⟩ := hB; exact own_lt ho hk
      have HB := Lib.hid hB
      have HN := Lib.hid hnext
      have HRL := Lib.hid hRl
      have HOWN := Lib.hid hown
      clear hB hca hcl hat hx hR hnext hRl hown
      go_wp2_with (first | (refine wpList_load_mid rfl 79 _ rfl b (off + k * 173) rfl c _ HCA.out Tryd.underlying79 rfl HI.out ?_) | (refine wpList_store_blk (cs0 := ([.int .i64 0, .int .i64 0, .int .i64 0, .int .i64 0] ++ List.replicate 96 (.int .u8 0) ++ [.int .i64 0]) ++ ([.int .i64 0, .int .i64 0, .int .i64 0] ++ List.replicate 32 (.int .u8 0) ++ [.slice none 0 0, .slice none 0 0]) ++ [.slice none 0 0, .slice none 0 0] ++ ([.int .i64 0] ++ List.replicate 32 (.int .u8 0))) (cs := c) rfl 79 _ _ rfl (Blk.new wr _ _) rfl rfl (by rw [HCL.out]; rfl) HI.out HC1.out ?_; intro w4 hb4 hc4; have HB4 := Lib.hid hb4; have HC4 := Lib.hid hc4; clear hb4 hc4) | (refine wpList_load_blk' rfl 79 _ rfl HB4.out rfl Tryd.underlying79 rfl HI.out ?_))
      have hbw4 : Below wr.heap.size wr w4 := ((Below.refl _ wr).alloc (Nat.le_refl _) _).trans (HC4.out.below (by simp) fun b hb => Nat.le_of_eq hb.symm)
      have hr := Sh.rep_below HREP.out hbw4
      refine (block_any _ hr HSM.out).mono ?_
      rintro e w1 ⟨v1, rfl, f4⟩
      have f1 : Fresh wr w1 v1 _ := ⟨f4.1.sub fun b hb _ => ⟨Nat.le_trans hbw4.size hb.1, hb.2⟩, hbw4.trans (f4.2.mono hbw4.size)⟩
      clear f4 hr
      have hb1 := hbl.trans (f1.2.mono hbl.size)
      obtain ⟨y, hy⟩ : ∃ y, y = (tBlock).enc x := ⟨_, rfl⟩
      have f1 : Fresh wr w1 v1 y := hy ▸ f1
      rw [← hy] at HN
      obtain ⟨A1, c1, rfl⟩ := f1.1.form
      obtain ⟨vs, ho, hS, hr⟩ := HB.out.below f1.2
      have hsz1 := f1.2.size
      have hal : Below w1.heap.size w1 (w1.alloc (.cells #[.slice A1 y.length c1] 28)) := (Below.refl _ w1).alloc (Nat.le_refl _) _
      have HAL := Lib.hid hal
      have HO := Lib.hid (show Own (w1.alloc (.cells #[.slice A1 y.length c1] 28)) _ _ _ _ _ from own_keep ho fun k hk => hal.block k (own_lt ho hk))
      have HS := Lib.hid hS
      have HR := Lib.hid (fun i x u h1 h2 => (hr i x u h1 h2).below hal)
      have HU := Lib.hid ((f1.1.1.below hal).sub (T := fun b => w.heap.size ≤ b ∧ (Value.slice Aa R.length ca).ownBlock ≠ some b) fun b hb _ => ⟨Nat.le_trans hbl.size hb.1, fun e => by have := HOWN.out b e; omega⟩)
      have HS2 := Lib.hid (Cs.of_new w1 28 (size := 1) 1 (cs := [.slice A1 y.length c1]) rfl (by simp only [maxLen]; decide))
      have H63 := Lib.hid (show R.length + 1 ≤ maxLen ∧ (R.length + 1) * 24 ≤ 140737488355328 from by have := HRL.out; refine ⟨by simp only [maxLen]; omega, by omega⟩)
      clear ho hS hr hal f1 hy
      go_wp2_with (at_builtin; refine wpList_app _ rfl _ _ _ rfl Tryd.underlying93 info_row rfl (by decide) HO.out rfl HS2.out rfl (by simp [Value.oneCell']) H63.out.1 H63.out.2 ?_; intro v3 w3 ho3 hg3 hnil3 hat3; clear hnil3; have HO3 := Lib.hid ho3; clear ho3; have HG3 := Lib.hid hg3; clear hg3; have HAT3 := Lib.hid hat3; clear hat3)
      have hpush := Bss.push HO.out HS.out HR.out HU.out HO3.out HG3.out HAT3.out (by have := hb1.size; have := HAL.out.size; omega)
      rw [← HN.out] at hpush
      refine ⟨⟨k + 1, by omega, by push_cast; rfl, hpush, (hb1.trans (HAL.out.mono hb1.size)).trans (HG3.out.below (Nat.le_trans hb1.size HAL.out.size) fun b h => HS.out b h)⟩, ?_⟩
      simp only [intOf]
      omega
    · have hk' : k = l.length := by omega
      rw [hk', List.take_length] at hB
      have hsm : ∀ x ∈ l.map (tBlock).enc, x.length ≤ 140737488355328 := fun x hx => by have := joinP_mem hx; omega
      have hj := join_any _ ((hB.read hsm).lt_ (T := fun b => w.heap.size ≤ b) fun b h => h.elim id id) (by rw [joinB_length]; omega) fun b h => h.2
      have HJ := Lib.hid hj
      obtain ⟨R, hR⟩ : ∃ R, R = l.map (tBlock).enc := ⟨_, rfl⟩
      have HR := Lib.hid hR
      rw [← hR] at hB HJ
      obtain ⟨Aa, ca, rfl⟩ := hB.form
      clear hj hB hR hsm
      go_wp2_with fail
      refine HJ.out.mono ?_
      rintro e w1 ⟨v1, rfl, f1⟩
      go_wp2_with fail
      go_ret
      refine ⟨v1, rfl, ?_, hbl.trans (f1.2.mono hbl.size)⟩
      have := f1.1.sub (T := fun b => w.heap.size ≤ b ∧ Th w1 b) fun b hb _ => ⟨Nat.le_trans hbl.size hb.1, hb.2⟩
      rw [HR.out] at this
      exact this

end Go.Proofs.YtjjgmkfkmckkoaaDoor

/- Codec: list[Vote]. -/
namespace Go.Proofs.YtjjgmkfkmckkoaaDoor
open Go.RowKit Go.Maps
attribute [-simp] Tryd.isAgg23 Tryd.typeInfo23 Tryd.isAgg53 Tryd.typeInfo53

set_option maxHeartbeats 2000000 in
set_option maxRecDepth 100000 in
theorem listVote_any (w : World) {S : Nat → Prop} {v : Value} {l : List (tVote).El} (h : (Sh.list tVote).rep w S l [v]) (hl : ((Sh.list tVote).enc l).length ≤ 1099511627776) :
    Calls Tryd.prog 29 #[v, .func (Fn.func 30) #[] #[]] w fun e w' => ∃ v', e = .returned v' ∧ Fresh w w' v' ((Sh.list tVote).enc l) := by
  obtain ⟨A, cap, rfl, hlen, hat⟩ := list_at h
  have H := Lib.hid h; clear h
  have hl' : (joinB (l.map (tVote).enc)).length ≤ 1099511627776 := hl
  have hcnt := joinP_count (l.map (tVote).enc)
  rw [joinB_length] at hl'
  rw [List.length_map] at hcnt
  have HLL := Lib.hid hl
  clear hl hat
  go_enter Tryd.func29, Tryd.ntmps29
  go_wp2_with fail
  go_loopw [5, 10] (fun a i wr => ∃ k : Nat, k ≤ l.length ∧ i = .int .i64 k ∧ Bss wr (fun b => w.heap.size ≤ b) (fun b => w.heap.size ≤ b) a ((l.take k).map (tVote).enc) ∧ Below w.heap.size w wr) (fun _ i _ => l.length - (intOf i).toNat)
  case atStart => exact ⟨0, Nat.zero_le _, rfl, Bss.nil_ _ _ _, Below.refl _ _⟩
  case round =>
    obtain ⟨k, hk, rfl, hB, hbl⟩ := hrel
    by_cases hlt : k < l.length
    · obtain ⟨R, hR⟩ : ∃ R, R = (l.take k).map (tVote).enc := ⟨_, rfl⟩
      rw [← hR] at hB
      have hRl : R.length = k := by rw [hR, List.length_map, List.length_take]; omega
      have hnext : (l.take (k + 1)).map (tVote).enc = R ++ [(tVote).enc l[k]] := by rw [List.take_succ_eq_append_getElem hlt, List.map_append, ← hR]; rfl
      obtain ⟨Aa, ca, rfl⟩ := hB.form
      obtain ⟨_, _, e, _, hat⟩ := list_at (Sh.rep_below H.out hbl)
      injection e with e1 e2 e3
      subst e1 e3
      obtain ⟨b, off, c, rfl, hca, hr, hcl, _, _⟩ := hat k hlt
      obtain ⟨x, hx⟩ : ∃ x, x = l[k] := ⟨_, rfl⟩
      rw [← hx] at hr hnext
      have hsm2 : ((tVote).enc x).length ≤ 1099511627776 := by
        have h1 := joinP_mem (List.mem_map.2 ⟨l[k], List.getElem_mem hlt, rfl⟩ : (tVote).enc l[k] ∈ l.map (tVote).enc)
        rw [hx]; omega
      have hinfo : (Tryd.prog.info? 53).map (·.size) = some c.length := by rw [hcl]; kernel_rfl
      have HC1 := Lib.hid (Sh.rep_one _ _ _ hr)
      have HCA := Lib.hid (show wr.rangeAt b (off + k * 69) c from hca)
      have HI := Lib.hid hinfo
      have HCL := Lib.hid hcl
      have HREP := Lib.hid hr
      have HSM := Lib.hid hsm2
      clear hinfo hr hsm2
      have hown : ∀ k, (Value.slice Aa R.length ca).ownBlock = some k → k < wr.heap.size := fun k hk => by obtain ⟨vs, ho, _⟩ := hB; exact own_lt ho hk
      have HB := Lib.hid hB
      have HN := Lib.hid hnext
      have HRL := Lib.hid hRl
      have HOWN := Lib.hid hown
      clear hB hca hcl hat hx hR hnext hRl hown
      go_wp2_with (first | (refine wpList_load_mid rfl 53 _ rfl b (off + k * 69) rfl c _ HCA.out Tryd.underlying53 rfl HI.out ?_) | (refine wpList_store_blk (cs0 := [.int .i64 0, .int .i64 0, .int .i64 0] ++ List.replicate 32 (.int .u8 0) ++ [.int .i64 0] ++ ([.int .i64 0] ++ List.replicate 32 (.int .u8 0))) (cs := c) rfl 53 _ _ rfl (Blk.new wr _ _) rfl rfl (by rw [HCL.out]; rfl) HI.out HC1.out ?_; intro w4 hb4 hc4; have HB4 := Lib.hid hb4; have HC4 := Lib.hid hc4; clear hb4 hc4) | (refine wpList_load_blk' rfl 53 _ rfl HB4.out rfl Tryd.underlying53 rfl HI.out ?_))
      have hbw4 : Below wr.heap.size wr w4 := ((Below.refl _ wr).alloc (Nat.le_refl _) _).trans (HC4.out.below (by simp) fun b hb => Nat.le_of_eq hb.symm)
      have hr := Sh.rep_below HREP.out hbw4
      refine (vote_any _ hr HSM.out).mono ?_
      rintro e w1 ⟨v1, rfl, f4⟩
      have f1 : Fresh wr w1 v1 _ := ⟨f4.1.sub fun b hb _ => ⟨Nat.le_trans hbw4.size hb.1, hb.2⟩, hbw4.trans (f4.2.mono hbw4.size)⟩
      clear f4 hr
      have hb1 := hbl.trans (f1.2.mono hbl.size)
      obtain ⟨y, hy⟩ : ∃ y, y = (tVote).enc x := ⟨_, rfl⟩
      have f1 : Fresh wr w1 v1 y := hy ▸ f1
      rw [← hy] at HN
      obtain ⟨A1, c1, rfl⟩ := f1.1.form
      obtain ⟨vs, ho, hS, hr⟩ := HB.out.below f1.2
      have hsz1 := f1.2.size
      have hal : Below w1.heap.size w1 (w1.alloc (.cells #[.slice A1 y.length c1] 28)) := (Below.refl _ w1).alloc (Nat.le_refl _) _
      have HAL := Lib.hid hal
      have HO := Lib.hid (show Own (w1.alloc (.cells #[.slice A1 y.length c1] 28)) _ _ _ _ _ from own_keep ho fun k hk => hal.block k (own_lt ho hk))
      have HS := Lib.hid hS
      have HR := Lib.hid (fun i x u h1 h2 => (hr i x u h1 h2).below hal)
      have HU := Lib.hid ((f1.1.1.below hal).sub (T := fun b => w.heap.size ≤ b ∧ (Value.slice Aa R.length ca).ownBlock ≠ some b) fun b hb _ => ⟨Nat.le_trans hbl.size hb.1, fun e => by have := HOWN.out b e; omega⟩)
      have HS2 := Lib.hid (Cs.of_new w1 28 (size := 1) 1 (cs := [.slice A1 y.length c1]) rfl (by simp only [maxLen]; decide))
      have H63 := Lib.hid (show R.length + 1 ≤ maxLen ∧ (R.length + 1) * 24 ≤ 140737488355328 from by have := HRL.out; refine ⟨by simp only [maxLen]; omega, by omega⟩)
      clear ho hS hr hal f1 hy
      go_wp2_with (at_builtin; refine wpList_app _ rfl _ _ _ rfl Tryd.underlying93 info_row rfl (by decide) HO.out rfl HS2.out rfl (by simp [Value.oneCell']) H63.out.1 H63.out.2 ?_; intro v3 w3 ho3 hg3 hnil3 hat3; clear hnil3; have HO3 := Lib.hid ho3; clear ho3; have HG3 := Lib.hid hg3; clear hg3; have HAT3 := Lib.hid hat3; clear hat3)
      have hpush := Bss.push HO.out HS.out HR.out HU.out HO3.out HG3.out HAT3.out (by have := hb1.size; have := HAL.out.size; omega)
      rw [← HN.out] at hpush
      refine ⟨⟨k + 1, by omega, by push_cast; rfl, hpush, (hb1.trans (HAL.out.mono hb1.size)).trans (HG3.out.below (Nat.le_trans hb1.size HAL.out.size) fun b h => HS.out b h)⟩, ?_⟩
      simp only [intOf]
      omega
    · have hk' : k = l.length := by omega
      rw [hk', List.take_length] at hB
      have hsm : ∀ x ∈ l.map (tVote).enc, x.length ≤ 140737488355328 := fun x hx => by have := joinP_mem hx; omega
      have hj := join_any _ ((hB.read hsm).lt_ (T := fun b => w.heap.size ≤ b) fun b h => h.elim id id) (by rw [joinB_length]; omega) fun b h => h.2
      have HJ := Lib.hid hj
      obtain ⟨R, hR⟩ : ∃ R, R = l.map (tVote).enc := ⟨_, rfl⟩
      have HR := Lib.hid hR
      rw [← hR] at hB HJ
      obtain ⟨Aa, ca, rfl⟩ := hB.form
      clear hj hB hR hsm
      go_wp2_with fail
      refine HJ.out.mono ?_
      rintro e w1 ⟨v1, rfl, f1⟩
      go_wp2_with fail
      go_ret
      refine ⟨v1, rfl, ?_, hbl.trans (f1.2.mono hbl.size)⟩
      have := f1.1.sub (T := fun b => w.heap.size ≤ b ∧ Th w1 b) fun b hb _ => ⟨Nat.le_trans hbl.size hb.1, hb.2⟩
      rw [HR.out] at this
      exact this

end Go.Proofs.YtjjgmkfkmckkoaaDoor

/- Codec: list[Timeout]. -/
namespace Go.Proofs.YtjjgmkfkmckkoaaDoor
open Go.RowKit Go.Maps
attribute [-simp] Tryd.isAgg23 Tryd.typeInfo23 Tryd.isAgg55 Tryd.typeInfo55

set_option maxHeartbeats 2000000 in
set_option maxRecDepth 100000 in
theorem listTimeout_any (w : World) {S : Nat → Prop} {v : Value} {l : List (tTimeout).El} (h : (Sh.list tTimeout).rep w S l [v]) (hl : ((Sh.list tTimeout).enc l).length ≤ 1099511627776) :
    Calls Tryd.prog 31 #[v, .func (Fn.func 32) #[] #[]] w fun e w' => ∃ v', e = .returned v' ∧ Fresh w w' v' ((Sh.list tTimeout).enc l) := by
  obtain ⟨A, cap, rfl, hlen, hat⟩ := list_at h
  have H := Lib.hid h; clear h
  have hl' : (joinB (l.map (tTimeout).enc)).length ≤ 1099511627776 := hl
  have hcnt := joinP_count (l.map (tTimeout).enc)
  rw [joinB_length] at hl'
  rw [List.length_map] at hcnt
  have HLL := Lib.hid hl
  clear hl hat
  go_enter Tryd.func31, Tryd.ntmps31
  go_wp2_with fail
  go_loopw [5, 10] (fun a i wr => ∃ k : Nat, k ≤ l.length ∧ i = .int .i64 k ∧ Bss wr (fun b => w.heap.size ≤ b) (fun b => w.heap.size ≤ b) a ((l.take k).map (tTimeout).enc) ∧ Below w.heap.size w wr) (fun _ i _ => l.length - (intOf i).toNat)
  case atStart => exact ⟨0, Nat.zero_le _, rfl, Bss.nil_ _ _ _, Below.refl _ _⟩
  case round =>
    obtain ⟨k, hk, rfl, hB, hbl⟩ := hrel
    by_cases hlt : k < l.length
    · obtain ⟨R, hR⟩ : ∃ R, R = (l.take k).map (tTimeout).enc := ⟨_, rfl⟩
      rw [← hR] at hB
      have hRl : R.length = k := by rw [hR, List.length_map, List.length_take]; omega
      have hnext : (l.take (k + 1)).map (tTimeout).enc = R ++ [(tTimeout).enc l[k]] := by rw [List.take_succ_eq_append_getElem hlt, List.map_append, ← hR]; rfl
      obtain ⟨Aa, ca, rfl⟩ := hB.form
      obtain ⟨_, _, e, _, hat⟩ := list_at (Sh.rep_below H.out hbl)
      injection e with e1 e2 e3
      subst e1 e3
      obtain ⟨b, off, c, rfl, hca, hr, hcl, _, _⟩ := hat k hlt
      obtain ⟨x, hx⟩ : ∃ x, x = l[k] := ⟨_, rfl⟩
      rw [← hx] at hr hnext
      have hsm2 : ((tTimeout).enc x).length ≤ 1099511627776 := by
        have h1 := joinP_mem (List.mem_map.2 ⟨l[k], List.getElem_mem hlt, rfl⟩ : (tTimeout).enc l[k] ∈ l.map (tTimeout).enc)
        rw [hx]; omega
      have hinfo : (Tryd.prog.info? 55).map (·.size) = some c.length := by rw [hcl]; kernel_rfl
      have HC1 := Lib.hid (Sh.rep_one _ _ _ hr)
      have HCA := Lib.hid (show wr.rangeAt b (off + k * 74) c from hca)
      have HI := Lib.hid hinfo
      have HCL := Lib.hid hcl
      have HREP := Lib.hid hr
      have HSM := Lib.hid hsm2
      clear hinfo hr hsm2
      have hown : ∀ k, (Value.slice Aa R.length ca).ownBlock = some k → k < wr.heap.size := fun k hk => by obtain ⟨vs, ho, _⟩ := hB; exact own_lt ho hk
      have HB := Lib.hid hB
      have HN := Lib.hid hnext
      have HRL := Lib.hid hRl
      have HOWN := Lib.hid hown
      clear hB hca hcl hat hx hR hnext hRl hown
      go_wp2_with (first | (refine wpList_load_mid rfl 55 _ rfl b (off + k * 74) rfl c _ HCA.out Tryd.underlying55 rfl HI.out ?_) | (refine wpList_store_blk (cs0 := [.int .i64 0, .int .i64 0, .int .i64 0] ++ ([.int .i64 0, .int .i64 0, .int .i64 0] ++ List.replicate 32 (.int .u8 0) ++ [.slice none 0 0, .slice none 0 0]) ++ [.int .i64 0] ++ ([.int .i64 0] ++ List.replicate 32 (.int .u8 0))) (cs := c) rfl 55 _ _ rfl (Blk.new wr _ _) rfl rfl (by rw [HCL.out]; rfl) HI.out HC1.out ?_; intro w4 hb4 hc4; have HB4 := Lib.hid hb4; have HC4 := Lib.hid hc4; clear hb4 hc4) | (refine wpList_load_blk' rfl 55 _ rfl HB4.out rfl Tryd.underlying55 rfl HI.out ?_))
      have hbw4 : Below wr.heap.size wr w4 := ((Below.refl _ wr).alloc (Nat.le_refl _) _).trans (HC4.out.below (by simp) fun b hb => Nat.le_of_eq hb.symm)
      have hr := Sh.rep_below HREP.out hbw4
      refine (timeout_any _ hr HSM.out).mono ?_
      rintro e w1 ⟨v1, rfl, f4⟩
      have f1 : Fresh wr w1 v1 _ := ⟨f4.1.sub fun b hb _ => ⟨Nat.le_trans hbw4.size hb.1, hb.2⟩, hbw4.trans (f4.2.mono hbw4.size)⟩
      clear f4 hr
      have hb1 := hbl.trans (f1.2.mono hbl.size)
      obtain ⟨y, hy⟩ : ∃ y, y = (tTimeout).enc x := ⟨_, rfl⟩
      have f1 : Fresh wr w1 v1 y := hy ▸ f1
      rw [← hy] at HN
      obtain ⟨A1, c1, rfl⟩ := f1.1.form
      obtain ⟨vs, ho, hS, hr⟩ := HB.out.below f1.2
      have hsz1 := f1.2.size
      have hal : Below w1.heap.size w1 (w1.alloc (.cells #[.slice A1 y.length c1] 28)) := (Below.refl _ w1).alloc (Nat.le_refl _) _
      have HAL := Lib.hid hal
      have HO := Lib.hid (show Own (w1.alloc (.cells #[.slice A1 y.length c1] 28)) _ _ _ _ _ from own_keep ho fun k hk => hal.block k (own_lt ho hk))
      have HS := Lib.hid hS
      have HR := Lib.hid (fun i x u h1 h2 => (hr i x u h1 h2).below hal)
      have HU := Lib.hid ((f1.1.1.below hal).sub (T := fun b => w.heap.size ≤ b ∧ (Value.slice Aa R.length ca).ownBlock ≠ some b) fun b hb _ => ⟨Nat.le_trans hbl.size hb.1, fun e => by have := HOWN.out b e; omega⟩)
      have HS2 := Lib.hid (Cs.of_new w1 28 (size := 1) 1 (cs := [.slice A1 y.length c1]) rfl (by simp only [maxLen]; decide))
      have H63 := Lib.hid (show R.length + 1 ≤ maxLen ∧ (R.length + 1) * 24 ≤ 140737488355328 from by have := HRL.out; refine ⟨by simp only [maxLen]; omega, by omega⟩)
      clear ho hS hr hal f1 hy
      go_wp2_with (at_builtin; refine wpList_app _ rfl _ _ _ rfl Tryd.underlying93 info_row rfl (by decide) HO.out rfl HS2.out rfl (by simp [Value.oneCell']) H63.out.1 H63.out.2 ?_; intro v3 w3 ho3 hg3 hnil3 hat3; clear hnil3; have HO3 := Lib.hid ho3; clear ho3; have HG3 := Lib.hid hg3; clear hg3; have HAT3 := Lib.hid hat3; clear hat3)
      have hpush := Bss.push HO.out HS.out HR.out HU.out HO3.out HG3.out HAT3.out (by have := hb1.size; have := HAL.out.size; omega)
      rw [← HN.out] at hpush
      refine ⟨⟨k + 1, by omega, by push_cast; rfl, hpush, (hb1.trans (HAL.out.mono hb1.size)).trans (HG3.out.below (Nat.le_trans hb1.size HAL.out.size) fun b h => HS.out b h)⟩, ?_⟩
      simp only [intOf]
      omega
    · have hk' : k = l.length := by omega
      rw [hk', List.take_length] at hB
      have hsm : ∀ x ∈ l.map (tTimeout).enc, x.length ≤ 140737488355328 := fun x hx => by have := joinP_mem hx; omega
      have hj := join_any _ ((hB.read hsm).lt_ (T := fun b => w.heap.size ≤ b) fun b h => h.elim id id) (by rw [joinB_length]; omega) fun b h => h.2
      have HJ := Lib.hid hj
      obtain ⟨R, hR⟩ : ∃ R, R = l.map (tTimeout).enc := ⟨_, rfl⟩
      have HR := Lib.hid hR
      rw [← hR] at hB HJ
      obtain ⟨Aa, ca, rfl⟩ := hB.form
      clear hj hB hR hsm
      go_wp2_with fail
      refine HJ.out.mono ?_
      rintro e w1 ⟨v1, rfl, f1⟩
      go_wp2_with fail
      go_ret
      refine ⟨v1, rfl, ?_, hbl.trans (f1.2.mono hbl.size)⟩
      have := f1.1.sub (T := fun b => w.heap.size ≤ b ∧ Th w1 b) fun b hb _ => ⟨Nat.le_trans hbl.size hb.1, hb.2⟩
      rw [HR.out] at this
      exact this

end Go.Proofs.YtjjgmkfkmckkoaaDoor

/- Codec: a message. -/
namespace Go.Proofs.YtjjgmkfkmckkoaaDoor
open Go.RowKit Go.Maps
attribute [-simp] Tryd.isAgg23 Tryd.typeInfo23

set_option maxHeartbeats 4000000 in
set_option maxRecDepth 100000 in
theorem message_any (w : World) {S : Nat → Prop} {x : tMessage.El} {cs : List Value} (h : tMessage.rep w S x cs) (hl : (tMessage.enc x).length ≤ 1099511627776) :
    Calls Tryd.prog 11 #[.agg cs.toArray] w fun e w' => ∃ v', e = .returned v' ∧ Fresh w w' v' (tMessage.enc x) := by
  obtain ⟨x0, x1, x2, x3, x4, x5, x6, x7, x8, _⟩ := x
  obtain ⟨c0, _, rfl, ⟨rfl, _⟩, c1, _, rfl, ⟨rfl, _⟩, c2, _, rfl, ⟨rfl, _⟩, c3, _, rfl, ⟨rfl, l3⟩, c4, _, rfl, r4, c5, _, rfl, r5, c6, _, rfl, r6, c7, _, rfl, r7, c8, _, rfl, r8, rfl⟩ := h
  obtain ⟨y4, rfl⟩ : ∃ y, c4 = [y] := by obtain ⟨v, _, e, _⟩ := r4; exact ⟨v, e⟩
  obtain ⟨y5, rfl⟩ : ∃ y, c5 = [y] := by obtain ⟨v, _, e, _⟩ := r5; exact ⟨v, e⟩
  obtain ⟨y6, rfl⟩ : ∃ y, c6 = [y] := by obtain ⟨v, _, e, _⟩ := r6; exact ⟨v, e⟩
  obtain ⟨y7, rfl⟩ : ∃ y, c7 = [y] := by obtain ⟨v, _, e, _⟩ := r7; exact ⟨v, e⟩
  obtain ⟨y8, rfl⟩ : ∃ y, c8 = [y] := by obtain ⟨v, _, e, _⟩ := r8; exact ⟨v, e⟩
  have R4 := Lib.hid r4; clear r4
  have R5 := Lib.hid r5; clear r5
  have R6 := Lib.hid r6; clear r6
  have R7 := Lib.hid r7; clear r7
  have R8 := Lib.hid r8; clear r8
  simp only [nk_t]
  obtain ⟨C, hC⟩ : ∃ C, C = [Value.int .i64 x0] ++ ([Value.int .i64 x1] ++ ([Value.int .i64 x2] ++ (u8s x3 ++ ([y4] ++ ([y5] ++ ([y6] ++ ([y7] ++ ([y8] ++ ([]))))))))) := ⟨_, rfl⟩
  rw [← hC]
  have hf : ∀ w', Blk w' w.heap.size 37 C.toArray → w'.cell? ⟨w.heap.size, 0, none⟩ = some (.int .i64 x0) ∧ w'.cell? ⟨w.heap.size, 1, none⟩ = some (.int .i64 x1) ∧ w'.cell? ⟨w.heap.size, 2, none⟩ = some (.int .i64 x2) ∧ w'.rangeAt w.heap.size 3 (u8s x3) ∧ w'.cell? ⟨w.heap.size, 35, none⟩ = some y4 ∧ w'.cell? ⟨w.heap.size, 36, none⟩ = some y5 ∧ w'.cell? ⟨w.heap.size, 37, none⟩ = some y6 ∧ w'.cell? ⟨w.heap.size, 38, none⟩ = some y7 ∧ w'.cell? ⟨w.heap.size, 39, none⟩ = some y8 := fun w' hb => by
    have := hb.lies [[Value.int .i64 x0], [Value.int .i64 x1], [Value.int .i64 x2], u8s x3, [y4], [y5], [y6], [y7], [y8]] [] (by rw [hC]; simp)
    simp only [Lies, u8s_length, l3, List.length_cons, List.length_nil] at this
    obtain ⟨s0, s1, s2, s3, s4, s5, s6, s7, s8, _⟩ := this
    exact ⟨Lies.one s0, Lies.one s1, Lies.one s2, s3, Lies.one s4, Lies.one s5, Lies.one s6, Lies.one s7, Lies.one s8⟩
  have HF := Lib.hid hf
  clear hf hC
  have hrows : tMessage.enc (x0, x1, x2, x3, x4, x5, x6, x7, x8, ()) = joinB [numB x0, numB x1, numB x2, x3, (Sh.list tBlock).enc x4, (Sh.list tVote).enc x5, (Sh.list tTimeout).enc x6, (Sh.list tCommit).enc x7, (Sh.list tTx).enc x8] := rfl
  have hl' : (joinB [numB x0, numB x1, numB x2, x3, (Sh.list tBlock).enc x4, (Sh.list tVote).enc x5, (Sh.list tTimeout).enc x6, (Sh.list tCommit).enc x7, (Sh.list tTx).enc x8]).length ≤ 1099511627776 := hl
  have HLL := Lib.hid hl'
  clear hl hl'
  go_enter Tryd.func11, Tryd.ntmps11
  go_wp2_with fail
  have hsz : w.heap.size < w.heap.size + 1 := by omega
  refine wp_region_hoist [0, 1, 3, 4, 6, 7, 9, 10, 12, 13, 15, 16, 18, 19, 21, 22, 24, 25] [2, 5, 8, 11, 14, 17, 20, 23, 26] [27, 28, 29] (fun w' => Blk w' w.heap.size 37 C.toArray)
    (by kernel_rfl) (by kernel_rfl) (by kernel_rfl) (by kernel_rfl) (by kernel_rfl) (by kernel_rfl) (Blk.new w _ _).drew ?_
  (refine HoistK.yes (by rfl) (by kernel_rfl) ⟨?_, fun w' hSw => ?_, ?_⟩; rotate_left; (· go_simp; try with_reducible rfl); simp only [Act.put, List.setIfInBounds_toArray, List.getElem_toArray, List.getElem_cons_zero, List.set_cons_succ, List.set_cons_zero])
  (refine HoistK.yes (by rfl) (by kernel_rfl) ⟨?_, fun w' hSw => ?_, ?_⟩; rotate_left; (· obtain ⟨s0, s1, s2, s3, s4, s5, s6, s7, s8⟩ := HF.out _ hSw; go_simp; try with_reducible rfl); simp only [Act.put, List.setIfInBounds_toArray, List.getElem_toArray, List.getElem_cons_succ, List.getElem_cons_zero, List.set_cons_succ, List.set_cons_zero])
  (refine HoistK.yes (by rfl) (by kernel_rfl) ⟨?_, fun w' hSw => ?_, ?_⟩; rotate_left; (· go_simp; try with_reducible rfl); simp only [Act.put, List.setIfInBounds_toArray, List.getElem_toArray, List.getElem_cons_succ, List.getElem_cons_zero, List.set_cons_succ, List.set_cons_zero])
  (refine HoistK.yes (by rfl) (by kernel_rfl) ⟨?_, fun w' hSw => ?_, ?_⟩; rotate_left; (· obtain ⟨s0, s1, s2, s3, s4, s5, s6, s7, s8⟩ := HF.out _ hSw; go_simp; try with_reducible rfl); simp only [Act.put, List.setIfInBounds_toArray, List.getElem_toArray, List.getElem_cons_succ, List.getElem_cons_zero, List.set_cons_succ, List.set_cons_zero])
  (refine HoistK.yes (by rfl) (by kernel_rfl) ⟨?_, fun w' hSw => ?_, ?_⟩; rotate_left; (· go_simp; try with_reducible rfl); simp only [Act.put, List.setIfInBounds_toArray, List.getElem_toArray, List.getElem_cons_succ, List.getElem_cons_zero, List.set_cons_succ, List.set_cons_zero])
  (refine HoistK.yes (by rfl) (by kernel_rfl) ⟨?_, fun w' hSw => ?_, ?_⟩; rotate_left; (· obtain ⟨s0, s1, s2, s3, s4, s5, s6, s7, s8⟩ := HF.out _ hSw; go_simp; try with_reducible rfl); simp only [Act.put, List.setIfInBounds_toArray, List.getElem_toArray, List.getElem_cons_succ, List.getElem_cons_zero, List.set_cons_succ, List.set_cons_zero])
  (refine HoistK.yes (by rfl) (by kernel_rfl) ⟨?_, fun w' hSw => ?_, ?_⟩; rotate_left; (· go_simp; try with_reducible rfl); simp only [Act.put, List.setIfInBounds_toArray, List.getElem_toArray, List.getElem_cons_succ, List.getElem_cons_zero, List.set_cons_succ, List.set_cons_zero])
  (refine HoistK.load (by rfl) (by kernel_rfl) 23 _ rfl w.heap.size 3 rfl (u8s x3) _ (fun w' hw => (HF.out w' hw).2.2.2.1) Tryd.underlying23 rfl (by rw [u8s_length, l3]; kernel_rfl) ?_; simp only [Act.put, List.setIfInBounds_toArray, List.getElem_toArray, List.getElem_cons_succ, List.getElem_cons_zero, List.set_cons_succ, List.set_cons_zero])
  (refine HoistK.yes (by rfl) (by kernel_rfl) ⟨?_, fun w' hSw => ?_, ?_⟩; rotate_left; (· go_simp; try with_reducible rfl); simp only [Act.put, List.setIfInBounds_toArray, List.getElem_toArray, List.getElem_cons_succ, List.getElem_cons_zero, List.set_cons_succ, List.set_cons_zero])
  (refine HoistK.yes (by rfl) (by kernel_rfl) ⟨?_, fun w' hSw => ?_, ?_⟩; rotate_left; (· obtain ⟨s0, s1, s2, s3, s4, s5, s6, s7, s8⟩ := HF.out _ hSw; go_simp; try with_reducible rfl); simp only [Act.put, List.setIfInBounds_toArray, List.getElem_toArray, List.getElem_cons_succ, List.getElem_cons_zero, List.set_cons_succ, List.set_cons_zero])
  (refine HoistK.yes (by rfl) (by kernel_rfl) ⟨?_, fun w' hSw => ?_, ?_⟩; rotate_left; (· go_simp; try with_reducible rfl); simp only [Act.put, List.setIfInBounds_toArray, List.getElem_toArray, List.getElem_cons_succ, List.getElem_cons_zero, List.set_cons_succ, List.set_cons_zero])
  (refine HoistK.yes (by rfl) (by kernel_rfl) ⟨?_, fun w' hSw => ?_, ?_⟩; rotate_left; (· obtain ⟨s0, s1, s2, s3, s4, s5, s6, s7, s8⟩ := HF.out _ hSw; go_simp; try with_reducible rfl); simp only [Act.put, List.setIfInBounds_toArray, List.getElem_toArray, List.getElem_cons_succ, List.getElem_cons_zero, List.set_cons_succ, List.set_cons_zero])
  (refine HoistK.yes (by rfl) (by kernel_rfl) ⟨?_, fun w' hSw => ?_, ?_⟩; rotate_left; (· go_simp; try with_reducible rfl); simp only [Act.put, List.setIfInBounds_toArray, List.getElem_toArray, List.getElem_cons_succ, List.getElem_cons_zero, List.set_cons_succ, List.set_cons_zero])
  (refine HoistK.yes (by rfl) (by kernel_rfl) ⟨?_, fun w' hSw => ?_, ?_⟩; rotate_left; (· obtain ⟨s0, s1, s2, s3, s4, s5, s6, s7, s8⟩ := HF.out _ hSw; go_simp; try with_reducible rfl); simp only [Act.put, List.setIfInBounds_toArray, List.getElem_toArray, List.getElem_cons_succ, List.getElem_cons_zero, List.set_cons_succ, List.set_cons_zero])
  (refine HoistK.yes (by rfl) (by kernel_rfl) ⟨?_, fun w' hSw => ?_, ?_⟩; rotate_left; (· go_simp; try with_reducible rfl); simp only [Act.put, List.setIfInBounds_toArray, List.getElem_toArray, List.getElem_cons_succ, List.getElem_cons_zero, List.set_cons_succ, List.set_cons_zero])
  (refine HoistK.yes (by rfl) (by kernel_rfl) ⟨?_, fun w' hSw => ?_, ?_⟩; rotate_left; (· obtain ⟨s0, s1, s2, s3, s4, s5, s6, s7, s8⟩ := HF.out _ hSw; go_simp; try with_reducible rfl); simp only [Act.put, List.setIfInBounds_toArray, List.getElem_toArray, List.getElem_cons_succ, List.getElem_cons_zero, List.set_cons_succ, List.set_cons_zero])
  (refine HoistK.yes (by rfl) (by kernel_rfl) ⟨?_, fun w' hSw => ?_, ?_⟩; rotate_left; (· go_simp; try with_reducible rfl); simp only [Act.put, List.setIfInBounds_toArray, List.getElem_toArray, List.getElem_cons_succ, List.getElem_cons_zero, List.set_cons_succ, List.set_cons_zero])
  (refine HoistK.yes (by rfl) (by kernel_rfl) ⟨?_, fun w' hSw => ?_, ?_⟩; rotate_left; (· obtain ⟨s0, s1, s2, s3, s4, s5, s6, s7, s8⟩ := HF.out _ hSw; go_simp; try with_reducible rfl); simp only [Act.put, List.setIfInBounds_toArray, List.getElem_toArray, List.getElem_cons_succ, List.getElem_cons_zero, List.set_cons_succ, List.set_cons_zero])
  refine HoistK.nil_ ?_
  simp only [opsAt, List.filterMap_cons, List.filterMap_nil, List.getElem?_toArray, List.getElem?_cons_succ, List.getElem?_cons_zero]
  have hb0 : Blk (w.alloc (.cells C.toArray 37)).drew w.heap.size 37 C.toArray := (Blk.new w _ _).drew
  have g0 : Got w (w.alloc (.cells C.toArray 37)).drew [] [] := Got.start ((Below.refl _ w).alloc (Nat.le_refl _) _).drew
  refine Effects.cons_ fun _ hQ1 => ?_
  go_wp2_with fail
  refine (numInt_any _ _).mono ?_
  rintro e w1 ⟨v1, rfl, f1⟩
  have g1 := g0.step f1
  have hb1 := hb0.below f1.2 hb0.lt
  clear f1
  go_wp2_with fail
  refine hQ1 _ _ hb1 (Effects.cons_ fun _ hQ2 => ?_)
  clear hQ1 hb0 g0
  go_wp2_with fail
  refine (numInt_any _ _).mono ?_
  rintro e w2 ⟨v2, rfl, f2⟩
  have g2 := g1.step f2
  have hb2 := hb1.below f2.2 hb1.lt
  clear f2
  go_wp2_with fail
  refine hQ2 _ _ hb2 (Effects.cons_ fun _ hQ3 => ?_)
  clear hQ2 hb1 g1
  go_wp2_with fail
  refine (numInt64_any _ _).mono ?_
  rintro e w3 ⟨v3, rfl, f3⟩
  have g3 := g2.step f3
  have hb3 := hb2.below f3.2 hb2.lt
  clear f3
  go_wp2_with fail
  refine hQ3 _ _ hb3 (Effects.cons_ fun _ hQ4 => ?_)
  clear hQ3 hb2 g2
  go_wp2_with fail
  refine (digest_any _ _ l3).mono ?_
  rintro e w4 ⟨v4, rfl, f4⟩
  have g4 := g3.step f4
  have hb4 := hb3.below f4.2 hb3.lt
  clear f4
  go_wp2_with fail
  refine hQ4 _ _ hb4 (Effects.cons_ fun _ hQ5 => ?_)
  clear hQ4 hb3 g3
  go_wp2_with fail
  refine (listBlock_any _ (Sh.rep_below R4.out g4.1) (by have h1 := HLL.out; rw [joinB_length] at h1; have h2 := joinP_mem (l := [numB x0, numB x1, numB x2, x3, (Sh.list tBlock).enc x4, (Sh.list tVote).enc x5, (Sh.list tTimeout).enc x6, (Sh.list tCommit).enc x7, (Sh.list tTx).enc x8]) (x := (Sh.list tBlock).enc x4) (by simp); omega)).mono ?_
  rintro e w5 ⟨v5, rfl, f5⟩
  have g5 := g4.step f5
  have hb5 := hb4.below f5.2 hb4.lt
  clear f5
  go_wp2_with fail
  refine hQ5 _ _ hb5 (Effects.cons_ fun _ hQ6 => ?_)
  clear hQ5 hb4 g4
  go_wp2_with fail
  refine (listVote_any _ (Sh.rep_below R5.out g5.1) (by have h1 := HLL.out; rw [joinB_length] at h1; have h2 := joinP_mem (l := [numB x0, numB x1, numB x2, x3, (Sh.list tBlock).enc x4, (Sh.list tVote).enc x5, (Sh.list tTimeout).enc x6, (Sh.list tCommit).enc x7, (Sh.list tTx).enc x8]) (x := (Sh.list tVote).enc x5) (by simp); omega)).mono ?_
  rintro e w6 ⟨v6, rfl, f6⟩
  have g6 := g5.step f6
  have hb6 := hb5.below f6.2 hb5.lt
  clear f6
  go_wp2_with fail
  refine hQ6 _ _ hb6 (Effects.cons_ fun _ hQ7 => ?_)
  clear hQ6 hb5 g5
  go_wp2_with fail
  refine (listTimeout_any _ (Sh.rep_below R6.out g6.1) (by have h1 := HLL.out; rw [joinB_length] at h1; have h2 := joinP_mem (l := [numB x0, numB x1, numB x2, x3, (Sh.list tBlock).enc x4, (Sh.list tVote).enc x5, (Sh.list tTimeout).enc x6, (Sh.list tCommit).enc x7, (Sh.list tTx).enc x8]) (x := (Sh.list tTimeout).enc x6) (by simp); omega)).mono ?_
  rintro e w7 ⟨v7, rfl, f7⟩
  have g7 := g6.step f7
  have hb7 := hb6.below f7.2 hb6.lt
  clear f7
  go_wp2_with fail
  refine hQ7 _ _ hb7 (Effects.cons_ fun _ hQ8 => ?_)
  clear hQ7 hb6 g6
  go_wp2_with fail
  refine (listCommit_any _ (Sh.rep_below R7.out g7.1) (by have h1 := HLL.out; rw [joinB_length] at h1; have h2 := joinP_mem (l := [numB x0, numB x1, numB x2, x3, (Sh.list tBlock).enc x4, (Sh.list tVote).enc x5, (Sh.list tTimeout).enc x6, (Sh.list tCommit).enc x7, (Sh.list tTx).enc x8]) (x := (Sh.list tCommit).enc x7) (by simp); omega)).mono ?_
  rintro e w8 ⟨v8, rfl, f8⟩
  have g8 := g7.step f8
  have hb8 := hb7.below f8.2 hb7.lt
  clear f8
  go_wp2_with fail
  refine hQ8 _ _ hb8 (Effects.cons_ fun _ hQ9 => ?_)
  clear hQ8 hb7 g7
  go_wp2_with fail
  refine (listTx_any _ (Sh.rep_below R8.out g8.1) (by have h1 := HLL.out; rw [joinB_length] at h1; have h2 := joinP_mem (l := [numB x0, numB x1, numB x2, x3, (Sh.list tBlock).enc x4, (Sh.list tVote).enc x5, (Sh.list tTimeout).enc x6, (Sh.list tCommit).enc x7, (Sh.list tTx).enc x8]) (x := (Sh.list tTx).enc x8) (by simp); omega)).mono ?_
  rintro e w9 ⟨v9, rfl, f9⟩
  have g9 := g8.step f9
  have hb9 := hb8.below f9.2 hb8.lt
  clear f9
  go_wp2_with fail
  refine hQ9 _ _ hb9 (Effects.nil_ fun _ hQ10 => ?_)
  clear hQ9 hb8 g8
  have hcs : ∀ v ∈ [v1, v2, v3, v4, v5, v6, v7, v8, v9], v.cells = #[v] := fun v hv => by
    obtain ⟨i, hi, rfl⟩ := List.getElem_of_mem hv
    obtain ⟨y, _, hr⟩ := g9.2.get i hi
    obtain ⟨A, c, e⟩ := hr.form
    have e' : [v1, v2, v3, v4, v5, v6, v7, v8, v9][i] = .slice A y.length c := e
    rw [e']; rfl
  refine wpList_rows rfl 9 _ rfl [v1, v2, v3, v4, v5, v6, v7, v8, v9] rfl (by decide) (by decide) hcs (by simp [Act.eval]) ?_
  have hr : Bsr (w9.alloc (.cells [v1, v2, v3, v4, v5, v6, v7, v8, v9].toArray 28)) (fun b => b < w9.heap.size + 1) (.slice (some ⟨w9.heap.size, 0, none⟩) 9 9) [numB x0, numB x1, numB x2, x3, (Sh.list tBlock).enc x4, (Sh.list tVote).enc x5, (Sh.list tTimeout).enc x6, (Sh.list tCommit).enc x7, (Sh.list tTx).enc x8] := g9.row (by simp [maxLen]) 28
  have hj := join_any _ hr (by have := HLL.out; omega) (fun b hb => by simpa using hb)
  have hbb : Below w.heap.size w (w9.alloc (.cells [v1, v2, v3, v4, v5, v6, v7, v8, v9].toArray 28)) := g9.1.alloc g9.1.size _
  have HJ := Lib.hid hj
  have HBB := Lib.hid hbb
  clear hj hbb hr g9 hcs
  go_wp2_with fail
  refine HJ.out.mono ?_
  rintro e w10 ⟨v10, rfl, f10⟩
  go_wp2_with fail
  go_ret
  exact ⟨v10, rfl, f10.1.sub fun b hb _ => ⟨Nat.le_trans HBB.out.size hb.1, hb.2⟩, HBB.out.trans (f10.2.mono HBB.out.size)⟩

end Go.Proofs.YtjjgmkfkmckkoaaDoor

/- Codec: reference: a transaction. -/
namespace Go.Proofs.YtjjgmkfkmckkoaaDoor
open Go.RowKit Go.Maps
attribute [-simp] Tryd.isAgg23 Tryd.typeInfo23 Tryd.isAgg60 Tryd.typeInfo60

set_option maxHeartbeats 8000000 in
set_option maxRecDepth 100000 in
theorem rTx_any (w : World) {S : Nat → Prop} {x : tTx.El} {cs : List Value} (h : tTx.rep w S x cs) (hl : (tTx.enc x).length ≤ 1099511627776) :
    Calls Tryd.prog 41 #[.agg cs.toArray] w fun e w' => ∃ v', e = .returned v' ∧ Fresh w w' v' (tTx.enc x) := by
  obtain ⟨x0, x1, x2, x3, x4, x5, x6, x7, x8, x9, _⟩ := x
  obtain ⟨c0, _, rfl, ⟨rfl, _⟩, c1, _, rfl, ⟨rfl, q1⟩, c2, _, rfl, ⟨rfl, q2⟩, c3, _, rfl, ⟨rfl, q3⟩, c4, _, rfl, ⟨rfl, q4⟩, c5, _, rfl, ⟨rfl, _⟩, c6, _, rfl, ⟨rfl, _⟩, c7, _, rfl, ⟨rfl, l7⟩, c8, _, rfl, ⟨rfl, _⟩, c9, _, rfl, r9, rfl⟩ := h
  obtain ⟨y9, rfl⟩ : ∃ y, c9 = [y] := by obtain ⟨v, _, e, _⟩ := r9; exact ⟨v, e⟩
  obtain ⟨A9, cap9, rfl, hlen9, _⟩ := list_at r9
  have Q1 := Lib.hid q1; clear q1
  have Q2 := Lib.hid q2; clear q2
  have Q3 := Lib.hid q3; clear q3
  have Q4 := Lib.hid q4; clear q4
  have R9 := Lib.hid r9; clear r9
  simp only [nk_t, nk_f]
  obtain ⟨C, hC⟩ : ∃ C, C = [Value.int .i64 x0] ++ ([Value.int .u64 x1] ++ ([Value.int .u64 x2] ++ ([Value.int .u64 x3] ++ ([Value.int .u64 x4] ++ ([Value.int .i64 x5] ++ ([Value.int .i64 x6] ++ (u8s x7 ++ ([Value.int .i64 x8] ++ ([Value.slice A9 (List.length (α := (tFact).El) x9) cap9] ++ ([])))))))))) := ⟨_, rfl⟩
  rw [← hC]
  have hf : ∀ w', Blk w' w.heap.size 91 C.toArray → w'.cell? ⟨w.heap.size, 0, none⟩ = some (.int .i64 x0) ∧ w'.cell? ⟨w.heap.size, 1, none⟩ = some (.int .u64 x1) ∧ w'.cell? ⟨w.heap.size, 2, none⟩ = some (.int .u64 x2) ∧ w'.cell? ⟨w.heap.size, 3, none⟩ = some (.int .u64 x3) ∧ w'.cell? ⟨w.heap.size, 4, none⟩ = some (.int .u64 x4) ∧ w'.cell? ⟨w.heap.size, 5, none⟩ = some (.int .i64 x5) ∧ w'.cell? ⟨w.heap.size, 6, none⟩ = some (.int .i64 x6) ∧ w'.rangeAt w.heap.size 7 (u8s x7) ∧ w'.cell? ⟨w.heap.size, 39, none⟩ = some (.int .i64 x8) ∧ w'.cell? ⟨w.heap.size, 40, none⟩ = some (.slice A9 (List.length (α := (tFact).El) x9) cap9) := fun w' hb => by
    have := hb.lies [[Value.int .i64 x0], [Value.int .u64 x1], [Value.int .u64 x2], [Value.int .u64 x3], [Value.int .u64 x4], [Value.int .i64 x5], [Value.int .i64 x6], u8s x7, [Value.int .i64 x8], [Value.slice A9 (List.length (α := (tFact).El) x9) cap9]] [] (by rw [hC]; simp)
    simp only [Lies, u8s_length, l7, List.length_cons, List.length_nil] at this
    obtain ⟨s0, s1, s2, s3, s4, s5, s6, s7, s8, s9, _⟩ := this
    exact ⟨Lies.one s0, Lies.one s1, Lies.one s2, Lies.one s3, Lies.one s4, Lies.one s5, Lies.one s6, s7, Lies.one s8, Lies.one s9⟩
  have HF := Lib.hid hf
  clear hf hC
  have L7 := Lib.hid l7; clear l7
  have hl' : (joinB [numB x0, numB x1, numB x2, numB x3, numB x4, numB x5, numB x6, x7, numB x8, (Sh.list tFact).enc x9]).length ≤ 1099511627776 := hl
  have HLL := Lib.hid hl'
  clear hl hl'
  have HE9 := Lib.hid (show ((Sh.list tFact).enc x9).length ≤ 1099511627776 from (by have h1 := HLL.out; rw [joinB_length] at h1; have h2 := joinP_mem (l := [numB x0, numB x1, numB x2, numB x3, numB x4, numB x5, numB x6, x7, numB x8, (Sh.list tFact).enc x9]) (x := (Sh.list tFact).enc x9) (by simp); omega))
  have hcn9 : (List.length (α := (tFact).El) x9) ≤ 137438953472 := by
    have h1 := HE9.out
    have h2 := joinP_count (List.map (tFact).enc x9)
    have h3 : ((Sh.list tFact).enc x9).length = 8 + (joinP (List.map (tFact).enc x9)).length := joinB_length _
    rw [List.length_map] at h2
    omega
  have HEJ9 := Lib.hid (show (joinB (List.map (tFact).enc x9)).length ≤ 140737488355328 from by
    have h1 := HE9.out
    have h3 : ((Sh.list tFact).enc x9).length = 8 + (joinP (List.map (tFact).enc x9)).length := joinB_length _
    rw [joinB_length]
    omega)
  go_enter Tryd.func41, Tryd.ntmps41
  go_wp2_with fail
  have hbe := (Below.refl w.heap.size w).alloc (Nat.le_refl _) (.cells C.toArray 91)
  have hal0 : Below (w.heap.size + 1) (w.alloc (.cells C.toArray 91)) ((w.alloc (.cells C.toArray 91)).alloc (.cells #[] 28)) := (Below.refl _ _).alloc (by simp) _
  have hMb : w.heap.size < w.heap.size + 1 := by omega
  go_loopw [3, 4] (fun o i wr => ∃ k : Nat, k ≤ (List.length (α := (tFact).El) x9) ∧ i = .int .i64 k ∧ Bss wr (fun b => (w.heap.size + 1) ≤ b) (fun b => (w.heap.size + 1) ≤ b) o ((List.take k x9).map (tFact).enc) ∧ Below w.heap.size w wr ∧ (w.heap.size + 1) ≤ wr.heap.size ∧ Blk wr w.heap.size 91 C.toArray) (fun _ i _ => (List.length (α := (tFact).El) x9) - (intOf i).toNat)
  case atStart => exact ⟨0, Nat.zero_le _, rfl, Bss.empty1 w _, hbe.alloc (by simp) _, by simp, ((Blk.new w _ _).alloc _)⟩
  case round =>
    obtain ⟨k, hk, rfl, hB, hbl, hMz, hbox⟩ := hrel
    by_cases hlt : k < (List.length (α := (tFact).El) x9)
    · obtain ⟨R, hR⟩ : ∃ R, R = (List.take k x9).map (tFact).enc := ⟨_, rfl⟩
      rw [← hR] at hB
      have hRl : R.length = k := by rw [hR, List.length_map, List.length_take]; omega
      have hnext : (List.take (k + 1) x9).map (tFact).enc = R ++ [(tFact).enc (x9[k]'hlt)] := by rw [List.take_succ_eq_append_getElem hlt, List.map_append, ← hR]; rfl
      obtain ⟨Aa, ca, rfl⟩ := hB.form
      obtain ⟨_, _, e, _, hat⟩ := list_at (Sh.rep_below R9.out hbl)
      injection e with e1 e2 e3
      subst e1 e3
      obtain ⟨b, off, c, rfl, hca, hr, hcl, hblt, _⟩ := hat k hlt
      obtain ⟨x, hx⟩ : ∃ x, x = x9[k]'hlt := ⟨_, rfl⟩
      rw [← hx] at hr hnext
      have hsm2 : ((tFact).enc x).length ≤ 1099511627776 := by
        have h1 := joinP_mem (List.mem_map.2 ⟨x9[k]'hlt, List.getElem_mem hlt, rfl⟩ : (tFact).enc (x9[k]'hlt) ∈ List.map (tFact).enc x9)
        have h2 := HE9.out
        have h3 : ((Sh.list tFact).enc x9).length = 8 + (joinP (List.map (tFact).enc x9)).length := joinB_length _
        rw [hx]; omega
      have hinfo : (Tryd.prog.info? 60).map (·.size) = some c.length := by rw [hcl]; kernel_rfl
      have HCA := Lib.hid (show wr.rangeAt b (off + k * 73) c from hca)
      have HI := Lib.hid hinfo
      clear hinfo
      have HREP := Lib.hid hr
      have HSM := Lib.hid hsm2
      clear hr hsm2
      have hown : ∀ k, (Value.slice Aa R.length ca).ownBlock = some k → k < wr.heap.size := fun k hk => by obtain ⟨vs, ho, _⟩ := hB; exact own_lt ho hk
      have hbc := (HF.out wr hbox).2.2.2.2.2.2.2.2.2
      have HB := Lib.hid hB
      have HN := Lib.hid hnext
      have HRL := Lib.hid hRl
      have HOWN := Lib.hid hown
      have HBOX := Lib.hid hbox
      clear hB hca hcl hat hx hR hnext hRl hown hbox
      go_wp2_with (refine wpList_load_mid rfl 60 _ rfl b (off + k * 73) rfl c _ HCA.out Tryd.underlying60 rfl HI.out ?_)
      refine (rFact_any _ HREP.out HSM.out).mono ?_
      rintro e w1 ⟨v1, rfl, f1⟩
      have hb1 := hbl.trans (f1.2.mono hbl.size)
      obtain ⟨y, hy⟩ : ∃ y, y = (tFact).enc x := ⟨_, rfl⟩
      have f1 : Fresh wr w1 v1 y := hy ▸ f1
      rw [← hy] at HN
      obtain ⟨A1, c1, rfl⟩ := f1.1.form
      obtain ⟨vs, ho, hS, hr⟩ := HB.out.below f1.2
      have hsz1 := f1.2.size
      have hal : Below w1.heap.size w1 (w1.alloc (.cells #[.slice A1 y.length c1] 28)) := (Below.refl _ w1).alloc (Nat.le_refl _) _
      have HAL := Lib.hid hal
      have HO := Lib.hid (show Own (w1.alloc (.cells #[.slice A1 y.length c1] 28)) _ _ _ _ _ from own_keep ho fun k hk => hal.block k (own_lt ho hk))
      have HS := Lib.hid hS
      have HR := Lib.hid (fun i x u h1 h2 => (hr i x u h1 h2).below hal)
      have HU := Lib.hid ((f1.1.1.below hal).sub (T := fun b => (w.heap.size + 1) ≤ b ∧ (Value.slice Aa R.length ca).ownBlock ≠ some b) fun b hb _ => ⟨Nat.le_trans hMz hb.1, fun e => by have := HOWN.out b e; omega⟩)
      have HS2 := Lib.hid (Cs.of_new w1 28 (size := 1) 1 (cs := [.slice A1 y.length c1]) rfl (by simp only [maxLen]; decide))
      have H63 := Lib.hid (show R.length + 1 ≤ maxLen ∧ (R.length + 1) * 24 ≤ 140737488355328 from by have := HRL.out; refine ⟨by simp only [maxLen]; omega, by omega⟩)
      have HF2 := Lib.hid f1.2
      clear ho hS hr hal f1 hy
      go_wp2_with (at_builtin; refine wpList_app _ rfl _ _ _ rfl Tryd.underlying93 info_row rfl (by decide) HO.out rfl HS2.out rfl (by simp [Value.oneCell']) H63.out.1 H63.out.2 ?_; intro v3 w3 ho3 hg3 hnil3 hat3; clear hnil3; have HO3 := Lib.hid ho3; clear ho3; have HG3 := Lib.hid hg3; clear hg3; have HAT3 := Lib.hid hat3; clear hat3)
      have hzz := HAL.out.size
      have hz3 := HG3.out.size
      have hpush := Bss.push HO.out HS.out HR.out HU.out HO3.out HG3.out HAT3.out (by have := hb1.size; omega)
      rw [← HN.out] at hpush
      have hbA : Below w.heap.size w (w1.alloc (.cells #[.slice A1 y.length c1] 28)) := hb1.trans (HAL.out.mono hb1.size)
      have hbw3 := HF2.out.trans (HAL.out.mono hsz1)
      refine ⟨⟨k + 1, by omega, by push_cast; rfl, hpush, hbA.trans (HG3.out.below hbA.size fun b h => by have h1 := HS.out b h; have h2 := HBOX.out.lt; omega), by omega, (HBOX.out.below hbw3 HBOX.out.lt).chg HG3.out fun h => by have h1 := HS.out _ h; have h2 := hMb; omega⟩, ?_⟩
      simp only [intOf]
      omega
    · have hk' : k = (List.length (α := (tFact).El) x9) := by omega
      rw [hk', List.take_length] at hB
      have hsm : ∀ x ∈ List.map (tFact).enc x9, x.length ≤ 140737488355328 := fun x hx => by
        have h1 := joinP_mem hx
        have h2 := HE9.out
        have h3 : ((Sh.list tFact).enc x9).length = 8 + (joinP (List.map (tFact).enc x9)).length := joinB_length _
        omega
      have hEJ9 := HEJ9.out
      obtain ⟨R9m, hR9m⟩ : ∃ R, R = List.map (tFact).enc x9 := ⟨_, rfl⟩
      rw [← hR9m] at hB hsm hEJ9
      have HRm9 := Lib.hid hR9m
      have HEK9 := Lib.hid hEJ9
      clear hR9m hEJ9
      have V9 := Lib.hid (((hB.read hsm).lt_ (T := fun _ => True) fun _ _ => trivial).subs (T := fun b => b < wr.heap.size) fun b hb _ => hb.2)
      obtain ⟨Ao9, co9, rfl⟩ := hB.form
      have hbc9 := (HF.out wr hbox).2.2.2.2.2.2.2.2.2
      clear hB hsm
      obtain ⟨w_9, hw_9⟩ : ∃ w', w' = wr := ⟨_, rfl⟩
      subst hw_9
      have HBX9 := Lib.hid hbox; have hmb9 := hbox.lt; clear hbox
      go_wp2_with fail
      clear hlt hk hk'
      have hsz := HBX9.out.lt
      have hb0 : Blk w_9.drew w.heap.size 91 C.toArray := HBX9.out.drew
      have hbw : Below w.heap.size w w_9.drew := (hbl).drew
      have D7 := Lib.hid (Bs.of_range32 (S := fun b => b = w.heap.size) rfl hb0.lt ((HF.out _ hb0).2.2.2.2.2.2.2.1) L7.out)
      refine wp_region_hoist [0, 1, 2, 4, 5, 7, 8, 10, 11, 13, 14, 16, 17, 18, 20, 21, 22, 24, 25, 26, 27, 28, 30] [3, 6, 9, 12, 15, 19, 23, 29, 31] [32, 33, 34] (fun w' => Blk w' w.heap.size 91 C.toArray)
        (by kernel_rfl) (by kernel_rfl) (by kernel_rfl) (by kernel_rfl) (by kernel_rfl) (by kernel_rfl) hb0 ?_
      (refine HoistK.yes (by rfl) (by kernel_rfl) ⟨?_, fun w' hSw => ?_, ?_⟩; rotate_left; (· go_simp; try with_reducible rfl); simp only [Act.put, List.setIfInBounds_toArray, List.getElem_toArray, List.getElem_cons_zero, List.set_cons_succ, List.set_cons_zero])
      (refine HoistK.yes (by rfl) (by kernel_rfl) ⟨?_, fun w' hSw => ?_, ?_⟩; rotate_left; (· obtain ⟨s0, s1, s2, s3, s4, s5, s6, s7, s8, s9⟩ := HF.out _ hSw; go_simp; try with_reducible rfl); simp only [Act.put, List.setIfInBounds_toArray, List.getElem_toArray, List.getElem_cons_succ, List.getElem_cons_zero, List.set_cons_succ, List.set_cons_zero])
      (refine HoistK.yes (by rfl) (by kernel_rfl) ⟨?_, fun w' hSw => ?_, ?_⟩; rotate_left; (· go_simp; try with_reducible rfl); simp only [Act.put, List.setIfInBounds_toArray, List.getElem_toArray, List.getElem_cons_succ, List.getElem_cons_zero, List.set_cons_succ, List.set_cons_zero])
      (refine HoistK.yes (by rfl) (by kernel_rfl) ⟨?_, fun w' hSw => ?_, ?_⟩; rotate_left; (· go_simp; try with_reducible rfl); simp only [Act.put, List.setIfInBounds_toArray, List.getElem_toArray, List.getElem_cons_succ, List.getElem_cons_zero, List.set_cons_succ, List.set_cons_zero])
      (refine HoistK.yes (by rfl) (by kernel_rfl) ⟨?_, fun w' hSw => ?_, ?_⟩; rotate_left; (· obtain ⟨s0, s1, s2, s3, s4, s5, s6, s7, s8, s9⟩ := HF.out _ hSw; go_simp; try with_reducible rfl); simp only [Act.put, List.setIfInBounds_toArray, List.getElem_toArray, List.getElem_cons_succ, List.getElem_cons_zero, List.set_cons_succ, List.set_cons_zero])
      (refine HoistK.yes (by rfl) (by kernel_rfl) ⟨?_, fun w' hSw => ?_, ?_⟩; rotate_left; (· go_simp; try with_reducible rfl); simp only [Act.put, List.setIfInBounds_toArray, List.getElem_toArray, List.getElem_cons_succ, List.getElem_cons_zero, List.set_cons_succ, List.set_cons_zero])
      (refine HoistK.yes (by rfl) (by kernel_rfl) ⟨?_, fun w' hSw => ?_, ?_⟩; rotate_left; (· obtain ⟨s0, s1, s2, s3, s4, s5, s6, s7, s8, s9⟩ := HF.out _ hSw; go_simp; try with_reducible rfl); simp only [Act.put, List.setIfInBounds_toArray, List.getElem_toArray, List.getElem_cons_succ, List.getElem_cons_zero, List.set_cons_succ, List.set_cons_zero])
      (refine HoistK.yes (by rfl) (by kernel_rfl) ⟨?_, fun w' hSw => ?_, ?_⟩; rotate_left; (· go_simp; try with_reducible rfl); simp only [Act.put, List.setIfInBounds_toArray, List.getElem_toArray, List.getElem_cons_succ, List.getElem_cons_zero, List.set_cons_succ, List.set_cons_zero])
      (refine HoistK.yes (by rfl) (by kernel_rfl) ⟨?_, fun w' hSw => ?_, ?_⟩; rotate_left; (· obtain ⟨s0, s1, s2, s3, s4, s5, s6, s7, s8, s9⟩ := HF.out _ hSw; go_simp; try with_reducible rfl); simp only [Act.put, List.setIfInBounds_toArray, List.getElem_toArray, List.getElem_cons_succ, List.getElem_cons_zero, List.set_cons_succ, List.set_cons_zero])
      (refine HoistK.yes (by rfl) (by kernel_rfl) ⟨?_, fun w' hSw => ?_, ?_⟩; rotate_left; (· go_simp; try with_reducible rfl); simp only [Act.put, List.setIfInBounds_toArray, List.getElem_toArray, List.getElem_cons_succ, List.getElem_cons_zero, List.set_cons_succ, List.set_cons_zero])
      (refine HoistK.yes (by rfl) (by kernel_rfl) ⟨?_, fun w' hSw => ?_, ?_⟩; rotate_left; (· obtain ⟨s0, s1, s2, s3, s4, s5, s6, s7, s8, s9⟩ := HF.out _ hSw; go_simp; try with_reducible rfl); simp only [Act.put, List.setIfInBounds_toArray, List.getElem_toArray, List.getElem_cons_succ, List.getElem_cons_zero, List.set_cons_succ, List.set_cons_zero])
      (refine HoistK.yes (by rfl) (by kernel_rfl) ⟨?_, fun w' hSw => ?_, ?_⟩; rotate_left; (· go_simp; try with_reducible rfl); simp only [Act.put, List.setIfInBounds_toArray, List.getElem_toArray, List.getElem_cons_succ, List.getElem_cons_zero, List.set_cons_succ, List.set_cons_zero])
      (refine HoistK.yes (by rfl) (by kernel_rfl) ⟨?_, fun w' hSw => ?_, ?_⟩; rotate_left; (· obtain ⟨s0, s1, s2, s3, s4, s5, s6, s7, s8, s9⟩ := HF.out _ hSw; go_simp; try with_reducible rfl); simp only [Act.put, List.setIfInBounds_toArray, List.getElem_toArray, List.getElem_cons_succ, List.getElem_cons_zero, List.set_cons_succ, List.set_cons_zero])
      (refine HoistK.yes (by rfl) (by kernel_rfl) ⟨?_, fun w' hSw => ?_, ?_⟩; rotate_left; (· go_simp; try with_reducible rfl); simp only [Act.put, List.setIfInBounds_toArray, List.getElem_toArray, List.getElem_cons_succ, List.getElem_cons_zero, List.set_cons_succ, List.set_cons_zero])
      (refine HoistK.yes (by rfl) (by kernel_rfl) ⟨?_, fun w' hSw => ?_, ?_⟩; rotate_left; (· go_simp; try with_reducible rfl); simp only [Act.put, List.setIfInBounds_toArray, List.getElem_toArray, List.getElem_cons_succ, List.getElem_cons_zero, List.set_cons_succ, List.set_cons_zero])
      (refine HoistK.yes (by rfl) (by kernel_rfl) ⟨?_, fun w' hSw => ?_, ?_⟩; rotate_left; (· obtain ⟨s0, s1, s2, s3, s4, s5, s6, s7, s8, s9⟩ := HF.out _ hSw; go_simp; try with_reducible rfl); simp only [Act.put, List.setIfInBounds_toArray, List.getElem_toArray, List.getElem_cons_succ, List.getElem_cons_zero, List.set_cons_succ, List.set_cons_zero])
      (refine HoistK.yes (by rfl) (by kernel_rfl) ⟨?_, fun w' hSw => ?_, ?_⟩; rotate_left; (· go_simp; try with_reducible rfl); simp only [Act.put, List.setIfInBounds_toArray, List.getElem_toArray, List.getElem_cons_succ, List.getElem_cons_zero, List.set_cons_succ, List.set_cons_zero])
      (refine HoistK.yes (by rfl) (by kernel_rfl) ⟨?_, fun w' hSw => ?_, ?_⟩; rotate_left; (· go_simp; try with_reducible rfl); simp only [Act.put, List.setIfInBounds_toArray, List.getElem_toArray, List.getElem_cons_succ, List.getElem_cons_zero, List.set_cons_succ, List.set_cons_zero])
      (refine HoistK.yes (by rfl) (by kernel_rfl) ⟨?_, fun w' hSw => ?_, ?_⟩; rotate_left; (· go_simp; try with_reducible rfl); simp only [Act.put, List.setIfInBounds_toArray, List.getElem_toArray, List.getElem_cons_succ, List.getElem_cons_zero, List.set_cons_succ, List.set_cons_zero])
      (refine HoistK.yes (by rfl) (by kernel_rfl) ⟨?_, fun w' hSw => ?_, ?_⟩; rotate_left; (· go_simp; try with_reducible rfl); simp only [Act.put, List.setIfInBounds_toArray, List.getElem_toArray, List.getElem_cons_succ, List.getElem_cons_zero, List.set_cons_succ, List.set_cons_zero])
      (refine HoistK.yes (by rfl) (by kernel_rfl) ⟨?_, fun w' hSw => ?_, ?_⟩; rotate_left; (· obtain ⟨s0, s1, s2, s3, s4, s5, s6, s7, s8, s9⟩ := HF.out _ hSw; go_simp; try with_reducible rfl); simp only [Act.put, List.setIfInBounds_toArray, List.getElem_toArray, List.getElem_cons_succ, List.getElem_cons_zero, List.set_cons_succ, List.set_cons_zero])
      (refine HoistK.yes (by rfl) (by kernel_rfl) ⟨?_, fun w' hSw => ?_, ?_⟩; rotate_left; (· go_simp; try with_reducible rfl); simp only [Act.put, List.setIfInBounds_toArray, List.getElem_toArray, List.getElem_cons_succ, List.getElem_cons_zero, List.set_cons_succ, List.set_cons_zero])
      (refine HoistK.yes (by rfl) (by kernel_rfl) ⟨?_, fun w' hSw => ?_, ?_⟩; rotate_left; (· go_simp; try with_reducible rfl); simp only [Act.put, List.setIfInBounds_toArray, List.getElem_toArray, List.getElem_cons_succ, List.getElem_cons_zero, List.set_cons_succ, List.set_cons_zero])
      refine HoistK.nil_ ?_
      simp only [opsAt, List.filterMap_cons, List.filterMap_nil, List.getElem?_toArray, List.getElem?_cons_succ, List.getElem?_cons_zero]
      have g0 : Got w_9.drew w_9.drew [] [] := Got.start (Below.refl _ _)
      refine Effects.cons_ fun _ hQ1 => ?_
      go_wp2_with fail
      refine (rNumI_any _ _).mono ?_
      rintro e u1 ⟨v1, rfl, f1⟩
      have g1 := g0.step f1
      have hb1 := hb0.below f1.2 hb0.lt
      clear f1
      go_wp2_with fail
      refine hQ1 _ _ hb1 (Effects.cons_ fun _ hQ2 => ?_)
      clear hQ1 hb0 g0
      go_wp2_with fail
      refine (rNumU_any _ _ Q1.out).mono ?_
      rintro e u2 ⟨v2, rfl, f2⟩
      have g2 := g1.step f2
      have hb2 := hb1.below f2.2 hb1.lt
      clear f2
      go_wp2_with fail
      refine hQ2 _ _ hb2 (Effects.cons_ fun _ hQ3 => ?_)
      clear hQ2 hb1 g1
      go_wp2_with fail
      refine (rNumU_any _ _ Q2.out).mono ?_
      rintro e u3 ⟨v3, rfl, f3⟩
      have g3 := g2.step f3
      have hb3 := hb2.below f3.2 hb2.lt
      clear f3
      go_wp2_with fail
      refine hQ3 _ _ hb3 (Effects.cons_ fun _ hQ4 => ?_)
      clear hQ3 hb2 g2
      go_wp2_with fail
      refine (rNumU_any _ _ Q3.out).mono ?_
      rintro e u4 ⟨v4, rfl, f4⟩
      have g4 := g3.step f4
      have hb4 := hb3.below f4.2 hb3.lt
      clear f4
      go_wp2_with fail
      refine hQ4 _ _ hb4 (Effects.cons_ fun _ hQ5 => ?_)
      clear hQ4 hb3 g3
      go_wp2_with fail
      refine (rNumU_any _ _ Q4.out).mono ?_
      rintro e u5 ⟨v5, rfl, f5⟩
      have g5 := g4.step f5
      have hb5 := hb4.below f5.2 hb4.lt
      clear f5
      go_wp2_with fail
      refine hQ5 _ _ hb5 (Effects.cons_ fun _ hQ6 => ?_)
      clear hQ5 hb4 g4
      go_wp2_with fail
      refine (rNumI_any _ _).mono ?_
      rintro e u6 ⟨v6, rfl, f6⟩
      have g6 := g5.step f6
      have hb6 := hb5.below f6.2 hb5.lt
      clear f6
      go_wp2_with fail
      refine hQ6 _ _ hb6 (Effects.cons_ fun _ hQ7 => ?_)
      clear hQ6 hb5 g5
      go_wp2_with fail
      refine (rNumI_any _ _).mono ?_
      rintro e u7 ⟨v7, rfl, f7⟩
      have g7 := g6.step f7
      have hb7 := hb6.below f7.2 hb6.lt
      clear f7
      go_wp2_with fail
      refine hQ7 _ _ hb7 (Effects.cons_ fun _ hQ8 => ?_)
      clear hQ7 hb6 g6
      have g8 := g7.old D7.out
      clear g7
      go_wp2_with fail
      refine (rNumI_any _ _).mono ?_
      rintro e u8 ⟨v9, rfl, f8⟩
      have g9 := g8.step f8
      have hb8 := hb7.below f8.2 hb7.lt
      clear f8
      go_wp2_with fail
      refine hQ8 _ _ hb8 (Effects.cons_ fun _ hQ9 => ?_)
      clear hQ8 hb7 g8
      go_wp2_with fail
      refine (rJoin_any _ (V9.out.drew_.below g9.1) HEK9.out (fun b hb => Nat.lt_of_lt_of_le hb g9.1.size)).mono ?_
      rintro e u9 ⟨v10, rfl, f9⟩
      rw [HRm9.out] at f9
      have f9 : Fresh _ _ _ ((Sh.list tFact).enc x9) := f9
      have g10 := g9.step f9
      have hb9 := hb8.below f9.2 hb8.lt
      clear f9
      go_wp2_with fail
      refine hQ9 _ _ hb9 (Effects.nil_ fun _ hQ10 => ?_)
      clear hQ9 hb8 g9
      have hcs : ∀ v ∈ [v1, v2, v3, v4, v5, v6, v7, (.slice (some ⟨w.heap.size, 7, none⟩) 32 32), v9, v10], v.cells = #[v] := fun v hv => by
        obtain ⟨i, hi, rfl⟩ := List.getElem_of_mem hv
        obtain ⟨y, _, hr⟩ := g10.2.get i hi
        obtain ⟨A, c, e⟩ := hr.form
        have e' : [v1, v2, v3, v4, v5, v6, v7, (.slice (some ⟨w.heap.size, 7, none⟩) 32 32), v9, v10][i] = .slice A y.length c := e
        rw [e']; rfl
      refine wpList_rows rfl 10 _ rfl [v1, v2, v3, v4, v5, v6, v7, (.slice (some ⟨w.heap.size, 7, none⟩) 32 32), v9, v10] rfl (by decide) (by decide) hcs (by simp [Act.eval]) ?_
      have hr : Bsr (u9.alloc (.cells [v1, v2, v3, v4, v5, v6, v7, (.slice (some ⟨w.heap.size, 7, none⟩) 32 32), v9, v10].toArray 28)) (fun b => b < u9.heap.size + 1) (.slice (some ⟨u9.heap.size, 0, none⟩) 10 10) [numB x0, numB x1, numB x2, numB x3, numB x4, numB x5, numB x6, x7, numB x8, (Sh.list tFact).enc x9] := g10.row (by simp [maxLen]) 28
      have hj := rJoin_any _ hr (by have := HLL.out; omega) (fun b hb => by simpa using hb)
      have hbb : Below w.heap.size w (u9.alloc (.cells [v1, v2, v3, v4, v5, v6, v7, (.slice (some ⟨w.heap.size, 7, none⟩) 32 32), v9, v10].toArray 28)) := (hbw.trans (g10.1.mono hbw.size)).alloc (hbw.trans (g10.1.mono hbw.size)).size _
      have HJ := Lib.hid hj
      have HBB := Lib.hid hbb
      clear hj hbb hr g10 hcs
      go_wp2_with fail
      refine HJ.out.mono ?_
      rintro e uz ⟨vz, rfl, fz⟩
      go_wp2_with fail
      go_ret
      exact ⟨vz, rfl, fz.1.sub fun b hb _ => ⟨Nat.le_trans HBB.out.size hb.1, hb.2⟩, HBB.out.trans (fz.2.mono HBB.out.size)⟩

end Go.Proofs.YtjjgmkfkmckkoaaDoor

/- Codec: reference: a block. -/
namespace Go.Proofs.YtjjgmkfkmckkoaaDoor
open Go.RowKit Go.Maps
attribute [-simp] Tryd.isAgg23 Tryd.typeInfo23 Tryd.isAgg25 Tryd.typeInfo25 Tryd.isAgg43 Tryd.typeInfo43 Tryd.isAgg51 Tryd.typeInfo51 Tryd.isAgg46 Tryd.typeInfo46 Tryd.isAgg91 Tryd.typeInfo91

set_option maxHeartbeats 8000000 in
set_option maxRecDepth 100000 in
theorem rBlock_any (w : World) {S : Nat → Prop} {x : tBlock.El} {cs : List Value} (h : tBlock.rep w S x cs) (hl : (tBlock.enc x).length ≤ 1099511627776) :
    Calls Tryd.prog 37 #[.agg cs.toArray] w fun e w' => ∃ v', e = .returned v' ∧ Fresh w w' v' (tBlock.enc x) := by
  obtain ⟨x0, x1, x2, x3, x4, _⟩ := x
  obtain ⟨c0, _, rfl, r0, c1, _, rfl, r1, c2, _, rfl, r2, c3, _, rfl, r3, c4, _, rfl, r4, rfl⟩ := h
  have l0 : c0.length = 101 := Sh.rep_size _ _ _ r0
  obtain ⟨y0, hy0⟩ : ∃ y, y = c0 := ⟨_, rfl⟩
  subst hy0
  have l1 : c1.length = 37 := Sh.rep_size _ _ _ r1
  obtain ⟨y1, hy1⟩ : ∃ y, y = c1 := ⟨_, rfl⟩
  subst hy1
  obtain ⟨y2, rfl⟩ : ∃ y, c2 = [y] := by obtain ⟨v, _, e, _⟩ := r2; exact ⟨v, e⟩
  obtain ⟨y3, rfl⟩ : ∃ y, c3 = [y] := by obtain ⟨v, _, e, _⟩ := r3; exact ⟨v, e⟩
  have l4 : c4.length = 33 := Sh.rep_size _ _ _ r4
  obtain ⟨y4, hy4⟩ : ∃ y, y = c4 := ⟨_, rfl⟩
  subst hy4
  obtain ⟨A2, cap2, rfl, hlen2, _⟩ := list_at r2
  obtain ⟨A3, cap3, rfl, hlen3, _⟩ := list_at r3
  have R0 := Lib.hid r0; clear r0
  have R1 := Lib.hid r1; clear r1
  have R2 := Lib.hid r2; clear r2
  have R3 := Lib.hid r3; clear r3
  have R4 := Lib.hid r4; clear r4
  obtain ⟨C, hC⟩ : ∃ C, C = y0 ++ (y1 ++ ([Value.slice A2 (List.length (α := (tCommit).El) x2) cap2] ++ ([Value.slice A3 (List.length (α := (tTx).El) x3) cap3] ++ (y4 ++ ([]))))) := ⟨_, rfl⟩
  rw [← hC]
  have hf : ∀ w', Blk w' w.heap.size 79 C.toArray → w'.rangeAt w.heap.size 0 y0 ∧ w'.rangeAt w.heap.size 101 y1 ∧ w'.cell? ⟨w.heap.size, 138, none⟩ = some (.slice A2 (List.length (α := (tCommit).El) x2) cap2) ∧ w'.cell? ⟨w.heap.size, 139, none⟩ = some (.slice A3 (List.length (α := (tTx).El) x3) cap3) ∧ w'.rangeAt w.heap.size 140 y4 := fun w' hb => by
    have := hb.lies [y0, y1, [Value.slice A2 (List.length (α := (tCommit).El) x2) cap2], [Value.slice A3 (List.length (α := (tTx).El) x3) cap3], y4] [] (by rw [hC]; simp)
    simp only [Lies, l0, l1, List.length_cons, List.length_nil] at this
    obtain ⟨s0, s1, s2, s3, s4, _⟩ := this
    exact ⟨s0, s1, Lies.one s2, Lies.one s3, s4⟩
  have HF := Lib.hid hf
  clear hf hC
  have L0 := Lib.hid l0; clear l0
  have L1 := Lib.hid l1; clear l1
  have L4 := Lib.hid l4; clear l4
  have hl' : (joinB [tHeader.enc x0, tQC.enc x1, (Sh.list tCommit).enc x2, (Sh.list tTx).enc x3, tSig.enc x4]).length ≤ 1099511627776 := hl
  have HLL := Lib.hid hl'
  clear hl hl'
  have HE2 := Lib.hid (show ((Sh.list tCommit).enc x2).length ≤ 1099511627776 from (by have h1 := HLL.out; rw [joinB_length] at h1; have h2 := joinP_mem (l := [tHeader.enc x0, tQC.enc x1, (Sh.list tCommit).enc x2, (Sh.list tTx).enc x3, tSig.enc x4]) (x := (Sh.list tCommit).enc x2) (by simp); omega))
  have hcn2 : (List.length (α := (tCommit).El) x2) ≤ 137438953472 := by
    have h1 := HE2.out
    have h2 := joinP_count (List.map (tCommit).enc x2)
    have h3 : ((Sh.list tCommit).enc x2).length = 8 + (joinP (List.map (tCommit).enc x2)).length := joinB_length _
    rw [List.length_map] at h2
    omega
  have HEJ2 := Lib.hid (show (joinB (List.map (tCommit).enc x2)).length ≤ 140737488355328 from by
    have h1 := HE2.out
    have h3 : ((Sh.list tCommit).enc x2).length = 8 + (joinP (List.map (tCommit).enc x2)).length := joinB_length _
    rw [joinB_length]
    omega)
  have HE3 := Lib.hid (show ((Sh.list tTx).enc x3).length ≤ 1099511627776 from (by have h1 := HLL.out; rw [joinB_length] at h1; have h2 := joinP_mem (l := [tHeader.enc x0, tQC.enc x1, (Sh.list tCommit).enc x2, (Sh.list tTx).enc x3, tSig.enc x4]) (x := (Sh.list tTx).enc x3) (by simp); omega))
  have hcn3 : (List.length (α := (tTx).El) x3) ≤ 137438953472 := by
    have h1 := HE3.out
    have h2 := joinP_count (List.map (tTx).enc x3)
    have h3 : ((Sh.list tTx).enc x3).length = 8 + (joinP (List.map (tTx).enc x3)).length := joinB_length _
    rw [List.length_map] at h2
    omega
  have HEJ3 := Lib.hid (show (joinB (List.map (tTx).enc x3)).length ≤ 140737488355328 from by
    have h1 := HE3.out
    have h3 : ((Sh.list tTx).enc x3).length = 8 + (joinP (List.map (tTx).enc x3)).length := joinB_length _
    rw [joinB_length]
    omega)
  go_enter Tryd.func37, Tryd.ntmps37
  go_wp2_with fail
  have hbe := (Below.refl w.heap.size w).alloc (Nat.le_refl _) (.cells C.toArray 79)
  have hal0 : Below (w.heap.size + 1) (w.alloc (.cells C.toArray 79)) ((w.alloc (.cells C.toArray 79)).alloc (.cells #[] 28)) := (Below.refl _ _).alloc (by simp) _
  have hMb : w.heap.size < w.heap.size + 1 := by omega
  go_loopw [3, 4] (fun o i wr => ∃ k : Nat, k ≤ (List.length (α := (tCommit).El) x2) ∧ i = .int .i64 k ∧ Bss wr (fun b => (w.heap.size + 1) ≤ b) (fun b => (w.heap.size + 1) ≤ b) o ((List.take k x2).map (tCommit).enc) ∧ Below w.heap.size w wr ∧ (w.heap.size + 1) ≤ wr.heap.size ∧ Blk wr w.heap.size 79 C.toArray) (fun _ i _ => (List.length (α := (tCommit).El) x2) - (intOf i).toNat)
  case atStart => exact ⟨0, Nat.zero_le _, rfl, Bss.empty1 w _, hbe.alloc (by simp) _, by simp, ((Blk.new w _ _).alloc _)⟩
  case round =>
    obtain ⟨k, hk, rfl, hB, hbl, hMz, hbox⟩ := hrel
    by_cases hlt : k < (List.length (α := (tCommit).El) x2)
    · obtain ⟨R, hR⟩ : ∃ R, R = (List.take k x2).map (tCommit).enc := ⟨_, rfl⟩
      rw [← hR] at hB
      have hRl : R.length = k := by rw [hR, List.length_map, List.length_take]; omega
      have hnext : (List.take (k + 1) x2).map (tCommit).enc = R ++ [(tCommit).enc (x2[k]'hlt)] := by rw [List.take_succ_eq_append_getElem hlt, List.map_append, ← hR]; rfl
      obtain ⟨Aa, ca, rfl⟩ := hB.form
      obtain ⟨_, _, e, _, hat⟩ := list_at (Sh.rep_below R2.out hbl)
      injection e with e1 e2 e3
      subst e1 e3
      obtain ⟨b, off, c, rfl, hca, hr, hcl, hblt, _⟩ := hat k hlt
      obtain ⟨x, hx⟩ : ∃ x, x = x2[k]'hlt := ⟨_, rfl⟩
      rw [← hx] at hr hnext
      have hsm2 : ((tCommit).enc x).length ≤ 1099511627776 := by
        have h1 := joinP_mem (List.mem_map.2 ⟨x2[k]'hlt, List.getElem_mem hlt, rfl⟩ : (tCommit).enc (x2[k]'hlt) ∈ List.map (tCommit).enc x2)
        have h2 := HE2.out
        have h3 : ((Sh.list tCommit).enc x2).length = 8 + (joinP (List.map (tCommit).enc x2)).length := joinB_length _
        rw [hx]; omega
      have hinfo : (Tryd.prog.info? 46).map (·.size) = some c.length := by rw [hcl]; kernel_rfl
      have HCA := Lib.hid (show wr.rangeAt b (off + k * 38) c from hca)
      have HI := Lib.hid hinfo
      clear hinfo
      have HREP := Lib.hid hr
      have HSM := Lib.hid hsm2
      clear hr hsm2
      have hown : ∀ k, (Value.slice Aa R.length ca).ownBlock = some k → k < wr.heap.size := fun k hk => by obtain ⟨vs, ho, _⟩ := hB; exact own_lt ho hk
      have hbc := (HF.out wr hbox).2.2.1
      have HB := Lib.hid hB
      have HN := Lib.hid hnext
      have HRL := Lib.hid hRl
      have HOWN := Lib.hid hown
      have HBOX := Lib.hid hbox
      clear hB hca hcl hat hx hR hnext hRl hown hbox
      go_wp2_with (refine wpList_load_mid rfl 46 _ rfl b (off + k * 38) rfl c _ HCA.out Tryd.underlying46 rfl HI.out ?_)
      refine (rCommit_any _ HREP.out HSM.out).mono ?_
      rintro e w1 ⟨v1, rfl, f1⟩
      have hb1 := hbl.trans (f1.2.mono hbl.size)
      obtain ⟨y, hy⟩ : ∃ y, y = (tCommit).enc x := ⟨_, rfl⟩
      have f1 : Fresh wr w1 v1 y := hy ▸ f1
      rw [← hy] at HN
      obtain ⟨A1, c1, rfl⟩ := f1.1.form
      obtain ⟨vs, ho, hS, hr⟩ := HB.out.below f1.2
      have hsz1 := f1.2.size
      have hal : Below w1.heap.size w1 (w1.alloc (.cells #[.slice A1 y.length c1] 28)) := (Below.refl _ w1).alloc (Nat.le_refl _) _
      have HAL := Lib.hid hal
      have HO := Lib.hid (show Own (w1.alloc (.cells #[.slice A1 y.length c1] 28)) _ _ _ _ _ from own_keep ho fun k hk => hal.block k (own_lt ho hk))
      have HS := Lib.hid hS
      have HR := Lib.hid (fun i x u h1 h2 => (hr i x u h1 h2).below hal)
      have HU := Lib.hid ((f1.1.1.below hal).sub (T := fun b => (w.heap.size + 1) ≤ b ∧ (Value.slice Aa R.length ca).ownBlock ≠ some b) fun b hb _ => ⟨Nat.le_trans hMz hb.1, fun e => by have := HOWN.out b e; omega⟩)
      have HS2 := Lib.hid (Cs.of_new w1 28 (size := 1) 1 (cs := [.slice A1 y.length c1]) rfl (by simp only [maxLen]; decide))
      have H63 := Lib.hid (show R.length + 1 ≤ maxLen ∧ (R.length + 1) * 24 ≤ 140737488355328 from by have := HRL.out; refine ⟨by simp only [maxLen]; omega, by omega⟩)
      have HF2 := Lib.hid f1.2
      clear ho hS hr hal f1 hy
      go_wp2_with (at_builtin; refine wpList_app _ rfl _ _ _ rfl Tryd.underlying93 info_row rfl (by decide) HO.out rfl HS2.out rfl (by simp [Value.oneCell']) H63.out.1 H63.out.2 ?_; intro v3 w3 ho3 hg3 hnil3 hat3; clear hnil3; have HO3 := Lib.hid ho3; clear ho3; have HG3 := Lib.hid hg3; clear hg3; have HAT3 := Lib.hid hat3; clear hat3)
      have hzz := HAL.out.size
      have hz3 := HG3.out.size
      have hpush := Bss.push HO.out HS.out HR.out HU.out HO3.out HG3.out HAT3.out (by have := hb1.size; omega)
      rw [← HN.out] at hpush
      have hbA : Below w.heap.size w (w1.alloc (.cells #[.slice A1 y.length c1] 28)) := hb1.trans (HAL.out.mono hb1.size)
      have hbw3 := HF2.out.trans (HAL.out.mono hsz1)
      refine ⟨⟨k + 1, by omega, by push_cast; rfl, hpush, hbA.trans (HG3.out.below hbA.size fun b h => by have h1 := HS.out b h; have h2 := HBOX.out.lt; omega), by omega, (HBOX.out.below hbw3 HBOX.out.lt).chg HG3.out fun h => by have h1 := HS.out _ h; have h2 := hMb; omega⟩, ?_⟩
      simp only [intOf]
      omega
    · have hk' : k = (List.length (α := (tCommit).El) x2) := by omega
      rw [hk', List.take_length] at hB
      have hsm : ∀ x ∈ List.map (tCommit).enc x2, x.length ≤ 140737488355328 := fun x hx => by
        have h1 := joinP_mem hx
        have h2 := HE2.out
        have h3 : ((Sh.list tCommit).enc x2).length = 8 + (joinP (List.map (tCommit).enc x2)).length := joinB_length _
        omega
      have hEJ2 := HEJ2.out
      obtain ⟨R2m, hR2m⟩ : ∃ R, R = List.map (tCommit).enc x2 := ⟨_, rfl⟩
      rw [← hR2m] at hB hsm hEJ2
      have HRm2 := Lib.hid hR2m
      have HEK2 := Lib.hid hEJ2
      clear hR2m hEJ2
      have V2 := Lib.hid (((hB.read hsm).lt_ (T := fun _ => True) fun _ _ => trivial).subs (T := fun b => b < wr.heap.size) fun b hb _ => hb.2)
      obtain ⟨Ao2, co2, rfl⟩ := hB.form
      have hbc2 := (HF.out wr hbox).2.2.1
      clear hB hsm
      obtain ⟨w_2, hw_2⟩ : ∃ w', w' = wr := ⟨_, rfl⟩
      subst hw_2
      have HBX2 := Lib.hid hbox; have hmb2 := hbox.lt; clear hbox
      go_wp2_with fail
      clear hlt hk hk'
      have hal2 : Below w_2.heap.size w_2 (w_2.alloc (.cells #[] 28)) := (Below.refl _ w_2).alloc (Nat.le_refl _) _
      have hMb : w.heap.size < w_2.heap.size := hmb2
      go_loopw [5, 6] (fun o i wr => ∃ k : Nat, k ≤ (List.length (α := (tTx).El) x3) ∧ i = .int .i64 k ∧ Bss wr (fun b => w_2.heap.size ≤ b) (fun b => w_2.heap.size ≤ b) o ((List.take k x3).map (tTx).enc) ∧ Below w.heap.size w wr ∧ w_2.heap.size ≤ wr.heap.size ∧ Blk wr w.heap.size 79 C.toArray ∧ Bsr wr (fun b => b < w_2.heap.size) (.slice Ao2 R2m.length co2) R2m) (fun _ i _ => (List.length (α := (tTx).El) x3) - (intOf i).toNat)
      case atStart => exact ⟨0, Nat.zero_le _, rfl, Bss.empty w_2 (fun b => w_2.heap.size ≤ b) (fun b => w_2.heap.size ≤ b) (Nat.le_refl _), hbl.alloc hbl.size _, by simp, (HBX2.out.below hal2 HBX2.out.lt), (V2.out.below hal2)⟩
      case round =>
        obtain ⟨k, hk, rfl, hB, hbl, hMz, hbox, hp2⟩ := hrel
        by_cases hlt : k < (List.length (α := (tTx).El) x3)
        · obtain ⟨R, hR⟩ : ∃ R, R = (List.take k x3).map (tTx).enc := ⟨_, rfl⟩
          rw [← hR] at hB
          have hRl : R.length = k := by rw [hR, List.length_map, List.length_take]; omega
          have hnext : (List.take (k + 1) x3).map (tTx).enc = R ++ [(tTx).enc (x3[k]'hlt)] := by rw [List.take_succ_eq_append_getElem hlt, List.map_append, ← hR]; rfl
          obtain ⟨Aa, ca, rfl⟩ := hB.form
          obtain ⟨_, _, e, _, hat⟩ := list_at (Sh.rep_below R3.out hbl)
          injection e with e1 e2 e3
          subst e1 e3
          obtain ⟨b, off, c, rfl, hca, hr, hcl, hblt, _⟩ := hat k hlt
          obtain ⟨x, hx⟩ : ∃ x, x = x3[k]'hlt := ⟨_, rfl⟩
          rw [← hx] at hr hnext
          have hsm2 : ((tTx).enc x).length ≤ 1099511627776 := by
            have h1 := joinP_mem (List.mem_map.2 ⟨x3[k]'hlt, List.getElem_mem hlt, rfl⟩ : (tTx).enc (x3[k]'hlt) ∈ List.map (tTx).enc x3)
            have h2 := HE3.out
            have h3 : ((Sh.list tTx).enc x3).length = 8 + (joinP (List.map (tTx).enc x3)).length := joinB_length _
            rw [hx]; omega
          have hinfo : (Tryd.prog.info? 91).map (·.size) = some c.length := by rw [hcl]; kernel_rfl
          have HCA := Lib.hid (show wr.rangeAt b (off + k * 41) c from hca)
          have HI := Lib.hid hinfo
          clear hinfo
          have HREP := Lib.hid hr
          have HSM := Lib.hid hsm2
          clear hr hsm2
          have hown : ∀ k, (Value.slice Aa R.length ca).ownBlock = some k → k < wr.heap.size := fun k hk => by obtain ⟨vs, ho, _⟩ := hB; exact own_lt ho hk
          have hbc := (HF.out wr hbox).2.2.2.1
          have HB := Lib.hid hB
          have HN := Lib.hid hnext
          have HRL := Lib.hid hRl
          have HOWN := Lib.hid hown
          have HBOX := Lib.hid hbox
          have HP2 := Lib.hid hp2
          clear hB hca hcl hat hx hR hnext hRl hown hbox hp2
          go_wp2_with (refine wpList_load_mid rfl 91 _ rfl b (off + k * 41) rfl c _ HCA.out Tryd.underlying91 rfl HI.out ?_)
          refine (rTx_any _ HREP.out HSM.out).mono ?_
          rintro e w1 ⟨v1, rfl, f1⟩
          have hb1 := hbl.trans (f1.2.mono hbl.size)
          obtain ⟨y, hy⟩ : ∃ y, y = (tTx).enc x := ⟨_, rfl⟩
          have f1 : Fresh wr w1 v1 y := hy ▸ f1
          rw [← hy] at HN
          obtain ⟨A1, c1, rfl⟩ := f1.1.form
          obtain ⟨vs, ho, hS, hr⟩ := HB.out.below f1.2
          have hsz1 := f1.2.size
          have hal : Below w1.heap.size w1 (w1.alloc (.cells #[.slice A1 y.length c1] 28)) := (Below.refl _ w1).alloc (Nat.le_refl _) _
          have HAL := Lib.hid hal
          have HO := Lib.hid (show Own (w1.alloc (.cells #[.slice A1 y.length c1] 28)) _ _ _ _ _ from own_keep ho fun k hk => hal.block k (own_lt ho hk))
          have HS := Lib.hid hS
          have HR := Lib.hid (fun i x u h1 h2 => (hr i x u h1 h2).below hal)
          have HU := Lib.hid ((f1.1.1.below hal).sub (T := fun b => w_2.heap.size ≤ b ∧ (Value.slice Aa R.length ca).ownBlock ≠ some b) fun b hb _ => ⟨Nat.le_trans hMz hb.1, fun e => by have := HOWN.out b e; omega⟩)
          have HS2 := Lib.hid (Cs.of_new w1 28 (size := 1) 1 (cs := [.slice A1 y.length c1]) rfl (by simp only [maxLen]; decide))
          have H63 := Lib.hid (show R.length + 1 ≤ maxLen ∧ (R.length + 1) * 24 ≤ 140737488355328 from by have := HRL.out; refine ⟨by simp only [maxLen]; omega, by omega⟩)
          have HF2 := Lib.hid f1.2
          clear ho hS hr hal f1 hy
          go_wp2_with (at_builtin; refine wpList_app _ rfl _ _ _ rfl Tryd.underlying93 info_row rfl (by decide) HO.out rfl HS2.out rfl (by simp [Value.oneCell']) H63.out.1 H63.out.2 ?_; intro v3 w3 ho3 hg3 hnil3 hat3; clear hnil3; have HO3 := Lib.hid ho3; clear ho3; have HG3 := Lib.hid hg3; clear hg3; have HAT3 := Lib.hid hat3; clear hat3)
          have hzz := HAL.out.size
          have hz3 := HG3.out.size
          have hpush := Bss.push HO.out HS.out HR.out HU.out HO3.out HG3.out HAT3.out (by have := hb1.size; omega)
          rw [← HN.out] at hpush
          have hbA : Below w.heap.size w (w1.alloc (.cells #[.slice A1 y.length c1] 28)) := hb1.trans (HAL.out.mono hb1.size)
          have hbw3 := HF2.out.trans (HAL.out.mono hsz1)
          refine ⟨⟨k + 1, by omega, by push_cast; rfl, hpush, hbA.trans (HG3.out.below hbA.size fun b h => by have h1 := HS.out b h; have h2 := HBOX.out.lt; omega), by omega, (HBOX.out.below hbw3 HBOX.out.lt).chg HG3.out fun h => by have h1 := HS.out _ h; have h2 := hMb; omega, (HP2.out.below hbw3).chg HG3.out fun b hb h => by have := HS.out b h; omega⟩, ?_⟩
          simp only [intOf]
          omega
        · have hk' : k = (List.length (α := (tTx).El) x3) := by omega
          rw [hk', List.take_length] at hB
          have hsm : ∀ x ∈ List.map (tTx).enc x3, x.length ≤ 140737488355328 := fun x hx => by
            have h1 := joinP_mem hx
            have h2 := HE3.out
            have h3 : ((Sh.list tTx).enc x3).length = 8 + (joinP (List.map (tTx).enc x3)).length := joinB_length _
            omega
          have hEJ3 := HEJ3.out
          obtain ⟨R3m, hR3m⟩ : ∃ R, R = List.map (tTx).enc x3 := ⟨_, rfl⟩
          rw [← hR3m] at hB hsm hEJ3
          have HRm3 := Lib.hid hR3m
          have HEK3 := Lib.hid hEJ3
          clear hR3m hEJ3
          have V3 := Lib.hid (((hB.read hsm).lt_ (T := fun _ => True) fun _ _ => trivial).subs (T := fun b => b < wr.heap.size) fun b hb _ => hb.2)
          obtain ⟨Ao3, co3, rfl⟩ := hB.form
          have hbc3 := (HF.out wr hbox).2.2.2.1
          have V2 := Lib.hid (hp2.subs (T := fun b => b < wr.heap.size) fun b hb _ => Nat.lt_of_lt_of_le hb hMz)
          clear hB hsm hp2
          obtain ⟨w_3, hw_3⟩ : ∃ w', w' = wr := ⟨_, rfl⟩
          subst hw_3
          have HBX3 := Lib.hid hbox; have hmb3 := hbox.lt; clear hbox
          go_wp2_with fail
          clear hlt hk hk'
          have hsz := HBX3.out.lt
          have hb0 : Blk w_3.drew w.heap.size 79 C.toArray := HBX3.out.drew
          have hbw : Below w.heap.size w w_3.drew := (hbl).drew
          refine wp_region_hoist [0, 1, 3, 4, 6, 8, 10, 11] [2, 5, 7, 9, 12] [13, 14, 15] (fun w' => Blk w' w.heap.size 79 C.toArray)
            (by kernel_rfl) (by kernel_rfl) (by kernel_rfl) (by kernel_rfl) (by kernel_rfl) (by kernel_rfl) hb0 ?_
          (refine HoistK.yes (by rfl) (by kernel_rfl) ⟨?_, fun w' hSw => ?_, ?_⟩; rotate_left; (· go_simp; try with_reducible rfl); simp only [Act.put, List.setIfInBounds_toArray, List.getElem_toArray, List.getElem_cons_zero, List.set_cons_succ, List.set_cons_zero])
          (refine HoistK.load (by rfl) (by kernel_rfl) 25 _ rfl w.heap.size 0 rfl (y0) _ (fun w' hw => (HF.out w' hw).1) Tryd.underlying25 rfl (by rw [L0.out]; kernel_rfl) ?_; simp only [Act.put, List.setIfInBounds_toArray, List.getElem_toArray, List.getElem_cons_succ, List.getElem_cons_zero, List.set_cons_succ, List.set_cons_zero])
          (refine HoistK.yes (by rfl) (by kernel_rfl) ⟨?_, fun w' hSw => ?_, ?_⟩; rotate_left; (· go_simp; try with_reducible rfl); simp only [Act.put, List.setIfInBounds_toArray, List.getElem_toArray, List.getElem_cons_succ, List.getElem_cons_zero, List.set_cons_succ, List.set_cons_zero])
          (refine HoistK.load (by rfl) (by kernel_rfl) 43 _ rfl w.heap.size 101 rfl (y1) _ (fun w' hw => (HF.out w' hw).2.1) Tryd.underlying43 rfl (by rw [L1.out]; kernel_rfl) ?_; simp only [Act.put, List.setIfInBounds_toArray, List.getElem_toArray, List.getElem_cons_succ, List.getElem_cons_zero, List.set_cons_succ, List.set_cons_zero])
          (refine HoistK.yes (by rfl) (by kernel_rfl) ⟨?_, fun w' hSw => ?_, ?_⟩; rotate_left; (· go_simp; try with_reducible rfl); simp only [Act.put, List.setIfInBounds_toArray, List.getElem_toArray, List.getElem_cons_succ, List.getElem_cons_zero, List.set_cons_succ, List.set_cons_zero])
          (refine HoistK.yes (by rfl) (by kernel_rfl) ⟨?_, fun w' hSw => ?_, ?_⟩; rotate_left; (· go_simp; try with_reducible rfl); simp only [Act.put, List.setIfInBounds_toArray, List.getElem_toArray, List.getElem_cons_succ, List.getElem_cons_zero, List.set_cons_succ, List.set_cons_zero])
          (refine HoistK.yes (by rfl) (by kernel_rfl) ⟨?_, fun w' hSw => ?_, ?_⟩; rotate_left; (· go_simp; try with_reducible rfl); simp only [Act.put, List.setIfInBounds_toArray, List.getElem_toArray, List.getElem_cons_succ, List.getElem_cons_zero, List.set_cons_succ, List.set_cons_zero])
          (refine HoistK.load (by rfl) (by kernel_rfl) 51 _ rfl w.heap.size 140 rfl (y4) _ (fun w' hw => (HF.out w' hw).2.2.2.2) Tryd.underlying51 rfl (by rw [L4.out]; kernel_rfl) ?_; simp only [Act.put, List.setIfInBounds_toArray, List.getElem_toArray, List.getElem_cons_succ, List.getElem_cons_zero, List.set_cons_succ, List.set_cons_zero])
          refine HoistK.nil_ ?_
          simp only [opsAt, List.filterMap_cons, List.filterMap_nil, List.getElem?_toArray, List.getElem?_cons_succ, List.getElem?_cons_zero]
          have g0 : Got w_3.drew w_3.drew [] [] := Got.start (Below.refl _ _)
          refine Effects.cons_ fun _ hQ1 => ?_
          go_wp2_with fail
          refine (rHeader_any _ (Sh.rep_below R0.out (hbw.trans (g0.1.mono hbw.size))) (by have h1 := HLL.out; rw [joinB_length] at h1; have h2 := joinP_mem (l := [tHeader.enc x0, tQC.enc x1, (Sh.list tCommit).enc x2, (Sh.list tTx).enc x3, tSig.enc x4]) (x := tHeader.enc x0) (by simp); omega)).mono ?_
          rintro e u1 ⟨v1, rfl, f1⟩
          have g1 := g0.step f1
          have hb1 := hb0.below f1.2 hb0.lt
          clear f1
          go_wp2_with fail
          refine hQ1 _ _ hb1 (Effects.cons_ fun _ hQ2 => ?_)
          clear hQ1 hb0 g0
          go_wp2_with fail
          refine (rQC_any _ (Sh.rep_below R1.out (hbw.trans (g1.1.mono hbw.size))) (by have h1 := HLL.out; rw [joinB_length] at h1; have h2 := joinP_mem (l := [tHeader.enc x0, tQC.enc x1, (Sh.list tCommit).enc x2, (Sh.list tTx).enc x3, tSig.enc x4]) (x := tQC.enc x1) (by simp); omega)).mono ?_
          rintro e u2 ⟨v2, rfl, f2⟩
          have g2 := g1.step f2
          have hb2 := hb1.below f2.2 hb1.lt
          clear f2
          go_wp2_with fail
          refine hQ2 _ _ hb2 (Effects.cons_ fun _ hQ3 => ?_)
          clear hQ2 hb1 g1
          go_wp2_with fail
          refine (rJoin_any _ (V2.out.drew_.below g2.1) HEK2.out (fun b hb => Nat.lt_of_lt_of_le hb g2.1.size)).mono ?_
          rintro e u3 ⟨v3, rfl, f3⟩
          rw [HRm2.out] at f3
          have f3 : Fresh _ _ _ ((Sh.list tCommit).enc x2) := f3
          have g3 := g2.step f3
          have hb3 := hb2.below f3.2 hb2.lt
          clear f3
          go_wp2_with fail
          refine hQ3 _ _ hb3 (Effects.cons_ fun _ hQ4 => ?_)
          clear hQ3 hb2 g2
          go_wp2_with fail
          refine (rJoin_any _ (V3.out.drew_.below g3.1) HEK3.out (fun b hb => Nat.lt_of_lt_of_le hb g3.1.size)).mono ?_
          rintro e u4 ⟨v4, rfl, f4⟩
          rw [HRm3.out] at f4
          have f4 : Fresh _ _ _ ((Sh.list tTx).enc x3) := f4
          have g4 := g3.step f4
          have hb4 := hb3.below f4.2 hb3.lt
          clear f4
          go_wp2_with fail
          refine hQ4 _ _ hb4 (Effects.cons_ fun _ hQ5 => ?_)
          clear hQ4 hb3 g3
          go_wp2_with fail
          refine (rSig_any _ (Sh.rep_below R4.out (hbw.trans (g4.1.mono hbw.size))) (by have h1 := HLL.out; rw [joinB_length] at h1; have h2 := joinP_mem (l := [tHeader.enc x0, tQC.enc x1, (Sh.list tCommit).enc x2, (Sh.list tTx).enc x3, tSig.enc x4]) (x := tSig.enc x4) (by simp); omega)).mono ?_
          rintro e u5 ⟨v5, rfl, f5⟩
          have g5 := g4.step f5
          have hb5 := hb4.below f5.2 hb4.lt
          clear f5
          go_wp2_with fail
          refine hQ5 _ _ hb5 (Effects.nil_ fun _ hQ6 => ?_)
          clear hQ5 hb4 g4
          have hcs : ∀ v ∈ [v1, v2, v3, v4, v5], v.cells = #[v] := fun v hv => by
            obtain ⟨i, hi, rfl⟩ := List.getElem_of_mem hv
            obtain ⟨y, _, hr⟩ := g5.2.get i hi
            obtain ⟨A, c, e⟩ := hr.form
            have e' : [v1, v2, v3, v4, v5][i] = .slice A y.length c := e
            rw [e']; rfl
          refine wpList_rows rfl 5 _ rfl [v1, v2, v3, v4, v5] rfl (by decide) (by decide) hcs (by simp [Act.eval]) ?_
          have hr : Bsr (u5.alloc (.cells [v1, v2, v3, v4, v5].toArray 28)) (fun b => b < u5.heap.size + 1) (.slice (some ⟨u5.heap.size, 0, none⟩) 5 5) [tHeader.enc x0, tQC.enc x1, (Sh.list tCommit).enc x2, (Sh.list tTx).enc x3, tSig.enc x4] := g5.row (by simp [maxLen]) 28
          have hj := rJoin_any _ hr (by have := HLL.out; omega) (fun b hb => by simpa using hb)
          have hbb : Below w.heap.size w (u5.alloc (.cells [v1, v2, v3, v4, v5].toArray 28)) := (hbw.trans (g5.1.mono hbw.size)).alloc (hbw.trans (g5.1.mono hbw.size)).size _
          have HJ := Lib.hid hj
          have HBB := Lib.hid hbb
          clear hj hbb hr g5 hcs
          go_wp2_with fail
          refine HJ.out.mono ?_
          rintro e uz ⟨vz, rfl, fz⟩
          go_wp2_with fail
          go_ret
          exact ⟨vz, rfl, fz.1.sub fun b hb _ => ⟨Nat.le_trans HBB.out.size hb.1, hb.2⟩, HBB.out.trans (fz.2.mono HBB.out.size)⟩

end Go.Proofs.YtjjgmkfkmckkoaaDoor

/- Codec: reference: a message. -/
namespace Go.Proofs.YtjjgmkfkmckkoaaDoor
open Go.RowKit Go.Maps
attribute [-simp] Tryd.isAgg23 Tryd.typeInfo23 Tryd.isAgg79 Tryd.typeInfo79 Tryd.isAgg53 Tryd.typeInfo53 Tryd.isAgg55 Tryd.typeInfo55 Tryd.isAgg46 Tryd.typeInfo46 Tryd.isAgg91 Tryd.typeInfo91

set_option maxHeartbeats 8000000 in
set_option maxRecDepth 100000 in
theorem rMessage_any (w : World) {S : Nat → Prop} {x : tMessage.El} {cs : List Value} (h : tMessage.rep w S x cs) (hl : (tMessage.enc x).length ≤ 1099511627776) :
    Calls Tryd.prog 12 #[.agg cs.toArray] w fun e w' => ∃ v', e = .returned v' ∧ Fresh w w' v' (tMessage.enc x) := by
  obtain ⟨x0, x1, x2, x3, x4, x5, x6, x7, x8, _⟩ := x
  obtain ⟨c0, _, rfl, ⟨rfl, _⟩, c1, _, rfl, ⟨rfl, _⟩, c2, _, rfl, ⟨rfl, _⟩, c3, _, rfl, ⟨rfl, l3⟩, c4, _, rfl, r4, c5, _, rfl, r5, c6, _, rfl, r6, c7, _, rfl, r7, c8, _, rfl, r8, rfl⟩ := h
  obtain ⟨y4, rfl⟩ : ∃ y, c4 = [y] := by obtain ⟨v, _, e, _⟩ := r4; exact ⟨v, e⟩
  obtain ⟨y5, rfl⟩ : ∃ y, c5 = [y] := by obtain ⟨v, _, e, _⟩ := r5; exact ⟨v, e⟩
  obtain ⟨y6, rfl⟩ : ∃ y, c6 = [y] := by obtain ⟨v, _, e, _⟩ := r6; exact ⟨v, e⟩
  obtain ⟨y7, rfl⟩ : ∃ y, c7 = [y] := by obtain ⟨v, _, e, _⟩ := r7; exact ⟨v, e⟩
  obtain ⟨y8, rfl⟩ : ∃ y, c8 = [y] := by obtain ⟨v, _, e, _⟩ := r8; exact ⟨v, e⟩
  obtain ⟨A4, cap4, rfl, hlen4, _⟩ := list_at r4
  obtain ⟨A5, cap5, rfl, hlen5, _⟩ := list_at r5
  obtain ⟨A6, cap6, rfl, hlen6, _⟩ := list_at r6
  obtain ⟨A7, cap7, rfl, hlen7, _⟩ := list_at r7
  obtain ⟨A8, cap8, rfl, hlen8, _⟩ := list_at r8
  have R4 := Lib.hid r4; clear r4
  have R5 := Lib.hid r5; clear r5
  have R6 := Lib.hid r6; clear r6
  have R7 := Lib.hid r7; clear r7
  have R8 := Lib.hid r8; clear r8
  simp only [nk_t]
  obtain ⟨C, hC⟩ : ∃ C, C = [Value.int .i64 x0] ++ ([Value.int .i64 x1] ++ ([Value.int .i64 x2] ++ (u8s x3 ++ ([Value.slice A4 (List.length (α := (tBlock).El) x4) cap4] ++ ([Value.slice A5 (List.length (α := (tVote).El) x5) cap5] ++ ([Value.slice A6 (List.length (α := (tTimeout).El) x6) cap6] ++ ([Value.slice A7 (List.length (α := (tCommit).El) x7) cap7] ++ ([Value.slice A8 (List.length (α := (tTx).El) x8) cap8] ++ ([]))))))))) := ⟨_, rfl⟩
  rw [← hC]
  have hf : ∀ w', Blk w' w.heap.size 37 C.toArray → w'.cell? ⟨w.heap.size, 0, none⟩ = some (.int .i64 x0) ∧ w'.cell? ⟨w.heap.size, 1, none⟩ = some (.int .i64 x1) ∧ w'.cell? ⟨w.heap.size, 2, none⟩ = some (.int .i64 x2) ∧ w'.rangeAt w.heap.size 3 (u8s x3) ∧ w'.cell? ⟨w.heap.size, 35, none⟩ = some (.slice A4 (List.length (α := (tBlock).El) x4) cap4) ∧ w'.cell? ⟨w.heap.size, 36, none⟩ = some (.slice A5 (List.length (α := (tVote).El) x5) cap5) ∧ w'.cell? ⟨w.heap.size, 37, none⟩ = some (.slice A6 (List.length (α := (tTimeout).El) x6) cap6) ∧ w'.cell? ⟨w.heap.size, 38, none⟩ = some (.slice A7 (List.length (α := (tCommit).El) x7) cap7) ∧ w'.cell? ⟨w.heap.size, 39, none⟩ = some (.slice A8 (List.length (α := (tTx).El) x8) cap8) := fun w' hb => by
    have := hb.lies [[Value.int .i64 x0], [Value.int .i64 x1], [Value.int .i64 x2], u8s x3, [Value.slice A4 (List.length (α := (tBlock).El) x4) cap4], [Value.slice A5 (List.length (α := (tVote).El) x5) cap5], [Value.slice A6 (List.length (α := (tTimeout).El) x6) cap6], [Value.slice A7 (List.length (α := (tCommit).El) x7) cap7], [Value.slice A8 (List.length (α := (tTx).El) x8) cap8]] [] (by rw [hC]; simp)
    simp only [Lies, u8s_length, l3, List.length_cons, List.length_nil] at this
    obtain ⟨s0, s1, s2, s3, s4, s5, s6, s7, s8, _⟩ := this
    exact ⟨Lies.one s0, Lies.one s1, Lies.one s2, s3, Lies.one s4, Lies.one s5, Lies.one s6, Lies.one s7, Lies.one s8⟩
  have HF := Lib.hid hf
  clear hf hC
  have L3 := Lib.hid l3; clear l3
  have hl' : (joinB [numB x0, numB x1, numB x2, x3, (Sh.list tBlock).enc x4, (Sh.list tVote).enc x5, (Sh.list tTimeout).enc x6, (Sh.list tCommit).enc x7, (Sh.list tTx).enc x8]).length ≤ 1099511627776 := hl
  have HLL := Lib.hid hl'
  clear hl hl'
  have HE4 := Lib.hid (show ((Sh.list tBlock).enc x4).length ≤ 1099511627776 from (by have h1 := HLL.out; rw [joinB_length] at h1; have h2 := joinP_mem (l := [numB x0, numB x1, numB x2, x3, (Sh.list tBlock).enc x4, (Sh.list tVote).enc x5, (Sh.list tTimeout).enc x6, (Sh.list tCommit).enc x7, (Sh.list tTx).enc x8]) (x := (Sh.list tBlock).enc x4) (by simp); omega))
  have hcn4 : (List.length (α := (tBlock).El) x4) ≤ 137438953472 := by
    have h1 := HE4.out
    have h2 := joinP_count (List.map (tBlock).enc x4)
    have h3 : ((Sh.list tBlock).enc x4).length = 8 + (joinP (List.map (tBlock).enc x4)).length := joinB_length _
    rw [List.length_map] at h2
    omega
  have HEJ4 := Lib.hid (show (joinB (List.map (tBlock).enc x4)).length ≤ 140737488355328 from by
    have h1 := HE4.out
    have h3 : ((Sh.list tBlock).enc x4).length = 8 + (joinP (List.map (tBlock).enc x4)).length := joinB_length _
    rw [joinB_length]
    omega)
  have HE5 := Lib.hid (show ((Sh.list tVote).enc x5).length ≤ 1099511627776 from (by have h1 := HLL.out; rw [joinB_length] at h1; have h2 := joinP_mem (l := [numB x0, numB x1, numB x2, x3, (Sh.list tBlock).enc x4, (Sh.list tVote).enc x5, (Sh.list tTimeout).enc x6, (Sh.list tCommit).enc x7, (Sh.list tTx).enc x8]) (x := (Sh.list tVote).enc x5) (by simp); omega))
  have hcn5 : (List.length (α := (tVote).El) x5) ≤ 137438953472 := by
    have h1 := HE5.out
    have h2 := joinP_count (List.map (tVote).enc x5)
    have h3 : ((Sh.list tVote).enc x5).length = 8 + (joinP (List.map (tVote).enc x5)).length := joinB_length _
    rw [List.length_map] at h2
    omega
  have HEJ5 := Lib.hid (show (joinB (List.map (tVote).enc x5)).length ≤ 140737488355328 from by
    have h1 := HE5.out
    have h3 : ((Sh.list tVote).enc x5).length = 8 + (joinP (List.map (tVote).enc x5)).length := joinB_length _
    rw [joinB_length]
    omega)
  have HE6 := Lib.hid (show ((Sh.list tTimeout).enc x6).length ≤ 1099511627776 from (by have h1 := HLL.out; rw [joinB_length] at h1; have h2 := joinP_mem (l := [numB x0, numB x1, numB x2, x3, (Sh.list tBlock).enc x4, (Sh.list tVote).enc x5, (Sh.list tTimeout).enc x6, (Sh.list tCommit).enc x7, (Sh.list tTx).enc x8]) (x := (Sh.list tTimeout).enc x6) (by simp); omega))
  have hcn6 : (List.length (α := (tTimeout).El) x6) ≤ 137438953472 := by
    have h1 := HE6.out
    have h2 := joinP_count (List.map (tTimeout).enc x6)
    have h3 : ((Sh.list tTimeout).enc x6).length = 8 + (joinP (List.map (tTimeout).enc x6)).length := joinB_length _
    rw [List.length_map] at h2
    omega
  have HEJ6 := Lib.hid (show (joinB (List.map (tTimeout).enc x6)).length ≤ 140737488355328 from by
    have h1 := HE6.out
    have h3 : ((Sh.list tTimeout).enc x6).length = 8 + (joinP (List.map (tTimeout).enc x6)).length := joinB_length _
    rw [joinB_length]
    omega)
  have HE7 := Lib.hid (show ((Sh.list tCommit).enc x7).length ≤ 1099511627776 from (by have h1 := HLL.out; rw [joinB_length] at h1; have h2 := joinP_mem (l := [numB x0, numB x1, numB x2, x3, (Sh.list tBlock).enc x4, (Sh.list tVote).enc x5, (Sh.list tTimeout).enc x6, (Sh.list tCommit).enc x7, (Sh.list tTx).enc x8]) (x := (Sh.list tCommit).enc x7) (by simp); omega))
  have hcn7 : (List.length (α := (tCommit).El) x7) ≤ 137438953472 := by
    have h1 := HE7.out
    have h2 := joinP_count (List.map (tCommit).enc x7)
    have h3 : ((Sh.list tCommit).enc x7).length = 8 + (joinP (List.map (tCommit).enc x7)).length := joinB_length _
    rw [List.length_map] at h2
    omega
  have HEJ7 := Lib.hid (show (joinB (List.map (tCommit).enc x7)).length ≤ 140737488355328 from by
    have h1 := HE7.out
    have h3 : ((Sh.list tCommit).enc x7).length = 8 + (joinP (List.map (tCommit).enc x7)).length := joinB_length _
    rw [joinB_length]
    omega)
  have HE8 := Lib.hid (show ((Sh.list tTx).enc x8).length ≤ 1099511627776 from (by have h1 := HLL.out; rw [joinB_length] at h1; have h2 := joinP_mem (l := [numB x0, numB x1, numB x2, x3, (Sh.list tBlock).enc x4, (Sh.list tVote).enc x5, (Sh.list tTimeout).enc x6, (Sh.list tCommit).enc x7, (Sh.list tTx).enc x8]) (x := (Sh.list tTx).enc x8) (by simp); omega))
  have hcn8 : (List.length (α := (tTx).El) x8) ≤ 137438953472 := by
    have h1 := HE8.out
    have h2 := joinP_count (List.map (tTx).enc x8)
    have h3 : ((Sh.list tTx).enc x8).length = 8 + (joinP (List.map (tTx).enc x8)).length := joinB_length _
    rw [List.length_map] at h2
    omega
  have HEJ8 := Lib.hid (show (joinB (List.map (tTx).enc x8)).length ≤ 140737488355328 from by
    have h1 := HE8.out
    have h3 : ((Sh.list tTx).enc x8).length = 8 + (joinP (List.map (tTx).enc x8)).length := joinB_length _
    rw [joinB_length]
    omega)
  go_enter Tryd.func12, Tryd.ntmps12
  go_wp2_with fail
  have hbe := (Below.refl w.heap.size w).alloc (Nat.le_refl _) (.cells C.toArray 37)
  have hal0 : Below (w.heap.size + 1) (w.alloc (.cells C.toArray 37)) ((w.alloc (.cells C.toArray 37)).alloc (.cells #[] 28)) := (Below.refl _ _).alloc (by simp) _
  have hMb : w.heap.size < w.heap.size + 1 := by omega
  go_loopw [3, 4] (fun o i wr => ∃ k : Nat, k ≤ (List.length (α := (tBlock).El) x4) ∧ i = .int .i64 k ∧ Bss wr (fun b => (w.heap.size + 1) ≤ b) (fun b => (w.heap.size + 1) ≤ b) o ((List.take k x4).map (tBlock).enc) ∧ Below w.heap.size w wr ∧ (w.heap.size + 1) ≤ wr.heap.size ∧ Blk wr w.heap.size 37 C.toArray) (fun _ i _ => (List.length (α := (tBlock).El) x4) - (intOf i).toNat)
  case atStart => exact ⟨0, Nat.zero_le _, rfl, Bss.empty1 w _, hbe.alloc (by simp) _, by simp, ((Blk.new w _ _).alloc _)⟩
  case round =>
    obtain ⟨k, hk, rfl, hB, hbl, hMz, hbox⟩ := hrel
    by_cases hlt : k < (List.length (α := (tBlock).El) x4)
    · obtain ⟨R, hR⟩ : ∃ R, R = (List.take k x4).map (tBlock).enc := ⟨_, rfl⟩
      rw [← hR] at hB
      have hRl : R.length = k := by rw [hR, List.length_map, List.length_take]; omega
      have hnext : (List.take (k + 1) x4).map (tBlock).enc = R ++ [(tBlock).enc (x4[k]'hlt)] := by rw [List.take_succ_eq_append_getElem hlt, List.map_append, ← hR]; rfl
      obtain ⟨Aa, ca, rfl⟩ := hB.form
      obtain ⟨_, _, e, _, hat⟩ := list_at (Sh.rep_below R4.out hbl)
      injection e with e1 e2 e3
      subst e1 e3
      obtain ⟨b, off, c, rfl, hca, hr, hcl, hblt, _⟩ := hat k hlt
      obtain ⟨x, hx⟩ : ∃ x, x = x4[k]'hlt := ⟨_, rfl⟩
      rw [← hx] at hr hnext
      have hsm2 : ((tBlock).enc x).length ≤ 1099511627776 := by
        have h1 := joinP_mem (List.mem_map.2 ⟨x4[k]'hlt, List.getElem_mem hlt, rfl⟩ : (tBlock).enc (x4[k]'hlt) ∈ List.map (tBlock).enc x4)
        have h2 := HE4.out
        have h3 : ((Sh.list tBlock).enc x4).length = 8 + (joinP (List.map (tBlock).enc x4)).length := joinB_length _
        rw [hx]; omega
      have hinfo : (Tryd.prog.info? 79).map (·.size) = some c.length := by rw [hcl]; kernel_rfl
      have HCA := Lib.hid (show wr.rangeAt b (off + k * 173) c from hca)
      have HI := Lib.hid hinfo
      clear hinfo
      have HREP := Lib.hid hr
      have HSM := Lib.hid hsm2
      clear hr hsm2
      have hown : ∀ k, (Value.slice Aa R.length ca).ownBlock = some k → k < wr.heap.size := fun k hk => by obtain ⟨vs, ho, _⟩ := hB; exact own_lt ho hk
      have hbc := (HF.out wr hbox).2.2.2.2.1
      have HB := Lib.hid hB
      have HN := Lib.hid hnext
      have HRL := Lib.hid hRl
      have HOWN := Lib.hid hown
      have HBOX := Lib.hid hbox
      clear hB hca hcl hat hx hR hnext hRl hown hbox
      go_wp2_with (refine wpList_load_mid rfl 79 _ rfl b (off + k * 173) rfl c _ HCA.out Tryd.underlying79 rfl HI.out ?_)
      refine (rBlock_any _ HREP.out HSM.out).mono ?_
      rintro e w1 ⟨v1, rfl, f1⟩
      have hb1 := hbl.trans (f1.2.mono hbl.size)
      obtain ⟨y, hy⟩ : ∃ y, y = (tBlock).enc x := ⟨_, rfl⟩
      have f1 : Fresh wr w1 v1 y := hy ▸ f1
      rw [← hy] at HN
      obtain ⟨A1, c1, rfl⟩ := f1.1.form
      obtain ⟨vs, ho, hS, hr⟩ := HB.out.below f1.2
      have hsz1 := f1.2.size
      have hal : Below w1.heap.size w1 (w1.alloc (.cells #[.slice A1 y.length c1] 28)) := (Below.refl _ w1).alloc (Nat.le_refl _) _
      have HAL := Lib.hid hal
      have HO := Lib.hid (show Own (w1.alloc (.cells #[.slice A1 y.length c1] 28)) _ _ _ _ _ from own_keep ho fun k hk => hal.block k (own_lt ho hk))
      have HS := Lib.hid hS
      have HR := Lib.hid (fun i x u h1 h2 => (hr i x u h1 h2).below hal)
      have HU := Lib.hid ((f1.1.1.below hal).sub (T := fun b => (w.heap.size + 1) ≤ b ∧ (Value.slice Aa R.length ca).ownBlock ≠ some b) fun b hb _ => ⟨Nat.le_trans hMz hb.1, fun e => by have := HOWN.out b e; omega⟩)
      have HS2 := Lib.hid (Cs.of_new w1 28 (size := 1) 1 (cs := [.slice A1 y.length c1]) rfl (by simp only [maxLen]; decide))
      have H63 := Lib.hid (show R.length + 1 ≤ maxLen ∧ (R.length + 1) * 24 ≤ 140737488355328 from by have := HRL.out; refine ⟨by simp only [maxLen]; omega, by omega⟩)
      have HF2 := Lib.hid f1.2
      clear ho hS hr hal f1 hy
      go_wp2_with (at_builtin; refine wpList_app _ rfl _ _ _ rfl Tryd.underlying93 info_row rfl (by decide) HO.out rfl HS2.out rfl (by simp [Value.oneCell']) H63.out.1 H63.out.2 ?_; intro v3 w3 ho3 hg3 hnil3 hat3; clear hnil3; have HO3 := Lib.hid ho3; clear ho3; have HG3 := Lib.hid hg3; clear hg3; have HAT3 := Lib.hid hat3; clear hat3)
      have hzz := HAL.out.size
      have hz3 := HG3.out.size
      have hpush := Bss.push HO.out HS.out HR.out HU.out HO3.out HG3.out HAT3.out (by have := hb1.size; omega)
      rw [← HN.out] at hpush
      have hbA : Below w.heap.size w (w1.alloc (.cells #[.slice A1 y.length c1] 28)) := hb1.trans (HAL.out.mono hb1.size)
      have hbw3 := HF2.out.trans (HAL.out.mono hsz1)
      refine ⟨⟨k + 1, by omega, by push_cast; rfl, hpush, hbA.trans (HG3.out.below hbA.size fun b h => by have h1 := HS.out b h; have h2 := HBOX.out.lt; omega), by omega, (HBOX.out.below hbw3 HBOX.out.lt).chg HG3.out fun h => by have h1 := HS.out _ h; have h2 := hMb; omega⟩, ?_⟩
      simp only [intOf]
      omega
    · have hk' : k = (List.length (α := (tBlock).El) x4) := by omega
      rw [hk', List.take_length] at hB
      have hsm : ∀ x ∈ List.map (tBlock).enc x4, x.length ≤ 140737488355328 := fun x hx => by
        have h1 := joinP_mem hx
        have h2 := HE4.out
        have h3 : ((Sh.list tBlock).enc x4).length = 8 + (joinP (List.map (tBlock).enc x4)).length := joinB_length _
        omega
      have hEJ4 := HEJ4.out
      obtain ⟨R4m, hR4m⟩ : ∃ R, R = List.map (tBlock).enc x4 := ⟨_, rfl⟩
      rw [← hR4m] at hB hsm hEJ4
      have HRm4 := Lib.hid hR4m
      have HEK4 := Lib.hid hEJ4
      clear hR4m hEJ4
      have V4 := Lib.hid (((hB.read hsm).lt_ (T := fun _ => True) fun _ _ => trivial).subs (T := fun b => b < wr.heap.size) fun b hb _ => hb.2)
      obtain ⟨Ao4, co4, rfl⟩ := hB.form
      have hbc4 := (HF.out wr hbox).2.2.2.2.1
      clear hB hsm
      obtain ⟨w_4, hw_4⟩ : ∃ w', w' = wr := ⟨_, rfl⟩
      subst hw_4
      have HBX4 := Lib.hid hbox; have hmb4 := hbox.lt; clear hbox
      go_wp2_with fail
      clear hlt hk hk'
      have hal4 : Below w_4.heap.size w_4 (w_4.alloc (.cells #[] 28)) := (Below.refl _ w_4).alloc (Nat.le_refl _) _
      have hMb : w.heap.size < w_4.heap.size := hmb4
      go_loopw [5, 6] (fun o i wr => ∃ k : Nat, k ≤ (List.length (α := (tVote).El) x5) ∧ i = .int .i64 k ∧ Bss wr (fun b => w_4.heap.size ≤ b) (fun b => w_4.heap.size ≤ b) o ((List.take k x5).map (tVote).enc) ∧ Below w.heap.size w wr ∧ w_4.heap.size ≤ wr.heap.size ∧ Blk wr w.heap.size 37 C.toArray ∧ Bsr wr (fun b => b < w_4.heap.size) (.slice Ao4 R4m.length co4) R4m) (fun _ i _ => (List.length (α := (tVote).El) x5) - (intOf i).toNat)
      case atStart => exact ⟨0, Nat.zero_le _, rfl, Bss.empty w_4 (fun b => w_4.heap.size ≤ b) (fun b => w_4.heap.size ≤ b) (Nat.le_refl _), hbl.alloc hbl.size _, by simp, (HBX4.out.below hal4 HBX4.out.lt), (V4.out.below hal4)⟩
      case round =>
        obtain ⟨k, hk, rfl, hB, hbl, hMz, hbox, hp4⟩ := hrel
        by_cases hlt : k < (List.length (α := (tVote).El) x5)
        · obtain ⟨R, hR⟩ : ∃ R, R = (List.take k x5).map (tVote).enc := ⟨_, rfl⟩
          rw [← hR] at hB
          have hRl : R.length = k := by rw [hR, List.length_map, List.length_take]; omega
          have hnext : (List.take (k + 1) x5).map (tVote).enc = R ++ [(tVote).enc (x5[k]'hlt)] := by rw [List.take_succ_eq_append_getElem hlt, List.map_append, ← hR]; rfl
          obtain ⟨Aa, ca, rfl⟩ := hB.form
          obtain ⟨_, _, e, _, hat⟩ := list_at (Sh.rep_below R5.out hbl)
          injection e with e1 e2 e3
          subst e1 e3
          obtain ⟨b, off, c, rfl, hca, hr, hcl, hblt, _⟩ := hat k hlt
          obtain ⟨x, hx⟩ : ∃ x, x = x5[k]'hlt := ⟨_, rfl⟩
          rw [← hx] at hr hnext
          have hsm2 : ((tVote).enc x).length ≤ 1099511627776 := by
            have h1 := joinP_mem (List.mem_map.2 ⟨x5[k]'hlt, List.getElem_mem hlt, rfl⟩ : (tVote).enc (x5[k]'hlt) ∈ List.map (tVote).enc x5)
            have h2 := HE5.out
            have h3 : ((Sh.list tVote).enc x5).length = 8 + (joinP (List.map (tVote).enc x5)).length := joinB_length _
            rw [hx]; omega
          have hinfo : (Tryd.prog.info? 53).map (·.size) = some c.length := by rw [hcl]; kernel_rfl
          have HCA := Lib.hid (show wr.rangeAt b (off + k * 69) c from hca)
          have HI := Lib.hid hinfo
          clear hinfo
          have HREP := Lib.hid hr
          have HSM := Lib.hid hsm2
          clear hr hsm2
          have hown : ∀ k, (Value.slice Aa R.length ca).ownBlock = some k → k < wr.heap.size := fun k hk => by obtain ⟨vs, ho, _⟩ := hB; exact own_lt ho hk
          have hbc := (HF.out wr hbox).2.2.2.2.2.1
          have HB := Lib.hid hB
          have HN := Lib.hid hnext
          have HRL := Lib.hid hRl
          have HOWN := Lib.hid hown
          have HBOX := Lib.hid hbox
          have HP4 := Lib.hid hp4
          clear hB hca hcl hat hx hR hnext hRl hown hbox hp4
          go_wp2_with (refine wpList_load_mid rfl 53 _ rfl b (off + k * 69) rfl c _ HCA.out Tryd.underlying53 rfl HI.out ?_)
          refine (rVote_any _ HREP.out HSM.out).mono ?_
          rintro e w1 ⟨v1, rfl, f1⟩
          have hb1 := hbl.trans (f1.2.mono hbl.size)
          obtain ⟨y, hy⟩ : ∃ y, y = (tVote).enc x := ⟨_, rfl⟩
          have f1 : Fresh wr w1 v1 y := hy ▸ f1
          rw [← hy] at HN
          obtain ⟨A1, c1, rfl⟩ := f1.1.form
          obtain ⟨vs, ho, hS, hr⟩ := HB.out.below f1.2
          have hsz1 := f1.2.size
          have hal : Below w1.heap.size w1 (w1.alloc (.cells #[.slice A1 y.length c1] 28)) := (Below.refl _ w1).alloc (Nat.le_refl _) _
          have HAL := Lib.hid hal
          have HO := Lib.hid (show Own (w1.alloc (.cells #[.slice A1 y.length c1] 28)) _ _ _ _ _ from own_keep ho fun k hk => hal.block k (own_lt ho hk))
          have HS := Lib.hid hS
          have HR := Lib.hid (fun i x u h1 h2 => (hr i x u h1 h2).below hal)
          have HU := Lib.hid ((f1.1.1.below hal).sub (T := fun b => w_4.heap.size ≤ b ∧ (Value.slice Aa R.length ca).ownBlock ≠ some b) fun b hb _ => ⟨Nat.le_trans hMz hb.1, fun e => by have := HOWN.out b e; omega⟩)
          have HS2 := Lib.hid (Cs.of_new w1 28 (size := 1) 1 (cs := [.slice A1 y.length c1]) rfl (by simp only [maxLen]; decide))
          have H63 := Lib.hid (show R.length + 1 ≤ maxLen ∧ (R.length + 1) * 24 ≤ 140737488355328 from by have := HRL.out; refine ⟨by simp only [maxLen]; omega, by omega⟩)
          have HF2 := Lib.hid f1.2
          clear ho hS hr hal f1 hy
          go_wp2_with (at_builtin; refine wpList_app _ rfl _ _ _ rfl Tryd.underlying93 info_row rfl (by decide) HO.out rfl HS2.out rfl (by simp [Value.oneCell']) H63.out.1 H63.out.2 ?_; intro v3 w3 ho3 hg3 hnil3 hat3; clear hnil3; have HO3 := Lib.hid ho3; clear ho3; have HG3 := Lib.hid hg3; clear hg3; have HAT3 := Lib.hid hat3; clear hat3)
          have hzz := HAL.out.size
          have hz3 := HG3.out.size
          have hpush := Bss.push HO.out HS.out HR.out HU.out HO3.out HG3.out HAT3.out (by have := hb1.size; omega)
          rw [← HN.out] at hpush
          have hbA : Below w.heap.size w (w1.alloc (.cells #[.slice A1 y.length c1] 28)) := hb1.trans (HAL.out.mono hb1.size)
          have hbw3 := HF2.out.trans (HAL.out.mono hsz1)
          refine ⟨⟨k + 1, by omega, by push_cast; rfl, hpush, hbA.trans (HG3.out.below hbA.size fun b h => by have h1 := HS.out b h; have h2 := HBOX.out.lt; omega), by omega, (HBOX.out.below hbw3 HBOX.out.lt).chg HG3.out fun h => by have h1 := HS.out _ h; have h2 := hMb; omega, (HP4.out.below hbw3).chg HG3.out fun b hb h => by have := HS.out b h; omega⟩, ?_⟩
          simp only [intOf]
          omega
        · have hk' : k = (List.length (α := (tVote).El) x5) := by omega
          rw [hk', List.take_length] at hB
          have hsm : ∀ x ∈ List.map (tVote).enc x5, x.length ≤ 140737488355328 := fun x hx => by
            have h1 := joinP_mem hx
            have h2 := HE5.out
            have h3 : ((Sh.list tVote).enc x5).length = 8 + (joinP (List.map (tVote).enc x5)).length := joinB_length _
            omega
          have hEJ5 := HEJ5.out
          obtain ⟨R5m, hR5m⟩ : ∃ R, R = List.map (tVote).enc x5 := ⟨_, rfl⟩
          rw [← hR5m] at hB hsm hEJ5
          have HRm5 := Lib.hid hR5m
          have HEK5 := Lib.hid hEJ5
          clear hR5m hEJ5
          have V5 := Lib.hid (((hB.read hsm).lt_ (T := fun _ => True) fun _ _ => trivial).subs (T := fun b => b < wr.heap.size) fun b hb _ => hb.2)
          obtain ⟨Ao5, co5, rfl⟩ := hB.form
          have hbc5 := (HF.out wr hbox).2.2.2.2.2.1
          have V4 := Lib.hid (hp4.subs (T := fun b => b < wr.heap.size) fun b hb _ => Nat.lt_of_lt_of_le hb hMz)
          clear hB hsm hp4
          obtain ⟨w_5, hw_5⟩ : ∃ w', w' = wr := ⟨_, rfl⟩
          subst hw_5
          have HBX5 := Lib.hid hbox; have hmb5 := hbox.lt; clear hbox
          go_wp2_with fail
          clear hlt hk hk'
          have hal5 : Below w_5.heap.size w_5 (w_5.alloc (.cells #[] 28)) := (Below.refl _ w_5).alloc (Nat.le_refl _) _
          have hMb : w.heap.size < w_5.heap.size := hmb5
          go_loopw [7, 8] (fun o i wr => ∃ k : Nat, k ≤ (List.length (α := (tTimeout).El) x6) ∧ i = .int .i64 k ∧ Bss wr (fun b => w_5.heap.size ≤ b) (fun b => w_5.heap.size ≤ b) o ((List.take k x6).map (tTimeout).enc) ∧ Below w.heap.size w wr ∧ w_5.heap.size ≤ wr.heap.size ∧ Blk wr w.heap.size 37 C.toArray ∧ Bsr wr (fun b => b < w_5.heap.size) (.slice Ao4 R4m.length co4) R4m ∧ Bsr wr (fun b => b < w_5.heap.size) (.slice Ao5 R5m.length co5) R5m) (fun _ i _ => (List.length (α := (tTimeout).El) x6) - (intOf i).toNat)
          case atStart => exact ⟨0, Nat.zero_le _, rfl, Bss.empty w_5 (fun b => w_5.heap.size ≤ b) (fun b => w_5.heap.size ≤ b) (Nat.le_refl _), hbl.alloc hbl.size _, by simp, (HBX5.out.below hal5 HBX5.out.lt), (V4.out.below hal5), (V5.out.below hal5)⟩
          case round =>
            obtain ⟨k, hk, rfl, hB, hbl, hMz, hbox, hp4, hp5⟩ := hrel
            by_cases hlt : k < (List.length (α := (tTimeout).El) x6)
            · obtain ⟨R, hR⟩ : ∃ R, R = (List.take k x6).map (tTimeout).enc := ⟨_, rfl⟩
              rw [← hR] at hB
              have hRl : R.length = k := by rw [hR, List.length_map, List.length_take]; omega
              have hnext : (List.take (k + 1) x6).map (tTimeout).enc = R ++ [(tTimeout).enc (x6[k]'hlt)] := by rw [List.take_succ_eq_append_getElem hlt, List.map_append, ← hR]; rfl
              obtain ⟨Aa, ca, rfl⟩ := hB.form
              obtain ⟨_, _, e, _, hat⟩ := list_at (Sh.rep_below R6.out hbl)
              injection e with e1 e2 e3
              subst e1 e3
              obtain ⟨b, off, c, rfl, hca, hr, hcl, hblt, _⟩ := hat k hlt
              obtain ⟨x, hx⟩ : ∃ x, x = x6[k]'hlt := ⟨_, rfl⟩
              rw [← hx] at hr hnext
              have hsm2 : ((tTimeout).enc x).length ≤ 1099511627776 := by
                have h1 := joinP_mem (List.mem_map.2 ⟨x6[k]'hlt, List.getElem_mem hlt, rfl⟩ : (tTimeout).enc (x6[k]'hlt) ∈ List.map (tTimeout).enc x6)
                have h2 := HE6.out
                have h3 : ((Sh.list tTimeout).enc x6).length = 8 + (joinP (List.map (tTimeout).enc x6)).length := joinB_length _
                rw [hx]; omega
              have hinfo : (Tryd.prog.info? 55).map (·.size) = some c.length := by rw [hcl]; kernel_rfl
              have HCA := Lib.hid (show wr.rangeAt b (off + k * 74) c from hca)
              have HI := Lib.hid hinfo
              clear hinfo
              have HREP := Lib.hid hr
              have HSM := Lib.hid hsm2
              clear hr hsm2
              have hown : ∀ k, (Value.slice Aa R.length ca).ownBlock = some k → k < wr.heap.size := fun k hk => by obtain ⟨vs, ho, _⟩ := hB; exact own_lt ho hk
              have hbc := (HF.out wr hbox).2.2.2.2.2.2.1
              have HB := Lib.hid hB
              have HN := Lib.hid hnext
              have HRL := Lib.hid hRl
              have HOWN := Lib.hid hown
              have HBOX := Lib.hid hbox
              have HP4 := Lib.hid hp4
              have HP5 := Lib.hid hp5
              clear hB hca hcl hat hx hR hnext hRl hown hbox hp4 hp5
              go_wp2_with (refine wpList_load_mid rfl 55 _ rfl b (off + k * 74) rfl c _ HCA.out Tryd.underlying55 rfl HI.out ?_)
              refine (rTimeout_any _ HREP.out HSM.out).mono ?_
              rintro e w1 ⟨v1, rfl, f1⟩
              have hb1 := hbl.trans (f1.2.mono hbl.size)
              obtain ⟨y, hy⟩ : ∃ y, y = (tTimeout).enc x := ⟨_, rfl⟩
              have f1 : Fresh wr w1 v1 y := hy ▸ f1
              rw [← hy] at HN
              obtain ⟨A1, c1, rfl⟩ := f1.1.form
              obtain ⟨vs, ho, hS, hr⟩ := HB.out.below f1.2
              have hsz1 := f1.2.size
              have hal : Below w1.heap.size w1 (w1.alloc (.cells #[.slice A1 y.length c1] 28)) := (Below.refl _ w1).alloc (Nat.le_refl _) _
              have HAL := Lib.hid hal
              have HO := Lib.hid (show Own (w1.alloc (.cells #[.slice A1 y.length c1] 28)) _ _ _ _ _ from own_keep ho fun k hk => hal.block k (own_lt ho hk))
              have HS := Lib.hid hS
              have HR := Lib.hid (fun i x u h1 h2 => (hr i x u h1 h2).below hal)
              have HU := Lib.hid ((f1.1.1.below hal).sub (T := fun b => w_5.heap.size ≤ b ∧ (Value.slice Aa R.length ca).ownBlock ≠ some b) fun b hb _ => ⟨Nat.le_trans hMz hb.1, fun e => by have := HOWN.out b e; omega⟩)
              have HS2 := Lib.hid (Cs.of_new w1 28 (size := 1) 1 (cs := [.slice A1 y.length c1]) rfl (by simp only [maxLen]; decide))
              have H63 := Lib.hid (show R.length + 1 ≤ maxLen ∧ (R.length + 1) * 24 ≤ 140737488355328 from by have := HRL.out; refine ⟨by simp only [maxLen]; omega, by omega⟩)
              have HF2 := Lib.hid f1.2
              clear ho hS hr hal f1 hy
              go_wp2_with (at_builtin; refine wpList_app _ rfl _ _ _ rfl Tryd.underlying93 info_row rfl (by decide) HO.out rfl HS2.out rfl (by simp [Value.oneCell']) H63.out.1 H63.out.2 ?_; intro v3 w3 ho3 hg3 hnil3 hat3; clear hnil3; have HO3 := Lib.hid ho3; clear ho3; have HG3 := Lib.hid hg3; clear hg3; have HAT3 := Lib.hid hat3; clear hat3)
              have hzz := HAL.out.size
              have hz3 := HG3.out.size
              have hpush := Bss.push HO.out HS.out HR.out HU.out HO3.out HG3.out HAT3.out (by have := hb1.size; omega)
              rw [← HN.out] at hpush
              have hbA : Below w.heap.size w (w1.alloc (.cells #[.slice A1 y.length c1] 28)) := hb1.trans (HAL.out.mono hb1.size)
              have hbw3 := HF2.out.trans (HAL.out.mono hsz1)
              refine ⟨⟨k + 1, by omega, by push_cast; rfl, hpush, hbA.trans (HG3.out.below hbA.size fun b h => by have h1 := HS.out b h; have h2 := HBOX.out.lt; omega), by omega, (HBOX.out.below hbw3 HBOX.out.lt).chg HG3.out fun h => by have h1 := HS.out _ h; have h2 := hMb; omega, (HP4.out.below hbw3).chg HG3.out fun b hb h => by have := HS.out b h; omega, (HP5.out.below hbw3).chg HG3.out fun b hb h => by have := HS.out b h; omega⟩, ?_⟩
              simp only [intOf]
              omega
            · have hk' : k = (List.length (α := (tTimeout).El) x6) := by omega
              rw [hk', List.take_length] at hB
              have hsm : ∀ x ∈ List.map (tTimeout).enc x6, x.length ≤ 140737488355328 := fun x hx => by
                have h1 := joinP_mem hx
                have h2 := HE6.out
                have h3 : ((Sh.list tTimeout).enc x6).length = 8 + (joinP (List.map (tTimeout).enc x6)).length := joinB_length _
                omega
              have hEJ6 := HEJ6.out
              obtain ⟨R6m, hR6m⟩ : ∃ R, R = List.map (tTimeout).enc x6 := ⟨_, rfl⟩
              rw [← hR6m] at hB hsm hEJ6
              have HRm6 := Lib.hid hR6m
              have HEK6 := Lib.hid hEJ6
              clear hR6m hEJ6
              have V6 := Lib.hid (((hB.read hsm).lt_ (T := fun _ => True) fun _ _ => trivial).subs (T := fun b => b < wr.heap.size) fun b hb _ => hb.2)
              obtain ⟨Ao6, co6, rfl⟩ := hB.form
              have hbc6 := (HF.out wr hbox).2.2.2.2.2.2.1
              have V4 := Lib.hid (hp4.subs (T := fun b => b < wr.heap.size) fun b hb _ => Nat.lt_of_lt_of_le hb hMz)
              have V5 := Lib.hid (hp5.subs (T := fun b => b < wr.heap.size) fun b hb _ => Nat.lt_of_lt_of_le hb hMz)
              clear hB hsm hp4 hp5
              obtain ⟨w_6, hw_6⟩ : ∃ w', w' = wr := ⟨_, rfl⟩
              subst hw_6
              have HBX6 := Lib.hid hbox; have hmb6 := hbox.lt; clear hbox
              go_wp2_with fail
              clear hlt hk hk'
              have hal6 : Below w_6.heap.size w_6 (w_6.alloc (.cells #[] 28)) := (Below.refl _ w_6).alloc (Nat.le_refl _) _
              have hMb : w.heap.size < w_6.heap.size := hmb6
              go_loopw [9, 10] (fun o i wr => ∃ k : Nat, k ≤ (List.length (α := (tCommit).El) x7) ∧ i = .int .i64 k ∧ Bss wr (fun b => w_6.heap.size ≤ b) (fun b => w_6.heap.size ≤ b) o ((List.take k x7).map (tCommit).enc) ∧ Below w.heap.size w wr ∧ w_6.heap.size ≤ wr.heap.size ∧ Blk wr w.heap.size 37 C.toArray ∧ Bsr wr (fun b => b < w_6.heap.size) (.slice Ao4 R4m.length co4) R4m ∧ Bsr wr (fun b => b < w_6.heap.size) (.slice Ao5 R5m.length co5) R5m ∧ Bsr wr (fun b => b < w_6.heap.size) (.slice Ao6 R6m.length co6) R6m) (fun _ i _ => (List.length (α := (tCommit).El) x7) - (intOf i).toNat)
              case atStart => exact ⟨0, Nat.zero_le _, rfl, Bss.empty w_6 (fun b => w_6.heap.size ≤ b) (fun b => w_6.heap.size ≤ b) (Nat.le_refl _), hbl.alloc hbl.size _, by simp, (HBX6.out.below hal6 HBX6.out.lt), (V4.out.below hal6), (V5.out.below hal6), (V6.out.below hal6)⟩
              case round =>
                obtain ⟨k, hk, rfl, hB, hbl, hMz, hbox, hp4, hp5, hp6⟩ := hrel
                by_cases hlt : k < (List.length (α := (tCommit).El) x7)
                · obtain ⟨R, hR⟩ : ∃ R, R = (List.take k x7).map (tCommit).enc := ⟨_, rfl⟩
                  rw [← hR] at hB
                  have hRl : R.length = k := by rw [hR, List.length_map, List.length_take]; omega
                  have hnext : (List.take (k + 1) x7).map (tCommit).enc = R ++ [(tCommit).enc (x7[k]'hlt)] := by rw [List.take_succ_eq_append_getElem hlt, List.map_append, ← hR]; rfl
                  obtain ⟨Aa, ca, rfl⟩ := hB.form
                  obtain ⟨_, _, e, _, hat⟩ := list_at (Sh.rep_below R7.out hbl)
                  injection e with e1 e2 e3
                  subst e1 e3
                  obtain ⟨b, off, c, rfl, hca, hr, hcl, hblt, _⟩ := hat k hlt
                  obtain ⟨x, hx⟩ : ∃ x, x = x7[k]'hlt := ⟨_, rfl⟩
                  rw [← hx] at hr hnext
                  have hsm2 : ((tCommit).enc x).length ≤ 1099511627776 := by
                    have h1 := joinP_mem (List.mem_map.2 ⟨x7[k]'hlt, List.getElem_mem hlt, rfl⟩ : (tCommit).enc (x7[k]'hlt) ∈ List.map (tCommit).enc x7)
                    have h2 := HE7.out
                    have h3 : ((Sh.list tCommit).enc x7).length = 8 + (joinP (List.map (tCommit).enc x7)).length := joinB_length _
                    rw [hx]; omega
                  have hinfo : (Tryd.prog.info? 46).map (·.size) = some c.length := by rw [hcl]; kernel_rfl
                  have HCA := Lib.hid (show wr.rangeAt b (off + k * 38) c from hca)
                  have HI := Lib.hid hinfo
                  clear hinfo
                  have HREP := Lib.hid hr
                  have HSM := Lib.hid hsm2
                  clear hr hsm2
                  have hown : ∀ k, (Value.slice Aa R.length ca).ownBlock = some k → k < wr.heap.size := fun k hk => by obtain ⟨vs, ho, _⟩ := hB; exact own_lt ho hk
                  have hbc := (HF.out wr hbox).2.2.2.2.2.2.2.1
                  have HB := Lib.hid hB
                  have HN := Lib.hid hnext
                  have HRL := Lib.hid hRl
                  have HOWN := Lib.hid hown
                  have HBOX := Lib.hid hbox
                  have HP4 := Lib.hid hp4
                  have HP5 := Lib.hid hp5
                  have HP6 := Lib.hid hp6
                  clear hB hca hcl hat hx hR hnext hRl hown hbox hp4 hp5 hp6
                  go_wp2_with (refine wpList_load_mid rfl 46 _ rfl b (off + k * 38) rfl c _ HCA.out Tryd.underlying46 rfl HI.out ?_)
                  refine (rCommit_any _ HREP.out HSM.out).mono ?_
                  rintro e w1 ⟨v1, rfl, f1⟩
                  have hb1 := hbl.trans (f1.2.mono hbl.size)
                  obtain ⟨y, hy⟩ : ∃ y, y = (tCommit).enc x := ⟨_, rfl⟩
                  have f1 : Fresh wr w1 v1 y := hy ▸ f1
                  rw [← hy] at HN
                  obtain ⟨A1, c1, rfl⟩ := f1.1.form
                  obtain ⟨vs, ho, hS, hr⟩ := HB.out.below f1.2
                  have hsz1 := f1.2.size
                  have hal : Below w1.heap.size w1 (w1.alloc (.cells #[.slice A1 y.length c1] 28)) := (Below.refl _ w1).alloc (Nat.le_refl _) _
                  have HAL := Lib.hid hal
                  have HO := Lib.hid (show Own (w1.alloc (.cells #[.slice A1 y.length c1] 28)) _ _ _ _ _ from own_keep ho fun k hk => hal.block k (own_lt ho hk))
                  have HS := Lib.hid hS
                  have HR := Lib.hid (fun i x u h1 h2 => (hr i x u h1 h2).below hal)
                  have HU := Lib.hid ((f1.1.1.below hal).sub (T := fun b => w_6.heap.size ≤ b ∧ (Value.slice Aa R.length ca).ownBlock ≠ some b) fun b hb _ => ⟨Nat.le_trans hMz hb.1, fun e => by have := HOWN.out b e; omega⟩)
                  have HS2 := Lib.hid (Cs.of_new w1 28 (size := 1) 1 (cs := [.slice A1 y.length c1]) rfl (by simp only [maxLen]; decide))
                  have H63 := Lib.hid (show R.length + 1 ≤ maxLen ∧ (R.length + 1) * 24 ≤ 140737488355328 from by have := HRL.out; refine ⟨by simp only [maxLen]; omega, by omega⟩)
                  have HF2 := Lib.hid f1.2
                  clear ho hS hr hal f1 hy
                  go_wp2_with (at_builtin; refine wpList_app _ rfl _ _ _ rfl Tryd.underlying93 info_row rfl (by decide) HO.out rfl HS2.out rfl (by simp [Value.oneCell']) H63.out.1 H63.out.2 ?_; intro v3 w3 ho3 hg3 hnil3 hat3; clear hnil3; have HO3 := Lib.hid ho3; clear ho3; have HG3 := Lib.hid hg3; clear hg3; have HAT3 := Lib.hid hat3; clear hat3)
                  have hzz := HAL.out.size
                  have hz3 := HG3.out.size
                  have hpush := Bss.push HO.out HS.out HR.out HU.out HO3.out HG3.out HAT3.out (by have := hb1.size; omega)
                  rw [← HN.out] at hpush
                  have hbA : Below w.heap.size w (w1.alloc (.cells #[.slice A1 y.length c1] 28)) := hb1.trans (HAL.out.mono hb1.size)
                  have hbw3 := HF2.out.trans (HAL.out.mono hsz1)
                  refine ⟨⟨k + 1, by omega, by push_cast; rfl, hpush, hbA.trans (HG3.out.below hbA.size fun b h => by have h1 := HS.out b h; have h2 := HBOX.out.lt; omega), by omega, (HBOX.out.below hbw3 HBOX.out.lt).chg HG3.out fun h => by have h1 := HS.out _ h; have h2 := hMb; omega, (HP4.out.below hbw3).chg HG3.out fun b hb h => by have := HS.out b h; omega, (HP5.out.below hbw3).chg HG3.out fun b hb h => by have := HS.out b h; omega, (HP6.out.below hbw3).chg HG3.out fun b hb h => by have := HS.out b h; omega⟩, ?_⟩
                  simp only [intOf]
                  omega
                · have hk' : k = (List.length (α := (tCommit).El) x7) := by omega
                  rw [hk', List.take_length] at hB
                  have hsm : ∀ x ∈ List.map (tCommit).enc x7, x.length ≤ 140737488355328 := fun x hx => by
                    have h1 := joinP_mem hx
                    have h2 := HE7.out
                    have h3 : ((Sh.list tCommit).enc x7).length = 8 + (joinP (List.map (tCommit).enc x7)).length := joinB_length _
                    omega
                  have hEJ7 := HEJ7.out
                  obtain ⟨R7m, hR7m⟩ : ∃ R, R = List.map (tCommit).enc x7 := ⟨_, rfl⟩
                  rw [← hR7m] at hB hsm hEJ7
                  have HRm7 := Lib.hid hR7m
                  have HEK7 := Lib.hid hEJ7
                  clear hR7m hEJ7
                  have V7 := Lib.hid (((hB.read hsm).lt_ (T := fun _ => True) fun _ _ => trivial).subs (T := fun b => b < wr.heap.size) fun b hb _ => hb.2)
                  obtain ⟨Ao7, co7, rfl⟩ := hB.form
                  have hbc7 := (HF.out wr hbox).2.2.2.2.2.2.2.1
                  have V4 := Lib.hid (hp4.subs (T := fun b => b < wr.heap.size) fun b hb _ => Nat.lt_of_lt_of_le hb hMz)
                  have V5 := Lib.hid (hp5.subs (T := fun b => b < wr.heap.size) fun b hb _ => Nat.lt_of_lt_of_le hb hMz)
                  have V6 := Lib.hid (hp6.subs (T := fun b => b < wr.heap.size) fun b hb _ => Nat.lt_of_lt_of_le hb hMz)
                  clear hB hsm hp4 hp5 hp6
                  obtain ⟨w_7, hw_7⟩ : ∃ w', w' = wr := ⟨_, rfl⟩
                  subst hw_7
                  have HBX7 := Lib.hid hbox; have hmb7 := hbox.lt; clear hbox
                  go_wp2_with fail
                  clear hlt hk hk'
                  have hal7 : Below w_7.heap.size w_7 (w_7.alloc (.cells #[] 28)) := (Below.refl _ w_7).alloc (Nat.le_refl _) _
                  have hMb : w.heap.size < w_7.heap.size := hmb7
                  go_loopw [11, 12] (fun o i wr => ∃ k : Nat, k ≤ (List.length (α := (tTx).El) x8) ∧ i = .int .i64 k ∧ Bss wr (fun b => w_7.heap.size ≤ b) (fun b => w_7.heap.size ≤ b) o ((List.take k x8).map (tTx).enc) ∧ Below w.heap.size w wr ∧ w_7.heap.size ≤ wr.heap.size ∧ Blk wr w.heap.size 37 C.toArray ∧ Bsr wr (fun b => b < w_7.heap.size) (.slice Ao4 R4m.length co4) R4m ∧ Bsr wr (fun b => b < w_7.heap.size) (.slice Ao5 R5m.length co5) R5m ∧ Bsr wr (fun b => b < w_7.heap.size) (.slice Ao6 R6m.length co6) R6m ∧ Bsr wr (fun b => b < w_7.heap.size) (.slice Ao7 R7m.length co7) R7m) (fun _ i _ => (List.length (α := (tTx).El) x8) - (intOf i).toNat)
                  case atStart => exact ⟨0, Nat.zero_le _, rfl, Bss.empty w_7 (fun b => w_7.heap.size ≤ b) (fun b => w_7.heap.size ≤ b) (Nat.le_refl _), hbl.alloc hbl.size _, by simp, (HBX7.out.below hal7 HBX7.out.lt), (V4.out.below hal7), (V5.out.below hal7), (V6.out.below hal7), (V7.out.below hal7)⟩
                  case round =>
                    obtain ⟨k, hk, rfl, hB, hbl, hMz, hbox, hp4, hp5, hp6, hp7⟩ := hrel
                    by_cases hlt : k < (List.length (α := (tTx).El) x8)
                    · obtain ⟨R, hR⟩ : ∃ R, R = (List.take k x8).map (tTx).enc := ⟨_, rfl⟩
                      rw [← hR] at hB
                      have hRl : R.length = k := by rw [hR, List.length_map, List.length_take]; omega
                      have hnext : (List.take (k + 1) x8).map (tTx).enc = R ++ [(tTx).enc (x8[k]'hlt)] := by rw [List.take_succ_eq_append_getElem hlt, List.map_append, ← hR]; rfl
                      obtain ⟨Aa, ca, rfl⟩ := hB.form
                      obtain ⟨_, _, e, _, hat⟩ := list_at (Sh.rep_below R8.out hbl)
                      injection e with e1 e2 e3
                      subst e1 e3
                      obtain ⟨b, off, c, rfl, hca, hr, hcl, hblt, _⟩ := hat k hlt
                      obtain ⟨x, hx⟩ : ∃ x, x = x8[k]'hlt := ⟨_, rfl⟩
                      rw [← hx] at hr hnext
                      have hsm2 : ((tTx).enc x).length ≤ 1099511627776 := by
                        have h1 := joinP_mem (List.mem_map.2 ⟨x8[k]'hlt, List.getElem_mem hlt, rfl⟩ : (tTx).enc (x8[k]'hlt) ∈ List.map (tTx).enc x8)
                        have h2 := HE8.out
                        have h3 : ((Sh.list tTx).enc x8).length = 8 + (joinP (List.map (tTx).enc x8)).length := joinB_length _
                        rw [hx]; omega
                      have hinfo : (Tryd.prog.info? 91).map (·.size) = some c.length := by rw [hcl]; kernel_rfl
                      have HCA := Lib.hid (show wr.rangeAt b (off + k * 41) c from hca)
                      have HI := Lib.hid hinfo
                      clear hinfo
                      have HREP := Lib.hid hr
                      have HSM := Lib.hid hsm2
                      clear hr hsm2
                      have hown : ∀ k, (Value.slice Aa R.length ca).ownBlock = some k → k < wr.heap.size := fun k hk => by obtain ⟨vs, ho, _⟩ := hB; exact own_lt ho hk
                      have hbc := (HF.out wr hbox).2.2.2.2.2.2.2.2
                      have HB := Lib.hid hB
                      have HN := Lib.hid hnext
                      have HRL := Lib.hid hRl
                      have HOWN := Lib.hid hown
                      have HBOX := Lib.hid hbox
                      have HP4 := Lib.hid hp4
                      have HP5 := Lib.hid hp5
                      have HP6 := Lib.hid hp6
                      have HP7 := Lib.hid hp7
                      clear hB hca hcl hat hx hR hnext hRl hown hbox hp4 hp5 hp6 hp7
                      go_wp2_with (refine wpList_load_mid rfl 91 _ rfl b (off + k * 41) rfl c _ HCA.out Tryd.underlying91 rfl HI.out ?_)
                      refine (rTx_any _ HREP.out HSM.out).mono ?_
                      rintro e w1 ⟨v1, rfl, f1⟩
                      have hb1 := hbl.trans (f1.2.mono hbl.size)
                      obtain ⟨y, hy⟩ : ∃ y, y = (tTx).enc x := ⟨_, rfl⟩
                      have f1 : Fresh wr w1 v1 y := hy ▸ f1
                      rw [← hy] at HN
                      obtain ⟨A1, c1, rfl⟩ := f1.1.form
                      obtain ⟨vs, ho, hS, hr⟩ := HB.out.below f1.2
                      have hsz1 := f1.2.size
                      have hal : Below w1.heap.size w1 (w1.alloc (.cells #[.slice A1 y.length c1] 28)) := (Below.refl _ w1).alloc (Nat.le_refl _) _
                      have HAL := Lib.hid hal
                      have HO := Lib.hid (show Own (w1.alloc (.cells #[.slice A1 y.length c1] 28)) _ _ _ _ _ from own_keep ho fun k hk => hal.block k (own_lt ho hk))
                      have HS := Lib.hid hS
                      have HR := Lib.hid (fun i x u h1 h2 => (hr i x u h1 h2).below hal)
                      have HU := Lib.hid ((f1.1.1.below hal).sub (T := fun b => w_7.heap.size ≤ b ∧ (Value.slice Aa R.length ca).ownBlock ≠ some b) fun b hb _ => ⟨Nat.le_trans hMz hb.1, fun e => by have := HOWN.out b e; omega⟩)
                      have HS2 := Lib.hid (Cs.of_new w1 28 (size := 1) 1 (cs := [.slice A1 y.length c1]) rfl (by simp only [maxLen]; decide))
                      have H63 := Lib.hid (show R.length + 1 ≤ maxLen ∧ (R.length + 1) * 24 ≤ 140737488355328 from by have := HRL.out; refine ⟨by simp only [maxLen]; omega, by omega⟩)
                      have HF2 := Lib.hid f1.2
                      clear ho hS hr hal f1 hy
                      go_wp2_with (at_builtin; refine wpList_app _ rfl _ _ _ rfl Tryd.underlying93 info_row rfl (by decide) HO.out rfl HS2.out rfl (by simp [Value.oneCell']) H63.out.1 H63.out.2 ?_; intro v3 w3 ho3 hg3 hnil3 hat3; clear hnil3; have HO3 := Lib.hid ho3; clear ho3; have HG3 := Lib.hid hg3; clear hg3; have HAT3 := Lib.hid hat3; clear hat3)
                      have hzz := HAL.out.size
                      have hz3 := HG3.out.size
                      have hpush := Bss.push HO.out HS.out HR.out HU.out HO3.out HG3.out HAT3.out (by have := hb1.size; omega)
                      rw [← HN.out] at hpush
                      have hbA : Below w.heap.size w (w1.alloc (.cells #[.slice A1 y.length c1] 28)) := hb1.trans (HAL.out.mono hb1.size)
                      have hbw3 := HF2.out.trans (HAL.out.mono hsz1)
                      refine ⟨⟨k + 1, by omega, by push_cast; rfl, hpush, hbA.trans (HG3.out.below hbA.size fun b h => by have h1 := HS.out b h; have h2 := HBOX.out.lt; omega), by omega, (HBOX.out.below hbw3 HBOX.out.lt).chg HG3.out fun h => by have h1 := HS.out _ h; have h2 := hMb; omega, (HP4.out.below hbw3).chg HG3.out fun b hb h => by have := HS.out b h; omega, (HP5.out.below hbw3).chg HG3.out fun b hb h => by have := HS.out b h; omega, (HP6.out.below hbw3).chg HG3.out fun b hb h => by have := HS.out b h; omega, (HP7.out.below hbw3).chg HG3.out fun b hb h => by have := HS.out b h; omega⟩, ?_⟩
                      simp only [intOf]
                      omega
                    · have hk' : k = (List.length (α := (tTx).El) x8) := by omega
                      rw [hk', List.take_length] at hB
                      have hsm : ∀ x ∈ List.map (tTx).enc x8, x.length ≤ 140737488355328 := fun x hx => by
                        have h1 := joinP_mem hx
                        have h2 := HE8.out
                        have h3 : ((Sh.list tTx).enc x8).length = 8 + (joinP (List.map (tTx).enc x8)).length := joinB_length _
                        omega
                      have hEJ8 := HEJ8.out
                      obtain ⟨R8m, hR8m⟩ : ∃ R, R = List.map (tTx).enc x8 := ⟨_, rfl⟩
                      rw [← hR8m] at hB hsm hEJ8
                      have HRm8 := Lib.hid hR8m
                      have HEK8 := Lib.hid hEJ8
                      clear hR8m hEJ8
                      have V8 := Lib.hid (((hB.read hsm).lt_ (T := fun _ => True) fun _ _ => trivial).subs (T := fun b => b < wr.heap.size) fun b hb _ => hb.2)
                      obtain ⟨Ao8, co8, rfl⟩ := hB.form
                      have hbc8 := (HF.out wr hbox).2.2.2.2.2.2.2.2
                      have V4 := Lib.hid (hp4.subs (T := fun b => b < wr.heap.size) fun b hb _ => Nat.lt_of_lt_of_le hb hMz)
                      have V5 := Lib.hid (hp5.subs (T := fun b => b < wr.heap.size) fun b hb _ => Nat.lt_of_lt_of_le hb hMz)
                      have V6 := Lib.hid (hp6.subs (T := fun b => b < wr.heap.size) fun b hb _ => Nat.lt_of_lt_of_le hb hMz)
                      have V7 := Lib.hid (hp7.subs (T := fun b => b < wr.heap.size) fun b hb _ => Nat.lt_of_lt_of_le hb hMz)
                      clear hB hsm hp4 hp5 hp6 hp7
                      obtain ⟨w_8, hw_8⟩ : ∃ w', w' = wr := ⟨_, rfl⟩
                      subst hw_8
                      have HBX8 := Lib.hid hbox; have hmb8 := hbox.lt; clear hbox
                      go_wp2_with fail
                      clear hlt hk hk'
                      have hsz := HBX8.out.lt
                      have hb0 : Blk w_8.drew w.heap.size 37 C.toArray := HBX8.out.drew
                      have hbw : Below w.heap.size w w_8.drew := (hbl).drew
                      have D3 := Lib.hid (Bs.of_range32 (S := fun b => b = w.heap.size) rfl hb0.lt ((HF.out _ hb0).2.2.2.1) L3.out)
                      refine wp_region_hoist [0, 1, 2, 4, 5, 6, 8, 9, 10, 12, 13, 14, 16, 18, 20, 22] [3, 7, 11, 15, 17, 19, 21, 23] [24, 25, 26] (fun w' => Blk w' w.heap.size 37 C.toArray)
                        (by kernel_rfl) (by kernel_rfl) (by kernel_rfl) (by kernel_rfl) (by kernel_rfl) (by kernel_rfl) hb0 ?_
                      (refine HoistK.yes (by rfl) (by kernel_rfl) ⟨?_, fun w' hSw => ?_, ?_⟩; rotate_left; (· go_simp; try with_reducible rfl); simp only [Act.put, List.setIfInBounds_toArray, List.getElem_toArray, List.getElem_cons_zero, List.set_cons_succ, List.set_cons_zero])
                      (refine HoistK.yes (by rfl) (by kernel_rfl) ⟨?_, fun w' hSw => ?_, ?_⟩; rotate_left; (· obtain ⟨s0, s1, s2, s3, s4, s5, s6, s7, s8⟩ := HF.out _ hSw; go_simp; try with_reducible rfl); simp only [Act.put, List.setIfInBounds_toArray, List.getElem_toArray, List.getElem_cons_succ, List.getElem_cons_zero, List.set_cons_succ, List.set_cons_zero])
                      (refine HoistK.yes (by rfl) (by kernel_rfl) ⟨?_, fun w' hSw => ?_, ?_⟩; rotate_left; (· go_simp; try with_reducible rfl); simp only [Act.put, List.setIfInBounds_toArray, List.getElem_toArray, List.getElem_cons_succ, List.getElem_cons_zero, List.set_cons_succ, List.set_cons_zero])
                      (refine HoistK.yes (by rfl) (by kernel_rfl) ⟨?_, fun w' hSw => ?_, ?_⟩; rotate_left; (· go_simp; try with_reducible rfl); simp only [Act.put, List.setIfInBounds_toArray, List.getElem_toArray, List.getElem_cons_succ, List.getElem_cons_zero, List.set_cons_succ, List.set_cons_zero])
                      (refine HoistK.yes (by rfl) (by kernel_rfl) ⟨?_, fun w' hSw => ?_, ?_⟩; rotate_left; (· obtain ⟨s0, s1, s2, s3, s4, s5, s6, s7, s8⟩ := HF.out _ hSw; go_simp; try with_reducible rfl); simp only [Act.put, List.setIfInBounds_toArray, List.getElem_toArray, List.getElem_cons_succ, List.getElem_cons_zero, List.set_cons_succ, List.set_cons_zero])
                      (refine HoistK.yes (by rfl) (by kernel_rfl) ⟨?_, fun w' hSw => ?_, ?_⟩; rotate_left; (· go_simp; try with_reducible rfl); simp only [Act.put, List.setIfInBounds_toArray, List.getElem_toArray, List.getElem_cons_succ, List.getElem_cons_zero, List.set_cons_succ, List.set_cons_zero])
                      (refine HoistK.yes (by rfl) (by kernel_rfl) ⟨?_, fun w' hSw => ?_, ?_⟩; rotate_left; (· go_simp; try with_reducible rfl); simp only [Act.put, List.setIfInBounds_toArray, List.getElem_toArray, List.getElem_cons_succ, List.getElem_cons_zero, List.set_cons_succ, List.set_cons_zero])
                      (refine HoistK.yes (by rfl) (by kernel_rfl) ⟨?_, fun w' hSw => ?_, ?_⟩; rotate_left; (· obtain ⟨s0, s1, s2, s3, s4, s5, s6, s7, s8⟩ := HF.out _ hSw; go_simp; try with_reducible rfl); simp only [Act.put, List.setIfInBounds_toArray, List.getElem_toArray, List.getElem_cons_succ, List.getElem_cons_zero, List.set_cons_succ, List.set_cons_zero])
                      (refine HoistK.yes (by rfl) (by kernel_rfl) ⟨?_, fun w' hSw => ?_, ?_⟩; rotate_left; (· go_simp; try with_reducible rfl); simp only [Act.put, List.setIfInBounds_toArray, List.getElem_toArray, List.getElem_cons_succ, List.getElem_cons_zero, List.set_cons_succ, List.set_cons_zero])
                      (refine HoistK.yes (by rfl) (by kernel_rfl) ⟨?_, fun w' hSw => ?_, ?_⟩; rotate_left; (· go_simp; try with_reducible rfl); simp only [Act.put, List.setIfInBounds_toArray, List.getElem_toArray, List.getElem_cons_succ, List.getElem_cons_zero, List.set_cons_succ, List.set_cons_zero])
                      (refine HoistK.yes (by rfl) (by kernel_rfl) ⟨?_, fun w' hSw => ?_, ?_⟩; rotate_left; (· go_simp; try with_reducible rfl); simp only [Act.put, List.setIfInBounds_toArray, List.getElem_toArray, List.getElem_cons_succ, List.getElem_cons_zero, List.set_cons_succ, List.set_cons_zero])
                      (refine HoistK.yes (by rfl) (by kernel_rfl) ⟨?_, fun w' hSw => ?_, ?_⟩; rotate_left; (· go_simp; try with_reducible rfl); simp only [Act.put, List.setIfInBounds_toArray, List.getElem_toArray, List.getElem_cons_succ, List.getElem_cons_zero, List.set_cons_succ, List.set_cons_zero])
                      (refine HoistK.yes (by rfl) (by kernel_rfl) ⟨?_, fun w' hSw => ?_, ?_⟩; rotate_left; (· go_simp; try with_reducible rfl); simp only [Act.put, List.setIfInBounds_toArray, List.getElem_toArray, List.getElem_cons_succ, List.getElem_cons_zero, List.set_cons_succ, List.set_cons_zero])
                      (refine HoistK.yes (by rfl) (by kernel_rfl) ⟨?_, fun w' hSw => ?_, ?_⟩; rotate_left; (· go_simp; try with_reducible rfl); simp only [Act.put, List.setIfInBounds_toArray, List.getElem_toArray, List.getElem_cons_succ, List.getElem_cons_zero, List.set_cons_succ, List.set_cons_zero])
                      (refine HoistK.yes (by rfl) (by kernel_rfl) ⟨?_, fun w' hSw => ?_, ?_⟩; rotate_left; (· go_simp; try with_reducible rfl); simp only [Act.put, List.setIfInBounds_toArray, List.getElem_toArray, List.getElem_cons_succ, List.getElem_cons_zero, List.set_cons_succ, List.set_cons_zero])
                      (refine HoistK.yes (by rfl) (by kernel_rfl) ⟨?_, fun w' hSw => ?_, ?_⟩; rotate_left; (· go_simp; try with_reducible rfl); simp only [Act.put, List.setIfInBounds_toArray, List.getElem_toArray, List.getElem_cons_succ, List.getElem_cons_zero, List.set_cons_succ, List.set_cons_zero])
                      refine HoistK.nil_ ?_
                      simp only [opsAt, List.filterMap_cons, List.filterMap_nil, List.getElem?_toArray, List.getElem?_cons_succ, List.getElem?_cons_zero]
                      have g0 : Got w_8.drew w_8.drew [] [] := Got.start (Below.refl _ _)
                      refine Effects.cons_ fun _ hQ1 => ?_
                      go_wp2_with fail
                      refine (rNumI_any _ _).mono ?_
                      rintro e u1 ⟨v1, rfl, f1⟩
                      have g1 := g0.step f1
                      have hb1 := hb0.below f1.2 hb0.lt
                      clear f1
                      go_wp2_with fail
                      refine hQ1 _ _ hb1 (Effects.cons_ fun _ hQ2 => ?_)
                      clear hQ1 hb0 g0
                      go_wp2_with fail
                      refine (rNumI_any _ _).mono ?_
                      rintro e u2 ⟨v2, rfl, f2⟩
                      have g2 := g1.step f2
                      have hb2 := hb1.below f2.2 hb1.lt
                      clear f2
                      go_wp2_with fail
                      refine hQ2 _ _ hb2 (Effects.cons_ fun _ hQ3 => ?_)
                      clear hQ2 hb1 g1
                      go_wp2_with fail
                      refine (rNumI_any _ _).mono ?_
                      rintro e u3 ⟨v3, rfl, f3⟩
                      have g3 := g2.step f3
                      have hb3 := hb2.below f3.2 hb2.lt
                      clear f3
                      go_wp2_with fail
                      refine hQ3 _ _ hb3 (Effects.cons_ fun _ hQ4 => ?_)
                      clear hQ3 hb2 g2
                      have g4 := g3.old D3.out
                      clear g3
                      go_wp2_with fail
                      refine (rJoin_any _ (V4.out.drew_.below g4.1) HEK4.out (fun b hb => Nat.lt_of_lt_of_le hb g4.1.size)).mono ?_
                      rintro e u4 ⟨v5, rfl, f4⟩
                      rw [HRm4.out] at f4
                      have f4 : Fresh _ _ _ ((Sh.list tBlock).enc x4) := f4
                      have g5 := g4.step f4
                      have hb4 := hb3.below f4.2 hb3.lt
                      clear f4
                      go_wp2_with fail
                      refine hQ4 _ _ hb4 (Effects.cons_ fun _ hQ5 => ?_)
                      clear hQ4 hb3 g4
                      go_wp2_with fail
                      refine (rJoin_any _ (V5.out.drew_.below g5.1) HEK5.out (fun b hb => Nat.lt_of_lt_of_le hb g5.1.size)).mono ?_
                      rintro e u5 ⟨v6, rfl, f5⟩
                      rw [HRm5.out] at f5
                      have f5 : Fresh _ _ _ ((Sh.list tVote).enc x5) := f5
                      have g6 := g5.step f5
                      have hb5 := hb4.below f5.2 hb4.lt
                      clear f5
                      go_wp2_with fail
                      refine hQ5 _ _ hb5 (Effects.cons_ fun _ hQ6 => ?_)
                      clear hQ5 hb4 g5
                      go_wp2_with fail
                      refine (rJoin_any _ (V6.out.drew_.below g6.1) HEK6.out (fun b hb => Nat.lt_of_lt_of_le hb g6.1.size)).mono ?_
                      rintro e u6 ⟨v7, rfl, f6⟩
                      rw [HRm6.out] at f6
                      have f6 : Fresh _ _ _ ((Sh.list tTimeout).enc x6) := f6
                      have g7 := g6.step f6
                      have hb6 := hb5.below f6.2 hb5.lt
                      clear f6
                      go_wp2_with fail
                      refine hQ6 _ _ hb6 (Effects.cons_ fun _ hQ7 => ?_)
                      clear hQ6 hb5 g6
                      go_wp2_with fail
                      refine (rJoin_any _ (V7.out.drew_.below g7.1) HEK7.out (fun b hb => Nat.lt_of_lt_of_le hb g7.1.size)).mono ?_
                      rintro e u7 ⟨v8, rfl, f7⟩
                      rw [HRm7.out] at f7
                      have f7 : Fresh _ _ _ ((Sh.list tCommit).enc x7) := f7
                      have g8 := g7.step f7
                      have hb7 := hb6.below f7.2 hb6.lt
                      clear f7
                      go_wp2_with fail
                      refine hQ7 _ _ hb7 (Effects.cons_ fun _ hQ8 => ?_)
                      clear hQ7 hb6 g7
                      go_wp2_with fail
                      refine (rJoin_any _ (V8.out.drew_.below g8.1) HEK8.out (fun b hb => Nat.lt_of_lt_of_le hb g8.1.size)).mono ?_
                      rintro e u8 ⟨v9, rfl, f8⟩
                      rw [HRm8.out] at f8
                      have f8 : Fresh _ _ _ ((Sh.list tTx).enc x8) := f8
                      have g9 := g8.step f8
                      have hb8 := hb7.below f8.2 hb7.lt
                      clear f8
                      go_wp2_with fail
                      refine hQ8 _ _ hb8 (Effects.nil_ fun _ hQ9 => ?_)
                      clear hQ8 hb7 g8
                      have hcs : ∀ v ∈ [v1, v2, v3, (.slice (some ⟨w.heap.size, 3, none⟩) 32 32), v5, v6, v7, v8, v9], v.cells = #[v] := fun v hv => by
                        obtain ⟨i, hi, rfl⟩ := List.getElem_of_mem hv
                        obtain ⟨y, _, hr⟩ := g9.2.get i hi
                        obtain ⟨A, c, e⟩ := hr.form
                        have e' : [v1, v2, v3, (.slice (some ⟨w.heap.size, 3, none⟩) 32 32), v5, v6, v7, v8, v9][i] = .slice A y.length c := e
                        rw [e']; rfl
                      refine wpList_rows rfl 9 _ rfl [v1, v2, v3, (.slice (some ⟨w.heap.size, 3, none⟩) 32 32), v5, v6, v7, v8, v9] rfl (by decide) (by decide) hcs (by simp [Act.eval]) ?_
                      have hr : Bsr (u8.alloc (.cells [v1, v2, v3, (.slice (some ⟨w.heap.size, 3, none⟩) 32 32), v5, v6, v7, v8, v9].toArray 28)) (fun b => b < u8.heap.size + 1) (.slice (some ⟨u8.heap.size, 0, none⟩) 9 9) [numB x0, numB x1, numB x2, x3, (Sh.list tBlock).enc x4, (Sh.list tVote).enc x5, (Sh.list tTimeout).enc x6, (Sh.list tCommit).enc x7, (Sh.list tTx).enc x8] := g9.row (by simp [maxLen]) 28
                      have hj := rJoin_any _ hr (by have := HLL.out; omega) (fun b hb => by simpa using hb)
                      have hbb : Below w.heap.size w (u8.alloc (.cells [v1, v2, v3, (.slice (some ⟨w.heap.size, 3, none⟩) 32 32), v5, v6, v7, v8, v9].toArray 28)) := (hbw.trans (g9.1.mono hbw.size)).alloc (hbw.trans (g9.1.mono hbw.size)).size _
                      have HJ := Lib.hid hj
                      have HBB := Lib.hid hbb
                      clear hj hbb hr g9 hcs
                      go_wp2_with fail
                      refine HJ.out.mono ?_
                      rintro e uz ⟨vz, rfl, fz⟩
                      go_wp2_with fail
                      go_ret
                      exact ⟨vz, rfl, fz.1.sub fun b hb _ => ⟨Nat.le_trans HBB.out.size hb.1, hb.2⟩, HBB.out.trans (fz.2.mono HBB.out.size)⟩

end Go.Proofs.YtjjgmkfkmckkoaaDoor
