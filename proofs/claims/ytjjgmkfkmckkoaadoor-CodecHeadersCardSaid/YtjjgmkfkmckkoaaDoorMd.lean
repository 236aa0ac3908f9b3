/- Texts joined: CdI CdJ CrE CrH. -/
import Derived.Test.YtjjgmkfkmckkoaaDoorMa
import Derived.Test.YtjjgmkfkmckkoaaDoorMb
/- Codec: list[Header]. -/
namespace Go.Proofs.YtjjgmkfkmckkoaaDoor
open Go.RowKit Go.Maps
attribute [-simp] Tryd.isAgg23 Tryd.typeInfo23 Tryd.isAgg25 Tryd.typeInfo25

set_option maxHeartbeats 2000000 in
set_option maxRecDepth 100000 in
theorem listHeader_any (w : World) {S : Nat → Prop} {v : Value} {l : List (tHeader).El} (h : (Sh.list tHeader).rep w S l [v]) (hl : ((Sh.list tHeader).enc l).length ≤ 1099511627776) :
    Calls Tryd.prog 62 #[v, .func (Fn.func 10) #[] #[]] w fun e w' => ∃ v', e = .returned v' ∧ Fresh w w' v' ((Sh.list tHeader).enc l) := by
  obtain ⟨A, cap, rfl, hlen, hat⟩ := list_at h
  have H := Lib.hid h; clear h
  have hl' : (joinB (l.map (tHeader).enc)).length ≤ 1099511627776 := hl
  have hcnt := joinP_count (l.map (tHeader).enc)
  rw [joinB_length] at hl'
  rw [List.length_map] at hcnt
  have HLL := Lib.hid hl
  clear hl hat
  go_enter Tryd.func62, Tryd.ntmps62
  go_wp2_with fail
  go_loopw [5, 10] (fun a i wr => ∃ k : Nat, k ≤ l.length ∧ i = .int .i64 k ∧ Bss wr (fun b => w.heap.size ≤ b) (fun b => w.heap.size ≤ b) a ((l.take k).map (tHeader).enc) ∧ Below w.heap.size w wr) (fun _ i _ => l.length - (intOf i).toNat)
  case atStart => exact ⟨0, Nat.zero_le _, rfl, Bss.nil_ _ _ _, Below.refl _ _⟩
  case round =>
    obtain ⟨k, hk, rfl, hB, hbl⟩ := hrel
    by_cases hlt : k < l.length
    · obtain ⟨R, hR⟩ : ∃ R, R = (l.take k).map (tHeader).enc := ⟨_, rfl⟩
      rw [← hR] at hB
      have hRl : R.length = k := by rw [hR, List.length_map, List.length_take]; omega
      have hnext : (l.take (k + 1)).map (tHeader).enc = R ++ [(tHeader).enc l[k]] := by rw [List.take_succ_eq_append_getElem hlt, List.map_append, ← hR]; rfl
      obtain ⟨Aa, ca, rfl⟩ := hB.form
      obtain ⟨_, _, e, _, hat⟩ := list_at (Sh.rep_below H.out hbl)
      injection e with e1 e2 e3
      subst e1 e3
      obtain ⟨b, off, c, rfl, hca, hr, hcl, _, _⟩ := hat k hlt
      obtain ⟨x, hx⟩ : ∃ x, x = l[k] := ⟨_, rfl⟩
      rw [← hx] at hr hnext
      have hsm2 : ((tHeader).enc x).length ≤ 1099511627776 := by
        have h1 := joinP_mem (List.mem_map.2 ⟨l[k], List.getElem_mem hlt, rfl⟩ : (tHeader).enc l[k] ∈ l.map (tHeader).enc)
        rw [hx]; omega
      have hinfo : (Tryd.prog.info? 25).map (·.size) = some c.length := by rw [hcl]; kernel_rfl
      have HC1 := Lib.hid (Sh.rep_one _ _ _ hr)
      have HCA := Lib.hid (show wr.rangeAt b (off + k * 101) c from hca)
      have HI := Lib.hid hinfo
      have HCL := Lib.hid hcl
      have HREP := Lib.hid hr
      have HSM := Lib.hid hsm2
      clear hinfo hr hsm2
      have hown : ∀ k, (Value.slice Aa R.length ca).ownBlock = some k → k < wr.heap.size := fun k hk => by obtain ⟨vs, ho, _⟩ := hB; exact own_lt ho hk
      have HB := Lib.hid hB
      have HN := Lib.hid hnext
      have HRL := Lib.hid hRl
      have HOWN := Lib.hid hown
      clear hB hca hcl hat hx hR hnext hRl hown
      go_wp2_with (first | (refine wpList_load_mid rfl 25 _ rfl b (off + k * 101) rfl c _ HCA.out Tryd.underlying25 rfl HI.out ?_) | (refine wpList_store_blk (cs0 := [.int .i64 0, .int .i64 0, .int .i64 0, .int .i64 0] ++ List.replicate 96 (.int .u8 0) ++ [.int .i64 0]) (cs := c) rfl 25 _ _ rfl (Blk.new wr _ _) rfl rfl (by rw [HCL.out]; rfl) HI.out HC1.out ?_; intro w4 hb4 hc4; have HB4 := Lib.hid hb4; have HC4 := Lib.hid hc4; clear hb4 hc4) | (refine wpList_load_blk' rfl 25 _ rfl HB4.out rfl Tryd.underlying25 rfl HI.out ?_))
      have hbw4 : Below wr.heap.size wr w4 := ((Below.refl _ wr).alloc (Nat.le_refl _) _).trans (HC4.out.below (by simp) fun b hb => Nat.le_of_eq hb.symm)
      have hr := Sh.rep_below HREP.out hbw4
      refine (header_any _ hr).mono ?_
      rintro e w1 ⟨v1, rfl, f4⟩
      have f1 : Fresh wr w1 v1 _ := ⟨f4.1.sub fun b hb _ => ⟨Nat.le_trans hbw4.size hb.1, hb.2⟩, hbw4.trans (f4.2.mono hbw4.size)⟩
      clear f4 hr
      have hb1 := hbl.trans (f1.2.mono hbl.size)
      obtain ⟨y, hy⟩ : ∃ y, y = (tHeader).enc x := ⟨_, rfl⟩
      have f1 : Fresh wr w1 v1 y := hy ▸ f1
      rw [← hy] at HN
      obtain ⟨A1, c1, rfl⟩ := f1.1.form
      obtain ⟨vs, ho, hS, hr⟩ := HB.out.below f1.2
      have hsz1 := f1.2.size
      have hal : Below w1.heap.size w1 (w1.alloc (.cells #[.slice A1 y.length c1] 28)) := (Below.refl _ w1).alloc (Nat.le_refl _) _
      have HAL := Lib.hid hal
      have HO := Lib.hid (show Own (w1.alloc (.cells #[.slice A1 y.length c1] 28)) _ _ _ _ _ from own_keep ho fun k hk => hal.block k (own_lt ho hk))
      have HS := Lib.hid hS
      have HR := Lib.hid (fun i x u h1 h2 => (hr i x u h1 h2).below hal)
      have HU := Lib.hid ((f1.1.1.below hal).sub (T := fun b => w.heap.size ≤ b ∧ (Value.slice Aa R.length ca).ownBlock ≠ some b) fun b hb _ => ⟨Nat.le_trans hbl.size hb.1, fun e => by have := HOWN.out b e; omega⟩)
      have HS2 := Lib.hid (Cs.of_new w1 28 (size := 1) 1 (cs := [.slice A1 y.length c1]) rfl (by simp only [maxLen]; decide))
      have H63 := Lib.hid (show R.length + 1 ≤ maxLen ∧ (R.length + 1) * 24 ≤ 140737488355328 from by have := HRL.out; refine ⟨by simp only [maxLen]; omega, by omega⟩)
      clear ho hS hr hal f1 hy
      go_wp2_with (at_builtin; refine wpList_app _ rfl _ _ _ rfl Tryd.underlying93 info_row rfl (by decide) HO.out rfl HS2.out rfl (by simp [Value.oneCell']) H63.out.1 H63.out.2 ?_; intro v3 w3 ho3 hg3 hnil3 hat3; clear hnil3; have HO3 := Lib.hid ho3; clear ho3; have HG3 := Lib.hid hg3; clear hg3; have HAT3 := Lib.hid hat3; clear hat3)
      have hpush := Bss.push HO.out HS.out HR.out HU.out HO3.out HG3.out HAT3.out (by have := hb1.size; have := HAL.out.size; omega)
      rw [← HN.out] at hpush
      refine ⟨⟨k + 1, by omega, by push_cast; rfl, hpush, (hb1.trans (HAL.out.mono hb1.size)).trans (HG3.out.below (Nat.le_trans hb1.size HAL.out.size) fun b h => HS.out b h)⟩, ?_⟩
      simp only [intOf]
      omega
    · have hk' : k = l.length := by omega
      rw [hk', List.take_length] at hB
      have hsm : ∀ x ∈ l.map (tHeader).enc, x.length ≤ 140737488355328 := fun x hx => by have := joinP_mem hx; omega
      have hj := join_any _ ((hB.read hsm).lt_ (T := fun b => w.heap.size ≤ b) fun b h => h.elim id id) (by rw [joinB_length]; omega) fun b h => h.2
      have HJ := Lib.hid hj
      obtain ⟨R, hR⟩ : ∃ R, R = l.map (tHeader).enc := ⟨_, rfl⟩
      have HR := Lib.hid hR
      rw [← hR] at hB HJ
      obtain ⟨Aa, ca, rfl⟩ := hB.form
      clear hj hB hR hsm
      go_wp2_with fail
      refine HJ.out.mono ?_
      rintro e w1 ⟨v1, rfl, f1⟩
      go_wp2_with fail
      go_ret
      refine ⟨v1, rfl, ?_, hbl.trans (f1.2.mono hbl.size)⟩
      have := f1.1.sub (T := fun b => w.heap.size ≤ b ∧ Th w1 b) fun b hb _ => ⟨Nat.le_trans hbl.size hb.1, hb.2⟩
      rw [HR.out] at this
      exact this

end Go.Proofs.YtjjgmkfkmckkoaaDoor

/- Codec: a commit. -/
namespace Go.Proofs.YtjjgmkfkmckkoaaDoor
open Go.RowKit Go.Maps
attribute [-simp] Tryd.isAgg23 Tryd.typeInfo23 Tryd.isAgg43 Tryd.typeInfo43

set_option maxHeartbeats 4000000 in
set_option maxRecDepth 100000 in
theorem commit_any (w : World) {S : Nat → Prop} {x : tCommit.El} {cs : List Value} (h : tCommit.rep w S x cs) (hl : (tCommit.enc x).length ≤ 1099511627776) :
    Calls Tryd.prog 34 #[.agg cs.toArray] w fun e w' => ∃ v', e = .returned v' ∧ Fresh w w' v' (tCommit.enc x) := by
  obtain ⟨x0, x1, _⟩ := x
  obtain ⟨c0, _, rfl, r0, c1, _, rfl, r1, rfl⟩ := h
  obtain ⟨y0, rfl⟩ : ∃ y, c0 = [y] := by obtain ⟨v, _, e, _⟩ := r0; exact ⟨v, e⟩
  have l1 : c1.length = 37 := Sh.rep_size _ _ _ r1
  obtain ⟨y1, hy1⟩ : ∃ y, y = c1 := ⟨_, rfl⟩
  subst hy1
  have R0 := Lib.hid r0; clear r0
  have R1 := Lib.hid r1; clear r1
  obtain ⟨C, hC⟩ : ∃ C, C = [y0] ++ (y1 ++ ([])) := ⟨_, rfl⟩
  rw [← hC]
  have hf : ∀ w', Blk w' w.heap.size 46 C.toArray → w'.cell? ⟨w.heap.size, 0, none⟩ = some y0 ∧ w'.rangeAt w.heap.size 1 y1 := fun w' hb => by
    have := hb.lies [[y0], y1] [] (by rw [hC]; simp)
    simp only [Lies, List.length_cons, List.length_nil] at this
    obtain ⟨s0, s1, _⟩ := this
    exact ⟨Lies.one s0, s1⟩
  have HF := Lib.hid hf
  clear hf hC
  have hrows : tCommit.enc (x0, x1, ()) = joinB [(Sh.list tHeader).enc x0, tQC.enc x1] := rfl
  have hl' : (joinB [(Sh.list tHeader).enc x0, tQC.enc x1]).length ≤ 1099511627776 := hl
  have HLL := Lib.hid hl'
  clear hl hl'
  go_enter Tryd.func34, Tryd.ntmps34
  go_wp2_with fail
  have hsz : w.heap.size < w.heap.size + 1 := by omega
  refine wp_region_hoist [0, 1, 3, 4] [2, 5] [6, 7, 8] (fun w' => Blk w' w.heap.size 46 C.toArray)
    (by kernel_rfl) (by kernel_rfl) (by kernel_rfl) (by kernel_rfl) (by kernel_rfl) (by kernel_rfl) (Blk.new w _ _).drew ?_
  (refine HoistK.yes (by rfl) (by kernel_rfl) ⟨?_, fun w' hSw => ?_, ?_⟩; rotate_left; (· go_simp; try with_reducible rfl); simp only [Act.put, List.setIfInBounds_toArray, List.getElem_toArray, List.getElem_cons_zero, List.set_cons_succ, List.set_cons_zero])
  (refine HoistK.yes (by rfl) (by kernel_rfl) ⟨?_, fun w' hSw => ?_, ?_⟩; rotate_left; (· obtain ⟨s0, s1⟩ := HF.out _ hSw; go_simp; try with_reducible rfl); simp only [Act.put, List.setIfInBounds_toArray, List.getElem_toArray, List.getElem_cons_succ, List.getElem_cons_zero, List.set_cons_succ, List.set_cons_zero])
  (refine HoistK.yes (by rfl) (by kernel_rfl) ⟨?_, fun w' hSw => ?_, ?_⟩; rotate_left; (· go_simp; try with_reducible rfl); simp only [Act.put, List.setIfInBounds_toArray, List.getElem_toArray, List.getElem_cons_succ, List.getElem_cons_zero, List.set_cons_succ, List.set_cons_zero])
  (refine HoistK.load (by rfl) (by kernel_rfl) 43 _ rfl w.heap.size 1 rfl (y1) _ (fun w' hw => (HF.out w' hw).2) Tryd.underlying43 rfl (by rw [l1]; kernel_rfl) ?_; simp only [Act.put, List.setIfInBounds_toArray, List.getElem_toArray, List.getElem_cons_succ, List.getElem_cons_zero, List.set_cons_succ, List.set_cons_zero])
  refine HoistK.nil_ ?_
  simp only [opsAt, List.filterMap_cons, List.filterMap_nil, List.getElem?_toArray, List.getElem?_cons_succ, List.getElem?_cons_zero]
  have hb0 : Blk (w.alloc (.cells C.toArray 46)).drew w.heap.size 46 C.toArray := (Blk.new w _ _).drew
  have g0 : Got w (w.alloc (.cells C.toArray 46)).drew [] [] := Got.start ((Below.refl _ w).alloc (Nat.le_refl _) _).drew
  refine Effects.cons_ fun _ hQ1 => ?_
  go_wp2_with fail
  refine (listHeader_any _ (Sh.rep_below R0.out g0.1) (by have h1 := HLL.out; rw [joinB_length] at h1; have h2 := joinP_mem (l := [(Sh.list tHeader).enc x0, tQC.enc x1]) (x := (Sh.list tHeader).enc x0) (by simp); omega)).mono ?_
  rintro e w1 ⟨v1, rfl, f1⟩
  have g1 := g0.step f1
  have hb1 := hb0.below f1.2 hb0.lt
  clear f1
  go_wp2_with fail
  refine hQ1 _ _ hb1 (Effects.cons_ fun _ hQ2 => ?_)
  clear hQ1 hb0 g0
  go_wp2_with fail
  refine (qc_any _ (Sh.rep_below R1.out g1.1) (by have h1 := HLL.out; rw [joinB_length] at h1; have h2 := joinP_mem (l := [(Sh.list tHeader).enc x0, tQC.enc x1]) (x := tQC.enc x1) (by simp); omega)).mono ?_
  rintro e w2 ⟨v2, rfl, f2⟩
  have g2 := g1.step f2
  have hb2 := hb1.below f2.2 hb1.lt
  clear f2
  go_wp2_with fail
  refine hQ2 _ _ hb2 (Effects.nil_ fun _ hQ3 => ?_)
  clear hQ2 hb1 g1
  have hcs : ∀ v ∈ [v1, v2], v.cells = #[v] := fun v hv => by
    obtain ⟨i, hi, rfl⟩ := List.getElem_of_mem hv
    obtain ⟨y, _, hr⟩ := g2.2.get i hi
    obtain ⟨A, c, e⟩ := hr.form
    have e' : [v1, v2][i] = .slice A y.length c := e
    rw [e']; rfl
  refine wpList_rows rfl 2 _ rfl [v1, v2] rfl (by decide) (by decide) hcs (by simp [Act.eval]) ?_
  have hr : Bsr (w2.alloc (.cells [v1, v2].toArray 28)) (fun b => b < w2.heap.size + 1) (.slice (some ⟨w2.heap.size, 0, none⟩) 2 2) [(Sh.list tHeader).enc x0, tQC.enc x1] := g2.row (by simp [maxLen]) 28
  have hj := join_any _ hr (by have := HLL.out; omega) (fun b hb => by simpa using hb)
  have hbb : Below w.heap.size w (w2.alloc (.cells [v1, v2].toArray 28)) := g2.1.alloc g2.1.size _
  have HJ := Lib.hid hj
  have HBB := Lib.hid hbb
  clear hj hbb hr g2 hcs
  go_wp2_with fail
  refine HJ.out.mono ?_
  rintro e w3 ⟨v3, rfl, f3⟩
  go_wp2_with fail
  go_ret
  exact ⟨v3, rfl, f3.1.sub fun b hb _ => ⟨Nat.le_trans HBB.out.size hb.1, hb.2⟩, HBB.out.trans (f3.2.mono HBB.out.size)⟩

end Go.Proofs.YtjjgmkfkmckkoaaDoor

/- Codec: reference: a header. -/
namespace Go.Proofs.YtjjgmkfkmckkoaaDoor
open Go.RowKit Go.Maps
attribute [-simp] Tryd.isAgg23 Tryd.typeInfo23

set_option maxHeartbeats 8000000 in
set_option maxRecDepth 100000 in
theorem rHeader_any (w : World) {S : Nat → Prop} {x : tHeader.El} {cs : List Value} (h : tHeader.rep w S x cs) (hl : (tHeader.enc x).length ≤ 1099511627776) :
    Calls Tryd.prog 21 #[.agg cs.toArray] w fun e w' => ∃ v', e = .returned v' ∧ Fresh w w' v' (tHeader.enc x) := by
  obtain ⟨x0, x1, x2, x3, x4, x5, x6, x7, _⟩ := x
  obtain ⟨c0, _, rfl, ⟨rfl, _⟩, c1, _, rfl, ⟨rfl, _⟩, c2, _, rfl, ⟨rfl, _⟩, c3, _, rfl, ⟨rfl, _⟩, c4, _, rfl, ⟨rfl, l4⟩, c5, _, rfl, ⟨rfl, l5⟩, c6, _, rfl, ⟨rfl, l6⟩, c7, _, rfl, ⟨rfl, _⟩, rfl⟩ := h
  simp only [nk_t]
  obtain ⟨C, hC⟩ : ∃ C, C = [Value.int .i64 x0] ++ ([Value.int .i64 x1] ++ ([Value.int .i64 x2] ++ ([Value.int .i64 x3] ++ (u8s x4 ++ (u8s x5 ++ (u8s x6 ++ ([Value.int .i64 x7] ++ ([])))))))) := ⟨_, rfl⟩
  rw [← hC]
  have hf : ∀ w', Blk w' w.heap.size 25 C.toArray → w'.cell? ⟨w.heap.size, 0, none⟩ = some (.int .i64 x0) ∧ w'.cell? ⟨w.heap.size, 1, none⟩ = some (.int .i64 x1) ∧ w'.cell? ⟨w.heap.size, 2, none⟩ = some (.int .i64 x2) ∧ w'.cell? ⟨w.heap.size, 3, none⟩ = some (.int .i64 x3) ∧ w'.rangeAt w.heap.size 4 (u8s x4) ∧ w'.rangeAt w.heap.size 36 (u8s x5) ∧ w'.rangeAt w.heap.size 68 (u8s x6) ∧ w'.cell? ⟨w.heap.size, 100, none⟩ = some (.int .i64 x7) := fun w' hb => by
    have := hb.lies [[Value.int .i64 x0], [Value.int .i64 x1], [Value.int .i64 x2], [Value.int .i64 x3], u8s x4, u8s x5, u8s x6, [Value.int .i64 x7]] [] (by rw [hC]; simp)
    simp only [Lies, u8s_length, l4, l5, l6, List.length_cons, List.length_nil] at this
    obtain ⟨s0, s1, s2, s3, s4, s5, s6, s7, _⟩ := this
    exact ⟨Lies.one s0, Lies.one s1, Lies.one s2, Lies.one s3, s4, s5, s6, Lies.one s7⟩
  have HF := Lib.hid hf
  clear hf hC
  have L4 := Lib.hid l4; clear l4
  have L5 := Lib.hid l5; clear l5
  have L6 := Lib.hid l6; clear l6
  have hl' : (joinB [numB x0, numB x1, numB x2, numB x3, x4, x5, x6, numB x7]).length ≤ 1099511627776 := hl
  have HLL := Lib.hid hl'
  clear hl hl'
  go_enter Tryd.func21, Tryd.ntmps21
  go_wp2_with fail
  have hsz := (Blk.new w 25 C.toArray).lt
  have hb0 : Blk (w.alloc (.cells C.toArray 25)).drew w.heap.size 25 C.toArray := (Blk.new w 25 C.toArray).drew
  have hbw : Below w.heap.size w (w.alloc (.cells C.toArray 25)).drew := ((Below.refl w.heap.size w).alloc (Nat.le_refl _) _).drew
  have D4 := Lib.hid (Bs.of_range32 (S := fun b => b = w.heap.size) rfl hb0.lt ((HF.out _ hb0).2.2.2.2.1) L4.out)
  have D5 := Lib.hid (Bs.of_range32 (S := fun b => b = w.heap.size) rfl hb0.lt ((HF.out _ hb0).2.2.2.2.2.1) L5.out)
  have D6 := Lib.hid (Bs.of_range32 (S := fun b => b = w.heap.size) rfl hb0.lt ((HF.out _ hb0).2.2.2.2.2.2.1) L6.out)
  refine wp_region_hoist [0, 1, 2, 4, 5, 6, 8, 9, 10, 12, 13, 14, 16, 17, 18, 19, 20, 21, 22, 23, 24] [3, 7, 11, 15, 25] [26, 27, 28] (fun w' => Blk w' w.heap.size 25 C.toArray)
    (by kernel_rfl) (by kernel_rfl) (by kernel_rfl) (by kernel_rfl) (by kernel_rfl) (by kernel_rfl) hb0 ?_
  (refine HoistK.yes (by rfl) (by kernel_rfl) ⟨?_, fun w' hSw => ?_, ?_⟩; rotate_left; (· go_simp; try with_reducible rfl); simp only [Act.put, List.setIfInBounds_toArray, List.getElem_toArray, List.getElem_cons_zero, List.set_cons_succ, List.set_cons_zero])
  (refine HoistK.yes (by rfl) (by kernel_rfl) ⟨?_, fun w' hSw => ?_, ?_⟩; rotate_left; (· obtain ⟨s0, s1, s2, s3, s4, s5, s6, s7⟩ := HF.out _ hSw; go_simp; try with_reducible rfl); simp only [Act.put, List.setIfInBounds_toArray, List.getElem_toArray, List.getElem_cons_succ, List.getElem_cons_zero, List.set_cons_succ, List.set_cons_zero])
  (refine HoistK.yes (by rfl) (by kernel_rfl) ⟨?_, fun w' hSw => ?_, ?_⟩; rotate_left; (· go_simp; try with_reducible rfl); simp only [Act.put, List.setIfInBounds_toArray, List.getElem_toArray, List.getElem_cons_succ, List.getElem_cons_zero, List.set_cons_succ, List.set_cons_zero])
  (refine HoistK.yes (by rfl) (by kernel_rfl) ⟨?_, fun w' hSw => ?_, ?_⟩; rotate_left; (· go_simp; try with_reducible rfl); simp only [Act.put, List.setIfInBounds_toArray, List.getElem_toArray, List.getElem_cons_succ, List.getElem_cons_zero, List.set_cons_succ, List.set_cons_zero])
  (refine HoistK.yes (by rfl) (by kernel_rfl) ⟨?_, fun w' hSw => ?_, ?_⟩; rotate_left; (· obtain ⟨s0, s1, s2, s3, s4, s5, s6, s7⟩ := HF.out _ hSw; go_simp; try with_reducible rfl); simp only [Act.put, List.setIfInBounds_toArray, List.getElem_toArray, List.getElem_cons_succ, List.getElem_cons_zero, List.set_cons_succ, List.set_cons_zero])
  (refine HoistK.yes (by rfl) (by kernel_rfl) ⟨?_, fun w' hSw => ?_, ?_⟩; rotate_left; (· go_simp; try with_reducible rfl); simp only [Act.put, List.setIfInBounds_toArray, List.getElem_toArray, List.getElem_cons_succ, List.getElem_cons_zero, List.set_cons_succ, List.set_cons_zero])
  (refine HoistK.yes (by rfl) (by kernel_rfl) ⟨?_, fun w' hSw => ?_, ?_⟩; rotate_left; (· go_simp; try with_reducible rfl); simp only [Act.put, List.setIfInBounds_toArray, List.getElem_toArray, List.getElem_cons_succ, List.getElem_cons_zero, List.set_cons_succ, List.set_cons_zero])
  (refine HoistK.yes (by rfl) (by kernel_rfl) ⟨?_, fun w' hSw => ?_, ?_⟩; rotate_left; (· obtain ⟨s0, s1, s2, s3, s4, s5, s6, s7⟩ := HF.out _ hSw; go_simp; try with_reducible rfl); simp only [Act.put, List.setIfInBounds_toArray, List.getElem_toArray, List.getElem_cons_succ, List.getElem_cons_zero, List.set_cons_succ, List.set_cons_zero])
  (refine HoistK.yes (by rfl) (by kernel_rfl) ⟨?_, fun w' hSw => ?_, ?_⟩; rotate_left; (· go_simp; try with_reducible rfl); simp only [Act.put, List.setIfInBounds_toArray, List.getElem_toArray, List.getElem_cons_succ, List.getElem_cons_zero, List.set_cons_succ, List.set_cons_zero])
  (refine HoistK.yes (by rfl) (by kernel_rfl) ⟨?_, fun w' hSw => ?_, ?_⟩; rotate_left; (· go_simp; try with_reducible rfl); simp only [Act.put, List.setIfInBounds_toArray, List.getElem_toArray, List.getElem_cons_succ, List.getElem_cons_zero, List.set_cons_succ, List.set_cons_zero])
  (refine HoistK.yes (by rfl) (by kernel_rfl) ⟨?_, fun w' hSw => ?_, ?_⟩; rotate_left; (· obtain ⟨s0, s1, s2, s3, s4, s5, s6, s7⟩ := HF.out _ hSw; go_simp; try with_reducible rfl); simp only [Act.put, List.setIfInBounds_toArray, List.getElem_toArray, List.getElem_cons_succ, List.getElem_cons_zero, List.set_cons_succ, List.set_cons_zero])
  (refine HoistK.yes (by rfl) (by kernel_rfl) ⟨?_, fun w' hSw => ?_, ?_⟩; rotate_left; (· go_simp; try with_reducible rfl); simp only [Act.put, List.setIfInBounds_toArray, List.getElem_toArray, List.getElem_cons_succ, List.getElem_cons_zero, List.set_cons_succ, List.set_cons_zero])
  (refine HoistK.yes (by rfl) (by kernel_rfl) ⟨?_, fun w' hSw => ?_, ?_⟩; rotate_left; (· go_simp; try with_reducible rfl); simp only [Act.put, List.setIfInBounds_toArray, List.getElem_toArray, List.getElem_cons_succ, List.getElem_cons_zero, List.set_cons_succ, List.set_cons_zero])
  (refine HoistK.yes (by rfl) (by kernel_rfl) ⟨?_, fun w' hSw => ?_, ?_⟩; rotate_left; (· go_simp; try with_reducible rfl); simp only [Act.put, List.setIfInBounds_toArray, List.getElem_toArray, List.getElem_cons_succ, List.getElem_cons_zero, List.set_cons_succ, List.set_cons_zero])
  (refine HoistK.yes (by rfl) (by kernel_rfl) ⟨?_, fun w' hSw => ?_, ?_⟩; rotate_left; (· go_simp; try with_reducible rfl); simp only [Act.put, List.setIfInBounds_toArray, List.getElem_toArray, List.getElem_cons_succ, List.getElem_cons_zero, List.set_cons_succ, List.set_cons_zero])
  (refine HoistK.yes (by rfl) (by kernel_rfl) ⟨?_, fun w' hSw => ?_, ?_⟩; rotate_left; (· go_simp; try with_reducible rfl); simp only [Act.put, List.setIfInBounds_toArray, List.getElem_toArray, List.getElem_cons_succ, List.getElem_cons_zero, List.set_cons_succ, List.set_cons_zero])
  (refine HoistK.yes (by rfl) (by kernel_rfl) ⟨?_, fun w' hSw => ?_, ?_⟩; rotate_left; (· go_simp; try with_reducible rfl); simp only [Act.put, List.setIfInBounds_toArray, List.getElem_toArray, List.getElem_cons_succ, List.getElem_cons_zero, List.set_cons_succ, List.set_cons_zero])
  (refine HoistK.yes (by rfl) (by kernel_rfl) ⟨?_, fun w' hSw => ?_, ?_⟩; rotate_left; (· go_simp; try with_reducible rfl); simp only [Act.put, List.setIfInBounds_toArray, List.getElem_toArray, List.getElem_cons_succ, List.getElem_cons_zero, List.set_cons_succ, List.set_cons_zero])
  (refine HoistK.yes (by rfl) (by kernel_rfl) ⟨?_, fun w' hSw => ?_, ?_⟩; rotate_left; (· go_simp; try with_reducible rfl); simp only [Act.put, List.setIfInBounds_toArray, List.getElem_toArray, List.getElem_cons_succ, List.getElem_cons_zero, List.set_cons_succ, List.set_cons_zero])
  (refine HoistK.yes (by rfl) (by kernel_rfl) ⟨?_, fun w' hSw => ?_, ?_⟩; rotate_left; (· obtain ⟨s0, s1, s2, s3, s4, s5, s6, s7⟩ := HF.out _ hSw; go_simp; try with_reducible rfl); simp only [Act.put, List.setIfInBounds_toArray, List.getElem_toArray, List.getElem_cons_succ, List.getElem_cons_zero, List.set_cons_succ, List.set_cons_zero])
  (refine HoistK.yes (by rfl) (by kernel_rfl) ⟨?_, fun w' hSw => ?_, ?_⟩; rotate_left; (· go_simp; try with_reducible rfl); simp only [Act.put, List.setIfInBounds_toArray, List.getElem_toArray, List.getElem_cons_succ, List.getElem_cons_zero, List.set_cons_succ, List.set_cons_zero])
  refine HoistK.nil_ ?_
  simp only [opsAt, List.filterMap_cons, List.filterMap_nil, List.getElem?_toArray, List.getElem?_cons_succ, List.getElem?_cons_zero]
  have g0 : Got (w.alloc (.cells C.toArray 25)).drew (w.alloc (.cells C.toArray 25)).drew [] [] := Got.start (Below.refl _ _)
  refine Effects.cons_ fun _ hQ1 => ?_
  go_wp2_with fail
  refine (rNumI_any _ _).mono ?_
  rintro e u1 ⟨v1, rfl, f1⟩
  have g1 := g0.step f1
  have hb1 := hb0.below f1.2 hb0.lt
  clear f1
  go_wp2_with fail
  refine hQ1 _ _ hb1 (Effects.cons_ fun _ hQ2 => ?_)
  clear hQ1 hb0 g0
  go_wp2_with fail
  refine (rNumI_any _ _).mono ?_
  rintro e u2 ⟨v2, rfl, f2⟩
  have g2 := g1.step f2
  have hb2 := hb1.below f2.2 hb1.lt
  clear f2
  go_wp2_with fail
  refine hQ2 _ _ hb2 (Effects.cons_ fun _ hQ3 => ?_)
  clear hQ2 hb1 g1
  go_wp2_with fail
  refine (rNumI_any _ _).mono ?_
  rintro e u3 ⟨v3, rfl, f3⟩
  have g3 := g2.step f3
  have hb3 := hb2.below f3.2 hb2.lt
  clear f3
  go_wp2_with fail
  refine hQ3 _ _ hb3 (Effects.cons_ fun _ hQ4 => ?_)
  clear hQ3 hb2 g2
  go_wp2_with fail
  refine (rNumI_any _ _).mono ?_
  rintro e u4 ⟨v4, rfl, f4⟩
  have g4 := g3.step f4
  have hb4 := hb3.below f4.2 hb3.lt
  clear f4
  go_wp2_with fail
  refine hQ4 _ _ hb4 (Effects.cons_ fun _ hQ5 => ?_)
  clear hQ4 hb3 g3
  have g5 := g4.old D4.out
  clear g4
  have g6 := g5.old D5.out
  clear g5
  have g7 := g6.old D6.out
  clear g6
  go_wp2_with fail
  refine (rNumI_any _ _).mono ?_
  rintro e u5 ⟨v8, rfl, f5⟩
  have g8 := g7.step f5
  have hb5 := hb4.below f5.2 hb4.lt
  clear f5
  go_wp2_with fail
  refine hQ5 _ _ hb5 (Effects.nil_ fun _ hQ6 => ?_)
  clear hQ5 hb4 g7
  have hcs : ∀ v ∈ [v1, v2, v3, v4, (.slice (some ⟨w.heap.size, 4, none⟩) 32 32), (.slice (some ⟨w.heap.size, 36, none⟩) 32 32), (.slice (some ⟨w.heap.size, 68, none⟩) 32 32), v8], v.cells = #[v] := fun v hv => by
    obtain ⟨i, hi, rfl⟩ := List.getElem_of_mem hv
    obtain ⟨y, _, hr⟩ := g8.2.get i hi
    obtain ⟨A, c, e⟩ := hr.form
    have e' : [v1, v2, v3, v4, (.slice (some ⟨w.heap.size, 4, none⟩) 32 32), (.slice (some ⟨w.heap.size, 36, none⟩) 32 32), (.slice (some ⟨w.heap.size, 68, none⟩) 32 32), v8][i] = .slice A y.length c := e
    rw [e']; rfl
  refine wpList_rows rfl 8 _ rfl [v1, v2, v3, v4, (.slice (some ⟨w.heap.size, 4, none⟩) 32 32), (.slice (some ⟨w.heap.size, 36, none⟩) 32 32), (.slice (some ⟨w.heap.size, 68, none⟩) 32 32), v8] rfl (by decide) (by decide) hcs (by simp [Act.eval]) ?_
  have hr : Bsr (u5.alloc (.cells [v1, v2, v3, v4, (.slice (some ⟨w.heap.size, 4, none⟩) 32 32), (.slice (some ⟨w.heap.size, 36, none⟩) 32 32), (.slice (some ⟨w.heap.size, 68, none⟩) 32 32), v8].toArray 28)) (fun b => b < u5.heap.size + 1) (.slice (some ⟨u5.heap.size, 0, none⟩) 8 8) [numB x0, numB x1, numB x2, numB x3, x4, x5, x6, numB x7] := g8.row (by simp [maxLen]) 28
  have hj := rJoin_any _ hr (by have := HLL.out; omega) (fun b hb => by simpa using hb)
  have hbb : Below w.heap.size w (u5.alloc (.cells [v1, v2, v3, v4, (.slice (some ⟨w.heap.size, 4, none⟩) 32 32), (.slice (some ⟨w.heap.size, 36, none⟩) 32 32), (.slice (some ⟨w.heap.size, 68, none⟩) 32 32), v8].toArray 28)) := (hbw.trans (g8.1.mono hbw.size)).alloc (hbw.trans (g8.1.mono hbw.size)).size _
  have HJ := Lib.hid hj
  have HBB := Lib.hid hbb
  clear hj hbb hr g8 hcs
  go_wp2_with fail
  refine HJ.out.mono ?_
  rintro e uz ⟨vz, rfl, fz⟩
  go_wp2_with fail
  go_ret
  exact ⟨vz, rfl, fz.1.sub fun b hb _ => ⟨Nat.le_trans HBB.out.size hb.1, hb.2⟩, HBB.out.trans (fz.2.mono HBB.out.size)⟩

end Go.Proofs.YtjjgmkfkmckkoaaDoor

/- Codec: reference: a commit. -/
namespace Go.Proofs.YtjjgmkfkmckkoaaDoor
open Go.RowKit Go.Maps
attribute [-simp] Tryd.isAgg23 Tryd.typeInfo23 Tryd.isAgg25 Tryd.typeInfo25 Tryd.isAgg43 Tryd.typeInfo43

set_option maxHeartbeats 8000000 in
set_option maxRecDepth 100000 in
theorem rCommit_any (w : World) {S : Nat → Prop} {x : tCommit.El} {cs : List Value} (h : tCommit.rep w S x cs) (hl : (tCommit.enc x).length ≤ 1099511627776) :
    Calls Tryd.prog 40 #[.agg cs.toArray] w fun e w' => ∃ v', e = .returned v' ∧ Fresh w w' v' (tCommit.enc x) := by
  obtain ⟨x0, x1, _⟩ := x
  obtain ⟨c0, _, rfl, r0, c1, _, rfl, r1, rfl⟩ := h
  obtain ⟨y0, rfl⟩ : ∃ y, c0 = [y] := by obtain ⟨v, _, e, _⟩ := r0; exact ⟨v, e⟩
  have l1 : c1.length = 37 := Sh.rep_size _ _ _ r1
  obtain ⟨y1, hy1⟩ : ∃ y, y = c1 := ⟨_, rfl⟩
  subst hy1
  obtain ⟨A0, cap0, rfl, hlen0, _⟩ := list_at r0
  have R0 := Lib.hid r0; clear r0
  have R1 := Lib.hid r1; clear r1
  obtain ⟨C, hC⟩ : ∃ C, C = [Value.slice A0 (List.length (α := (tHeader).El) x0) cap0] ++ (y1 ++ ([])) := ⟨_, rfl⟩
  rw [← hC]
  have hf : ∀ w', Blk w' w.heap.size 46 C.toArray → w'.cell? ⟨w.heap.size, 0, none⟩ = some (.slice A0 (List.length (α := (tHeader).El) x0) cap0) ∧ w'.rangeAt w.heap.size 1 y1 := fun w' hb => by
    have := hb.lies [[Value.slice A0 (List.length (α := (tHeader).El) x0) cap0], y1] [] (by rw [hC]; simp)
    simp only [Lies, List.length_cons, List.length_nil] at this
    obtain ⟨s0, s1, _⟩ := this
    exact ⟨Lies.one s0, s1⟩
  have HF := Lib.hid hf
  clear hf hC
  have L1 := Lib.hid l1; clear l1
  have hl' : (joinB [(Sh.list tHeader).enc x0, tQC.enc x1]).length ≤ 1099511627776 := hl
  have HLL := Lib.hid hl'
  clear hl hl'
  have HE0 := Lib.hid (show ((Sh.list tHeader).enc x0).length ≤ 1099511627776 from (by have h1 := HLL.out; rw [joinB_length] at h1; have h2 := joinP_mem (l := [(Sh.list tHeader).enc x0, tQC.enc x1]) (x := (Sh.list tHeader).enc x0) (by simp); omega))
  have hcn0 : (List.length (α := (tHeader).El) x0) ≤ 137438953472 := by
    have h1 := HE0.out
    have h2 := joinP_count (List.map (tHeader).enc x0)
    have h3 : ((Sh.list tHeader).enc x0).length = 8 + (joinP (List.map (tHeader).enc x0)).length := joinB_length _
    rw [List.length_map] at h2
    omega
  have HEJ0 := Lib.hid (show (joinB (List.map (tHeader).enc x0)).length ≤ 140737488355328 from by
    have h1 := HE0.out
    have h3 : ((Sh.list tHeader).enc x0).length = 8 + (joinP (List.map (tHeader).enc x0)).length := joinB_length _
    rw [joinB_length]
    omega)
  go_enter Tryd.func40, Tryd.ntmps40
  go_wp2_with fail
  have hbe := (Below.refl w.heap.size w).alloc (Nat.le_refl _) (.cells C.toArray 46)
  have hal0 : Below (w.heap.size + 1) (w.alloc (.cells C.toArray 46)) ((w.alloc (.cells C.toArray 46)).alloc (.cells #[] 28)) := (Below.refl _ _).alloc (by simp) _
  have hMb : w.heap.size < w.heap.size + 1 := by omega
  go_loopw [3, 4] (fun o i wr => ∃ k : Nat, k ≤ (List.length (α := (tHeader).El) x0) ∧ i = .int .i64 k ∧ Bss wr (fun b => (w.heap.size + 1) ≤ b) (fun b => (w.heap.size + 1) ≤ b) o ((List.take k x0).map (tHeader).enc) ∧ Below w.heap.size w wr ∧ (w.heap.size + 1) ≤ wr.heap.size ∧ Blk wr w.heap.size 46 C.toArray) (fun _ i _ => (List.length (α := (tHeader).El) x0) - (intOf i).toNat)
  case atStart => exact ⟨0, Nat.zero_le _, rfl, Bss.empty1 w _, hbe.alloc (by simp) _, by simp, ((Blk.new w _ _).alloc _)⟩
  case round =>
    obtain ⟨k, hk, rfl, hB, hbl, hMz, hbox⟩ := hrel
    by_cases hlt : k < (List.length (α := (tHeader).El) x0)
    · obtain ⟨R, hR⟩ : ∃ R, R = (List.take k x0).map (tHeader).enc := ⟨_, rfl⟩
      rw [← hR] at hB
      have hRl : R.length = k := by rw [hR, List.length_map, List.length_take]; omega
      have hnext : (List.take (k + 1) x0).map (tHeader).enc = R ++ [(tHeader).enc (x0[k]'hlt)] := by rw [List.take_succ_eq_append_getElem hlt, List.map_append, ← hR]; rfl
      obtain ⟨Aa, ca, rfl⟩ := hB.form
      obtain ⟨_, _, e, _, hat⟩ := list_at (Sh.rep_below R0.out hbl)
      injection e with e1 e2 e3
      subst e1 e3
      obtain ⟨b, off, c, rfl, hca, hr, hcl, hblt, _⟩ := hat k hlt
      obtain ⟨x, hx⟩ : ∃ x, x = x0[k]'hlt := ⟨_, rfl⟩
      rw [← hx] at hr hnext
      have hsm2 : ((tHeader).enc x).length ≤ 1099511627776 := by
        have h1 := joinP_mem (List.mem_map.2 ⟨x0[k]'hlt, List.getElem_mem hlt, rfl⟩ : (tHeader).enc (x0[k]'hlt) ∈ List.map (tHeader).enc x0)
        have h2 := HE0.out
        have h3 : ((Sh.list tHeader).enc x0).length = 8 + (joinP (List.map (tHeader).enc x0)).length := joinB_length _
        rw [hx]; omega
      have hinfo : (Tryd.prog.info? 25).map (·.size) = some c.length := by rw [hcl]; kernel_rfl
      have HCA := Lib.hid (show wr.rangeAt b (off + k * 101) c from hca)
      have HI := Lib.hid hinfo
      clear hinfo
      have HREP := Lib.hid hr
      have HSM := Lib.hid hsm2
      clear hr hsm2
      have hown : ∀ k, (Value.slice Aa R.length ca).ownBlock = some k → k < wr.heap.size := fun k hk => by obtain ⟨vs, ho, _⟩ := hB; exact own_lt ho hk
      have hbc := (HF.out wr hbox).1
      have HB := Lib.hid hB
      have HN := Lib.hid hnext
      have HRL := Lib.hid hRl
      have HOWN := Lib.hid hown
      have HBOX := Lib.hid hbox
      clear hB hca hcl hat hx hR hnext hRl hown hbox
      go_wp2_with (refine wpList_load_mid rfl 25 _ rfl b (off + k * 101) rfl c _ HCA.out Tryd.underlying25 rfl HI.out ?_)
      refine (rHeader_any _ HREP.out HSM.out).mono ?_
      rintro e w1 ⟨v1, rfl, f1⟩
      have hb1 := hbl.trans (f1.2.mono hbl.size)
      obtain ⟨y, hy⟩ : ∃ y, y = (tHeader).enc x := ⟨_, rfl⟩
      have f1 : Fresh wr w1 v1 y := hy ▸ f1
      rw [← hy] at HN
      obtain ⟨A1, c1, rfl⟩ := f1.1.form
      obtain ⟨vs, ho, hS, hr⟩ := HB.out.below f1.2
      have hsz1 := f1.2.size
      have hal : Below w1.heap.size w1 (w1.alloc (.cells #[.slice A1 y.length c1] 28)) := (Below.refl _ w1).alloc (Nat.le_refl _) _
      have HAL := Lib.hid hal
      have HO := Lib.hid (show Own (w1.alloc (.cells #[.slice A1 y.length c1] 28)) _ _ _ _ _ from own_keep ho fun k hk => hal.block k (own_lt ho hk))
      have HS := Lib.hid hS
      have HR := Lib.hid (fun i x u h1 h2 => (hr i x u h1 h2).below hal)
      have HU := Lib.hid ((f1.1.1.below hal).sub (T := fun b => (w.heap.size + 1) ≤ b ∧ (Value.slice Aa R.length ca).ownBlock ≠ some b) fun b hb _ => ⟨Nat.le_trans hMz hb.1, fun e => by have := HOWN.out b e; omega⟩)
      have HS2 := Lib.hid (Cs.of_new w1 28 (size := 1) 1 (cs := [.slice A1 y.length c1]) rfl (by simp only [maxLen]; decide))
      have H63 := Lib.hid (show R.length + 1 ≤ maxLen ∧ (R.length + 1) * 24 ≤ 140737488355328 from by have := HRL.out; refine ⟨by simp only [maxLen]; omega, by omega⟩)
      have HF2 := Lib.hid f1.2
      clear ho hS hr hal f1 hy
      go_wp2_with (at_builtin; refine wpList_app _ rfl _ _ _ rfl Tryd.underlying93 info_row rfl (by decide) HO.out rfl HS2.out rfl (by simp [Value.oneCell']) H63.out.1 H63.out.2 ?_; intro v3 w3 ho3 hg3 hnil3 hat3; clear hnil3; have HO3 := Lib.hid ho3; clear ho3; have HG3 := Lib.hid hg3; clear hg3; have HAT3 := Lib.hid hat3; clear hat3)
      have hzz := HAL.out.size
      have hz3 := HG3.out.size
      have hpush := Bss.push HO.out HS.out HR.out HU.out HO3.out HG3.out HAT3.out (by have := hb1.size; omega)
      rw [← HN.out] at hpush
      have hbA : Below w.heap.size w (w1.alloc (.cells #[.slice A1 y.length c1] 28)) := hb1.trans (HAL.out.mono hb1.size)
      have hbw3 := HF2.out.trans (HAL.out.mono hsz1)
      refine ⟨⟨k + 1, by omega, by push_cast; rfl, hpush, hbA.trans (HG3.out.below hbA.size fun b h => by have h1 := HS.out b h; have h2 := HBOX.out.lt; omega), by omega, (HBOX.out.below hbw3 HBOX.out.lt).chg HG3.out fun h => by have h1 := HS.out _ h; have h2 := hMb; omega⟩, ?_⟩
      simp only [intOf]
      omega
    · have hk' : k = (List.length (α := (tHeader).El) x0) := by omega
      rw [hk', List.take_length] at hB
      have hsm : ∀ x ∈ List.map (tHeader).enc x0, x.length ≤ 140737488355328 := fun x hx => by
        have h1 := joinP_mem hx
        have h2 := HE0.out
        have h3 : ((Sh.list tHeader).enc x0).length = 8 + (joinP (List.map (tHeader).enc x0)).length := joinB_length _
        omega
      have hEJ0 := HEJ0.out
      obtain ⟨R0m, hR0m⟩ : ∃ R, R = List.map (tHeader).enc x0 := ⟨_, rfl⟩
      rw [← hR0m] at hB hsm hEJ0
      have HRm0 := Lib.hid hR0m
      have HEK0 := Lib.hid hEJ0
      clear hR0m hEJ0
      have V0 := Lib.hid (((hB.read hsm).lt_ (T := fun _ => True) fun _ _ => trivial).subs (T := fun b => b < wr.heap.size) fun b hb _ => hb.2)
      obtain ⟨Ao0, co0, rfl⟩ := hB.form
      have hbc0 := (HF.out wr hbox).1
      clear hB hsm
      obtain ⟨w_0, hw_0⟩ : ∃ w', w' = wr := ⟨_, rfl⟩
      subst hw_0
      have HBX0 := Lib.hid hbox; have hmb0 := hbox.lt; clear hbox
      go_wp2_with fail
      clear hlt hk hk'
      have hsz := HBX0.out.lt
      have hb0 : Blk w_0.drew w.heap.size 46 C.toArray := HBX0.out.drew
      have hbw : Below w.heap.size w w_0.drew := (hbl).drew
      refine wp_region_hoist [0, 2, 3] [1, 4] [5, 6, 7] (fun w' => Blk w' w.heap.size 46 C.toArray)
        (by kernel_rfl) (by kernel_rfl) (by kernel_rfl) (by kernel_rfl) (by kernel_rfl) (by kernel_rfl) hb0 ?_
      (refine HoistK.yes (by rfl) (by kernel_rfl) ⟨?_, fun w' hSw => ?_, ?_⟩; rotate_left; (· go_simp; try with_reducible rfl); simp only [Act.put, List.setIfInBounds_toArray, List.getElem_toArray, List.getElem_cons_zero, List.set_cons_succ, List.set_cons_zero])
      (refine HoistK.yes (by rfl) (by kernel_rfl) ⟨?_, fun w' hSw => ?_, ?_⟩; rotate_left; (· go_simp; try with_reducible rfl); simp only [Act.put, List.setIfInBounds_toArray, List.getElem_toArray, List.getElem_cons_succ, List.getElem_cons_zero, List.set_cons_succ, List.set_cons_zero])
      (refine HoistK.load (by rfl) (by kernel_rfl) 43 _ rfl w.heap.size 1 rfl (y1) _ (fun w' hw => (HF.out w' hw).2) Tryd.underlying43 rfl (by rw [L1.out]; kernel_rfl) ?_; simp only [Act.put, List.setIfInBounds_toArray, List.getElem_toArray, List.getElem_cons_succ, List.getElem_cons_zero, List.set_cons_succ, List.set_cons_zero])
      refine HoistK.nil_ ?_
      simp only [opsAt, List.filterMap_cons, List.filterMap_nil, List.getElem?_toArray, List.getElem?_cons_succ, List.getElem?_cons_zero]
      have g0 : Got w_0.drew w_0.drew [] [] := Got.start (Below.refl _ _)
      refine Effects.cons_ fun _ hQ1 => ?_
      go_wp2_with fail
      refine (rJoin_any _ (V0.out.drew_.below g0.1) HEK0.out (fun b hb => Nat.lt_of_lt_of_le hb g0.1.size)).mono ?_
      rintro e u1 ⟨v1, rfl, f1⟩
      rw [HRm0.out] at f1
      have f1 : Fresh _ _ _ ((Sh.list tHeader).enc x0) := f1
      have g1 := g0.step f1
      have hb1 := hb0.below f1.2 hb0.lt
      clear f1
      go_wp2_with fail
      refine hQ1 _ _ hb1 (Effects.cons_ fun _ hQ2 => ?_)
      clear hQ1 hb0 g0
      go_wp2_with fail
      refine (rQC_any _ (Sh.rep_below R1.out (hbw.trans (g1.1.mono hbw.size))) (by have h1 := HLL.out; rw [joinB_length] at h1; have h2 := joinP_mem (l := [(Sh.list tHeader).enc x0, tQC.enc x1]) (x := tQC.enc x1) (by simp); omega)).mono ?_
      rintro e u2 ⟨v2, rfl, f2⟩
      have g2 := g1.step f2
      have hb2 := hb1.below f2.2 hb1.lt
      clear f2
      go_wp2_with fail
      refine hQ2 _ _ hb2 (Effects.nil_ fun _ hQ3 => ?_)
      clear hQ2 hb1 g1
      have hcs : ∀ v ∈ [v1, v2], v.cells = #[v] := fun v hv => by
        obtain ⟨i, hi, rfl⟩ := List.getElem_of_mem hv
        obtain ⟨y, _, hr⟩ := g2.2.get i hi
        obtain ⟨A, c, e⟩ := hr.form
        have e' : [v1, v2][i] = .slice A y.length c := e
        rw [e']; rfl
      refine wpList_rows rfl 2 _ rfl [v1, v2] rfl (by decide) (by decide) hcs (by simp [Act.eval]) ?_
      have hr : Bsr (u2.alloc (.cells [v1, v2].toArray 28)) (fun b => b < u2.heap.size + 1) (.slice (some ⟨u2.heap.size, 0, none⟩) 2 2) [(Sh.list tHeader).enc x0, tQC.enc x1] := g2.row (by simp [maxLen]) 28
      have hj := rJoin_any _ hr (by have := HLL.out; omega) (fun b hb => by simpa using hb)
      have hbb : Below w.heap.size w (u2.alloc (.cells [v1, v2].toArray 28)) := (hbw.trans (g2.1.mono hbw.size)).alloc (hbw.trans (g2.1.mono hbw.size)).size _
      have HJ := Lib.hid hj
      have HBB := Lib.hid hbb
      clear hj hbb hr g2 hcs
      go_wp2_with fail
      refine HJ.out.mono ?_
      rintro e uz ⟨vz, rfl, fz⟩
      go_wp2_with fail
      go_ret
      exact ⟨vz, rfl, fz.1.sub fun b hb _ => ⟨Nat.le_trans HBB.out.size hb.1, hb.2⟩, HBB.out.trans (fz.2.mono HBB.out.size)⟩

end Go.Proofs.YtjjgmkfkmckkoaaDoor
