/- Texts joined: CrD CrF CrG CrH CrI CrK PmY PnP PnQ PoF PoH PoI PoK PoC PoD PoE PoG. -/
import Derived.Test.YtkclkmjlodomkaaGreatDoorMe
import Derived.Test.YtkclkmjlodomkaaGreatDoorMa
namespace Go.Proofs.YtkclkmjlodomkaaGreatDoor
open List (setIfInBounds_toArray getElem_toArray getElem_cons_succ getElem_cons_zero set_cons_succ set_cons_zero filterMap_cons filterMap_nil getElem?_toArray getElem?_cons_succ getElem?_cons_zero)
section
open Go.RowKit Go.Maps
attribute [-simp] Tryz.isAgg37 Tryz.typeInfo37
set_option maxHeartbeats 8000000 in
set_option maxRecDepth 100000 in
theorem rSig_any (w : World) {S : Nat → Prop} {x : tSig.El} {cs : List Value} (h : tSig.rep w S x cs) (hl : (tSig.enc x).length ≤ 1099511627776) :
    Calls Tryz.prog 86 #[.agg cs.toArray] w fun e w' => ∃ v', e = .returned v' ∧ Fresh w w' v' (tSig.enc x) := by
  obtain ⟨x0, x1, _⟩ := x
  obtain ⟨c0, _, rfl, ⟨rfl, _⟩, c1, _, rfl, ⟨rfl, l1⟩, rfl⟩ := h
  simp only [nk_t]
  obtain ⟨C, hC⟩ : ∃ C, C = [Value.int .i64 x0] ++ (u8s x1 ++ ([])) := ⟨_, rfl⟩
  rw [← hC]
  have hf : ∀ w', Blk w' w.heap.size 148 C.toArray → w'.cell? ⟨w.heap.size, 0, none⟩ = some (.int .i64 x0) ∧ w'.rangeAt w.heap.size 1 (u8s x1) := fun w' hb => by
    have := hb.lies [[Value.int .i64 x0], u8s x1] [] (by rw [hC]; simp)
    simp only [Lies, List.length_cons, List.length_nil] at this
    obtain ⟨s0, s1, _⟩ := this
    exact ⟨Lies.one s0, s1⟩
  have HF := Lib.hid hf
  clear hf hC
  have L1 := Lib.hid l1; clear l1
  have hl' : (joinB [numB x0, x1]).length ≤ 1099511627776 := hl
  have HLL := Lib.hid hl'
  clear hl hl'
  go_enter Tryz.func86, Tryz.ntmps86
  go_wp2_with fail
  have hsz := (Blk.new w 148 C.toArray).lt
  have hb0 : Blk (w.alloc (.cells C.toArray 148)).drew w.heap.size 148 C.toArray := (Blk.new w 148 C.toArray).drew
  have hbw : Below w.heap.size w (w.alloc (.cells C.toArray 148)).drew := ((Below.refl w.heap.size w).alloc (Nat.le_refl _) _).drew
  have D1 := Lib.hid (Bs.of_range32 (S := fun b => b = w.heap.size) rfl hb0.lt ((HF.out _ hb0).2) L1.out)
  refine wp_region_hoist [0, 1, 2, 4, 5] [3] [6, 7, 8] (fun w' => Blk w' w.heap.size 148 C.toArray)
    (by kernel_rfl) (by kernel_rfl) (by kernel_rfl) (by kernel_rfl) (by kernel_rfl) (by kernel_rfl) hb0 ?_
  (refine HoistK.yes (by rfl) (by kernel_rfl) ⟨?_, fun w' hSw => ?_, ?_⟩; rotate_left; (· go_simp; try with_reducible rfl); simp only [Act.put, setIfInBounds_toArray, getElem_toArray, getElem_cons_zero, set_cons_succ, set_cons_zero])
  (refine HoistK.yes (by rfl) (by kernel_rfl) ⟨?_, fun w' hSw => ?_, ?_⟩; rotate_left; (· obtain ⟨s0, s1⟩ := HF.out _ hSw; go_simp; try with_reducible rfl); simp only [Act.put, setIfInBounds_toArray, getElem_toArray, getElem_cons_succ, getElem_cons_zero, set_cons_succ, set_cons_zero])
  iterate 3 (refine HoistK.yes (by rfl) (by kernel_rfl) ⟨?_, fun w' hSw => ?_, ?_⟩; rotate_left; (· go_simp; try with_reducible rfl); simp only [Act.put, setIfInBounds_toArray, getElem_toArray, getElem_cons_succ, getElem_cons_zero, set_cons_succ, set_cons_zero])
  refine HoistK.nil_ ?_
  simp only [opsAt, filterMap_cons, filterMap_nil, getElem?_toArray, getElem?_cons_succ, getElem?_cons_zero]
  have g0 : Got (w.alloc (.cells C.toArray 148)).drew (w.alloc (.cells C.toArray 148)).drew [] [] := Got.start (Below.refl _ _)
  refine Effects.cons_ fun _ hQ1 => ?_
  go_wp2_with fail
  refine (rNumI_any _ _).mono ?_
  rintro e u1 ⟨v1, rfl, f1⟩
  have g1 := g0.step f1
  have hb1 := hb0.below f1.2 hb0.lt
  clear f1
  go_wp2_with fail
  refine hQ1 _ _ hb1 (Effects.nil_ fun _ hQ2 => ?_)
  clear hQ1 hb0 g0
  have g2 := g1.old D1.out
  clear g1
  have hcs : ∀ v ∈ [v1, (.slice (some ⟨w.heap.size, 1, none⟩) 32 32)], v.cells = #[v] := fun v hv => by
    obtain ⟨i, hi, rfl⟩ := List.getElem_of_mem hv
    obtain ⟨y, _, hr⟩ := g2.2.get i hi
    obtain ⟨A, c, e⟩ := hr.form
    have e' : [v1, (.slice (some ⟨w.heap.size, 1, none⟩) 32 32)][i] = .slice A y.length c := e
    rw [e']; rfl
  refine wpList_rows rfl 2 _ rfl [v1, (.slice (some ⟨w.heap.size, 1, none⟩) 32 32)] rfl (by decide) (by decide) hcs (by simp [Act.eval]) ?_
  have hr : Bsr (u1.alloc (.cells [v1, (.slice (some ⟨w.heap.size, 1, none⟩) 32 32)].toArray 77)) (fun b => b < u1.heap.size + 1) (.slice (some ⟨u1.heap.size, 0, none⟩) 2 2) [numB x0, x1] := g2.row (by simp [maxLen]) 77
  have hj := rJoin_any _ hr (by have := HLL.out; omega) (fun b hb => by simpa using hb)
  have hbb : Below w.heap.size w (u1.alloc (.cells [v1, (.slice (some ⟨w.heap.size, 1, none⟩) 32 32)].toArray 77)) := (hbw.trans (g2.1.mono hbw.size)).alloc (hbw.trans (g2.1.mono hbw.size)).size _
  have HJ := Lib.hid hj
  have HBB := Lib.hid hbb
  clear hj hbb hr g2 hcs
  go_wp2_with fail
  refine HJ.out.mono ?_
  rintro e uz ⟨vz, rfl, fz⟩
  go_wp2_with fail
  go_ret
  exact ⟨vz, rfl, fz.1.sub fun b hb _ => ⟨Nat.le_trans HBB.out.size hb.1, hb.2⟩, HBB.out.trans (fz.2.mono HBB.out.size)⟩
end
section
open Go.RowKit Go.Maps
set_option maxHeartbeats 2000000 in
set_option maxRecDepth 100000 in
theorem rNums_any (w : World) {S : Nat → Prop} {v : Value} {l : List (i64).El} (h : (Sh.list i64).rep w S l [v]) (hl : ((Sh.list i64).enc l).length ≤ 1099511627776) :
    Calls Tryz.prog 87 #[v] w fun e w' => ∃ v', e = .returned v' ∧ Fresh w w' v' ((Sh.list i64).enc l) := by
  obtain ⟨A, cap, rfl, hlen, hat⟩ := list_at h
  have H := Lib.hid h; clear h
  have hl' : (joinB (l.map (i64).enc)).length ≤ 1099511627776 := hl
  have hcnt := joinP_count (l.map (i64).enc)
  rw [joinB_length] at hl'
  rw [List.length_map] at hcnt
  have HLL := Lib.hid hl
  clear hl hat
  go_enter Tryz.func87, Tryz.ntmps87
  go_wp2_with fail
  go_loopw [3, 4] (fun a i wr => ∃ k : Nat, k ≤ l.length ∧ i = .int .i64 k ∧ Bss wr (fun b => w.heap.size ≤ b) (fun b => w.heap.size ≤ b) a ((l.take k).map (i64).enc) ∧ Below w.heap.size w wr) (fun _ i _ => l.length - (intOf i).toNat)
  case atStart => exact ⟨0, Nat.zero_le _, rfl, Bss.empty w _ _ (Nat.le_refl _), (Below.refl w.heap.size w).alloc (Nat.le_refl _) _⟩
  case round =>
    obtain ⟨k, hk, rfl, hB, hbl⟩ := hrel
    by_cases hlt : k < l.length
    · obtain ⟨R, hR⟩ : ∃ R, R = (l.take k).map (i64).enc := ⟨_, rfl⟩
      rw [← hR] at hB
      have hRl : R.length = k := by rw [hR, List.length_map, List.length_take]; omega
      have hnext : (l.take (k + 1)).map (i64).enc = R ++ [(i64).enc l[k]] := by rw [List.take_succ_eq_append_getElem hlt, List.map_append, ← hR]; rfl
      obtain ⟨Aa, ca, rfl⟩ := hB.form
      obtain ⟨_, _, e, _, hat⟩ := list_at (Sh.rep_below H.out hbl)
      injection e with e1 e2 e3
      subst e1 e3
      obtain ⟨b, off, c, rfl, hca, hr, hcl, _, _⟩ := hat k hlt
      obtain ⟨x, hx⟩ : ∃ x, x = l[k] := ⟨_, rfl⟩
      rw [← hx] at hr hnext
      obtain ⟨rfl, _⟩ := hr
      have hcell := Lies.one hca
      have hcell : wr.cell? ⟨b, off + k, none⟩ = some (.int .i64 x) := by simpa [Sh.cells, nk] using hcell
      have hown : ∀ k, (Value.slice Aa R.length ca).ownBlock = some k → k < wr.heap.size := fun k hk => by obtain ⟨vs, ho, _⟩ := hB; exact own_lt ho hk
      have HB := Lib.hid hB
      have HN := Lib.hid hnext
      have HRL := Lib.hid hRl
      have HOWN := Lib.hid hown
      clear hB hca hcl hat hx hR hnext hRl hown
      go_wp2_with fail
      refine (rNumI_any _ _).mono ?_
      rintro e w1 ⟨v1, rfl, f1⟩
      have hb1 := hbl.trans (f1.2.mono hbl.size)
      obtain ⟨y, hy⟩ : ∃ y, y = (i64).enc x := ⟨_, rfl⟩
      have f1 : Fresh wr w1 v1 y := hy ▸ f1
      rw [← hy] at HN
      obtain ⟨A1, c1, rfl⟩ := f1.1.form
      obtain ⟨vs, ho, hS, hr⟩ := HB.out.below f1.2
      have hsz1 := f1.2.size
      have hal : Below w1.heap.size w1 (w1.alloc (.cells #[.slice A1 y.length c1] 77)) := (Below.refl _ w1).alloc (Nat.le_refl _) _
      have HAL := Lib.hid hal
      have HO := Lib.hid (show Own (w1.alloc (.cells #[.slice A1 y.length c1] 77)) _ _ _ _ _ from own_keep ho fun k hk => hal.block k (own_lt ho hk))
      have HS := Lib.hid hS
      have HR := Lib.hid (fun i x u h1 h2 => (hr i x u h1 h2).below hal)
      have HU := Lib.hid ((f1.1.1.below hal).sub (T := fun b => w.heap.size ≤ b ∧ (Value.slice Aa R.length ca).ownBlock ≠ some b) fun b hb _ => ⟨Nat.le_trans hbl.size hb.1, fun e => by have := HOWN.out b e; omega⟩)
      have HS2 := Lib.hid (Cs.of_new w1 77 (size := 1) 1 (cs := [.slice A1 y.length c1]) rfl (by simp only [maxLen]; decide))
      have H63 := Lib.hid (show R.length + 1 ≤ maxLen ∧ (R.length + 1) * 24 ≤ 140737488355328 from by have := HRL.out; refine ⟨by simp only [maxLen]; omega, by omega⟩)
      clear ho hS hr hal f1 hy
      go_wp2_with (at_builtin; refine wpList_app _ rfl _ _ _ rfl Tryz.underlying107 info_row rfl (by decide) HO.out rfl HS2.out rfl (by simp [Value.oneCell']) H63.out.1 H63.out.2 ?_; intro v3 w3 ho3 hg3 hnil3 hat3; clear hnil3; have HO3 := Lib.hid ho3; clear ho3; have HG3 := Lib.hid hg3; clear hg3; have HAT3 := Lib.hid hat3; clear hat3)
      have hpush := Bss.push HO.out HS.out HR.out HU.out HO3.out HG3.out HAT3.out (by have := hb1.size; have := HAL.out.size; omega)
      rw [← HN.out] at hpush
      refine ⟨⟨k + 1, by omega, by push_cast; rfl, hpush, (hb1.trans (HAL.out.mono hb1.size)).trans (HG3.out.below (Nat.le_trans hb1.size HAL.out.size) fun b h => HS.out b h)⟩, ?_⟩
      simp only [intOf]
      omega
    · have hk' : k = l.length := by omega
      rw [hk', List.take_length] at hB
      have hsm : ∀ x ∈ l.map (i64).enc, x.length ≤ 140737488355328 := fun x hx => by have := joinP_mem hx; omega
      have hj := rJoin_any _ ((hB.read hsm).lt_ (T := fun b => w.heap.size ≤ b) fun b h => h.elim id id) (by rw [joinB_length]; omega) fun b h => h.2
      have HJ := Lib.hid hj
      obtain ⟨R, hR⟩ : ∃ R, R = l.map (i64).enc := ⟨_, rfl⟩
      have HR := Lib.hid hR
      rw [← hR] at hB HJ
      obtain ⟨Aa, ca, rfl⟩ := hB.form
      clear hj hB hR hsm
      go_wp2_with fail
      refine HJ.out.mono ?_
      rintro e w1 ⟨v1, rfl, f1⟩
      go_wp2_with fail
      go_ret
      refine ⟨v1, rfl, ?_, hbl.trans (f1.2.mono hbl.size)⟩
      have := f1.1.sub (T := fun b => w.heap.size ≤ b ∧ Th w1 b) fun b hb _ => ⟨Nat.le_trans hbl.size hb.1, hb.2⟩
      rw [HR.out] at this
      exact this
end
section
open Go.RowKit Go.Maps
attribute [-simp] Tryz.isAgg37 Tryz.typeInfo37 Tryz.isAgg148 Tryz.typeInfo148
set_option maxHeartbeats 8000000 in
set_option maxRecDepth 100000 in
theorem rQC_any (w : World) {S : Nat → Prop} {x : tQC.El} {cs : List Value} (h : tQC.rep w S x cs) (hl : (tQC.enc x).length ≤ 1099511627776) :
    Calls Tryz.prog 74 #[.agg cs.toArray] w fun e w' => ∃ v', e = .returned v' ∧ Fresh w w' v' (tQC.enc x) := by
  obtain ⟨x0, x1, x2, x3, x4, x5, _⟩ := x
  obtain ⟨c0, _, rfl, ⟨rfl, _⟩, c1, _, rfl, ⟨rfl, _⟩, c2, _, rfl, ⟨rfl, _⟩, c3, _, rfl, ⟨rfl, l3⟩, c4, _, rfl, r4, c5, _, rfl, r5, rfl⟩ := h
  obtain ⟨y4, rfl⟩ : ∃ y, c4 = [y] := by obtain ⟨v, _, e, _⟩ := r4; exact ⟨v, e⟩
  obtain ⟨y5, rfl⟩ : ∃ y, c5 = [y] := by obtain ⟨v, _, e, _⟩ := r5; exact ⟨v, e⟩
  obtain ⟨A5, cap5, rfl, hlen5, _⟩ := list_at r5
  have R4 := Lib.hid r4; clear r4
  have R5 := Lib.hid r5; clear r5
  simp only [nk_t]
  obtain ⟨C, hC⟩ : ∃ C, C = [Value.int .i64 x0] ++ ([Value.int .i64 x1] ++ ([Value.int .i64 x2] ++ (u8s x3 ++ ([y4] ++ ([Value.slice A5 (List.length (α := (tSig).El) x5) cap5] ++ ([])))))) := ⟨_, rfl⟩
  rw [← hC]
  have hf : ∀ w', Blk w' w.heap.size 88 C.toArray → w'.cell? ⟨w.heap.size, 0, none⟩ = some (.int .i64 x0) ∧ w'.cell? ⟨w.heap.size, 1, none⟩ = some (.int .i64 x1) ∧ w'.cell? ⟨w.heap.size, 2, none⟩ = some (.int .i64 x2) ∧ w'.rangeAt w.heap.size 3 (u8s x3) ∧ w'.cell? ⟨w.heap.size, 35, none⟩ = some y4 ∧ w'.cell? ⟨w.heap.size, 36, none⟩ = some (.slice A5 (List.length (α := (tSig).El) x5) cap5) := fun w' hb => by
    have := hb.lies [[Value.int .i64 x0], [Value.int .i64 x1], [Value.int .i64 x2], u8s x3, [y4], [Value.slice A5 (List.length (α := (tSig).El) x5) cap5]] [] (by rw [hC]; simp)
    simp only [Lies, u8s_length, l3, List.length_cons, List.length_nil] at this
    obtain ⟨s0, s1, s2, s3, s4, s5, _⟩ := this
    exact ⟨Lies.one s0, Lies.one s1, Lies.one s2, s3, Lies.one s4, Lies.one s5⟩
  have HF := Lib.hid hf
  clear hf hC
  have L3 := Lib.hid l3; clear l3
  have hl' : (joinB [numB x0, numB x1, numB x2, x3, (Sh.list i64).enc x4, (Sh.list tSig).enc x5]).length ≤ 1099511627776 := hl
  have HLL := Lib.hid hl'
  clear hl hl'
  have HE5 := Lib.hid (show ((Sh.list tSig).enc x5).length ≤ 1099511627776 from (by have h1 := HLL.out; rw [joinB_length] at h1; have h2 := joinP_mem (l := [numB x0, numB x1, numB x2, x3, (Sh.list i64).enc x4, (Sh.list tSig).enc x5]) (x := (Sh.list tSig).enc x5) (by simp); omega))
  have hcn5 : (List.length (α := (tSig).El) x5) ≤ 137438953472 := by
    have h1 := HE5.out
    have h2 := joinP_count (List.map (tSig).enc x5)
    have h3 : ((Sh.list tSig).enc x5).length = 8 + (joinP (List.map (tSig).enc x5)).length := joinB_length _
    rw [List.length_map] at h2
    omega
  have HEJ5 := Lib.hid (show (joinB (List.map (tSig).enc x5)).length ≤ 140737488355328 from by
    have h1 := HE5.out
    have h3 : ((Sh.list tSig).enc x5).length = 8 + (joinP (List.map (tSig).enc x5)).length := joinB_length _
    rw [joinB_length]
    omega)
  go_enter Tryz.func74, Tryz.ntmps74
  go_wp2_with fail
  have hbe := (Below.refl w.heap.size w).alloc (Nat.le_refl _) (.cells C.toArray 88)
  have hal0 : Below (w.heap.size + 1) (w.alloc (.cells C.toArray 88)) ((w.alloc (.cells C.toArray 88)).alloc (.cells #[] 77)) := (Below.refl _ _).alloc (by simp) _
  have hMb : w.heap.size < w.heap.size + 1 := by omega
  go_loopw [3, 4] (fun o i wr => ∃ k : Nat, k ≤ (List.length (α := (tSig).El) x5) ∧ i = .int .i64 k ∧ Bss wr (fun b => (w.heap.size + 1) ≤ b) (fun b => (w.heap.size + 1) ≤ b) o ((List.take k x5).map (tSig).enc) ∧ Below w.heap.size w wr ∧ (w.heap.size + 1) ≤ wr.heap.size ∧ Blk wr w.heap.size 88 C.toArray) (fun _ i _ => (List.length (α := (tSig).El) x5) - (intOf i).toNat)
  case atStart => exact ⟨0, Nat.zero_le _, rfl, Bss.empty1 w _, hbe.alloc (by simp) _, by simp, ((Blk.new w _ _).alloc _)⟩
  case round =>
    obtain ⟨k, hk, rfl, hB, hbl, hMz, hbox⟩ := hrel
    by_cases hlt : k < (List.length (α := (tSig).El) x5)
    · obtain ⟨R, hR⟩ : ∃ R, R = (List.take k x5).map (tSig).enc := ⟨_, rfl⟩
      rw [← hR] at hB
      have hRl : R.length = k := by rw [hR, List.length_map, List.length_take]; omega
      have hnext : (List.take (k + 1) x5).map (tSig).enc = R ++ [(tSig).enc (x5[k]'hlt)] := by rw [List.take_succ_eq_append_getElem hlt, List.map_append, ← hR]; rfl
      obtain ⟨Aa, ca, rfl⟩ := hB.form
      obtain ⟨_, _, e, _, hat⟩ := list_at (Sh.rep_below R5.out hbl)
      injection e with e1 e2 e3
      subst e1 e3
      obtain ⟨b, off, c, rfl, hca, hr, hcl, hblt, _⟩ := hat k hlt
      obtain ⟨x, hx⟩ : ∃ x, x = x5[k]'hlt := ⟨_, rfl⟩
      rw [← hx] at hr hnext
      have hsm2 : ((tSig).enc x).length ≤ 1099511627776 := by
        have h1 := joinP_mem (List.mem_map.2 ⟨x5[k]'hlt, List.getElem_mem hlt, rfl⟩ : (tSig).enc (x5[k]'hlt) ∈ List.map (tSig).enc x5)
        have h2 := HE5.out
        have h3 : ((Sh.list tSig).enc x5).length = 8 + (joinP (List.map (tSig).enc x5)).length := joinB_length _
        rw [hx]; omega
      have hinfo : (Tryz.prog.info? 148).map (·.size) = some c.length := by rw [hcl]; kernel_rfl
      have HCA := Lib.hid (show wr.rangeAt b (off + k * 33) c from hca)
      have HI := Lib.hid hinfo
      clear hinfo
      have HREP := Lib.hid hr
      have HSM := Lib.hid hsm2
      clear hr hsm2
      have hown : ∀ k, (Value.slice Aa R.length ca).ownBlock = some k → k < wr.heap.size := fun k hk => by obtain ⟨vs, ho, _⟩ := hB; exact own_lt ho hk
      have hbc := (HF.out wr hbox).2.2.2.2.2
      have HB := Lib.hid hB
      have HN := Lib.hid hnext
      have HRL := Lib.hid hRl
      have HOWN := Lib.hid hown
      have HBOX := Lib.hid hbox
      clear hB hca hcl hat hx hR hnext hRl hown hbox
      go_wp2_with (refine wpList_load_mid rfl 148 _ rfl b (off + k * 33) rfl c _ HCA.out Tryz.underlying148 rfl HI.out ?_)
      refine (rSig_any _ HREP.out HSM.out).mono ?_
      rintro e w1 ⟨v1, rfl, f1⟩
      have hb1 := hbl.trans (f1.2.mono hbl.size)
      obtain ⟨y, hy⟩ : ∃ y, y = (tSig).enc x := ⟨_, rfl⟩
      have f1 : Fresh wr w1 v1 y := hy ▸ f1
      rw [← hy] at HN
      obtain ⟨A1, c1, rfl⟩ := f1.1.form
      obtain ⟨vs, ho, hS, hr⟩ := HB.out.below f1.2
      have hsz1 := f1.2.size
      have hal : Below w1.heap.size w1 (w1.alloc (.cells #[.slice A1 y.length c1] 77)) := (Below.refl _ w1).alloc (Nat.le_refl _) _
      have HAL := Lib.hid hal
      have HO := Lib.hid (show Own (w1.alloc (.cells #[.slice A1 y.length c1] 77)) _ _ _ _ _ from own_keep ho fun k hk => hal.block k (own_lt ho hk))
      have HS := Lib.hid hS
      have HR := Lib.hid (fun i x u h1 h2 => (hr i x u h1 h2).below hal)
      have HU := Lib.hid ((f1.1.1.below hal).sub (T := fun b => (w.heap.size + 1) ≤ b ∧ (Value.slice Aa R.length ca).ownBlock ≠ some b) fun b hb _ => ⟨Nat.le_trans hMz hb.1, fun e => by have := HOWN.out b e; omega⟩)
      have HS2 := Lib.hid (Cs.of_new w1 77 (size := 1) 1 (cs := [.slice A1 y.length c1]) rfl (by simp only [maxLen]; decide))
      have H63 := Lib.hid (show R.length + 1 ≤ maxLen ∧ (R.length + 1) * 24 ≤ 140737488355328 from by have := HRL.out; refine ⟨by simp only [maxLen]; omega, by omega⟩)
      have HF2 := Lib.hid f1.2
      clear ho hS hr hal f1 hy
      go_wp2_with (at_builtin; refine wpList_app _ rfl _ _ _ rfl Tryz.underlying107 info_row rfl (by decide) HO.out rfl HS2.out rfl (by simp [Value.oneCell']) H63.out.1 H63.out.2 ?_; intro v3 w3 ho3 hg3 hnil3 hat3; clear hnil3; have HO3 := Lib.hid ho3; clear ho3; have HG3 := Lib.hid hg3; clear hg3; have HAT3 := Lib.hid hat3; clear hat3)
      have hzz := HAL.out.size
      have hz3 := HG3.out.size
      have hpush := Bss.push HO.out HS.out HR.out HU.out HO3.out HG3.out HAT3.out (by have := hb1.size; omega)
      rw [← HN.out] at hpush
      have hbA : Below w.heap.size w (w1.alloc (.cells #[.slice A1 y.length c1] 77)) := hb1.trans (HAL.out.mono hb1.size)
      have hbw3 := HF2.out.trans (HAL.out.mono hsz1)
      refine ⟨⟨k + 1, by omega, by push_cast; rfl, hpush, hbA.trans (HG3.out.below hbA.size fun b h => by have h1 := HS.out b h; have h2 := HBOX.out.lt; omega), by omega, (HBOX.out.below hbw3 HBOX.out.lt).chg HG3.out fun h => by have h1 := HS.out _ h; have h2 := hMb; omega⟩, ?_⟩
      simp only [intOf]
      omega
    · have hk' : k = (List.length (α := (tSig).El) x5) := by omega
      rw [hk', List.take_length] at hB
      have hsm : ∀ x ∈ List.map (tSig).enc x5, x.length ≤ 140737488355328 := fun x hx => by
        have h1 := joinP_mem hx
        have h2 := HE5.out
        have h3 : ((Sh.list tSig).enc x5).length = 8 + (joinP (List.map (tSig).enc x5)).length := joinB_length _
        omega
      have hEJ5 := HEJ5.out
      obtain ⟨R5m, hR5m⟩ : ∃ R, R = List.map (tSig).enc x5 := ⟨_, rfl⟩
      rw [← hR5m] at hB hsm hEJ5
      have HRm5 := Lib.hid hR5m
      have HEK5 := Lib.hid hEJ5
      clear hR5m hEJ5
      have V5 := Lib.hid (((hB.read hsm).lt_ (T := fun _ => True) fun _ _ => trivial).subs (T := fun b => b < wr.heap.size) fun b hb _ => hb.2)
      obtain ⟨Ao5, co5, rfl⟩ := hB.form
      have hbc5 := (HF.out wr hbox).2.2.2.2.2
      clear hB hsm
      obtain ⟨w_5, hw_5⟩ : ∃ w', w' = wr := ⟨_, rfl⟩
      subst hw_5
      have HBX5 := Lib.hid hbox; have hmb5 := hbox.lt; clear hbox
      go_wp2_with fail
      clear hlt hk hk'
      have hsz := HBX5.out.lt
      have hb0 : Blk w_5.drew w.heap.size 88 C.toArray := HBX5.out.drew
      have hbw : Below w.heap.size w w_5.drew := (hbl).drew
      have D3 := Lib.hid (Bs.of_range32 (S := fun b => b = w.heap.size) rfl hb0.lt ((HF.out _ hb0).2.2.2.1) L3.out)
      refine wp_region_hoist [0, 1, 2, 4, 5, 6, 8, 9, 10, 12, 13, 14, 15, 17] [3, 7, 11, 16, 18] [19, 20, 21] (fun w' => Blk w' w.heap.size 88 C.toArray)
        (by kernel_rfl) (by kernel_rfl) (by kernel_rfl) (by kernel_rfl) (by kernel_rfl) (by kernel_rfl) hb0 ?_
      (refine HoistK.yes (by rfl) (by kernel_rfl) ⟨?_, fun w' hSw => ?_, ?_⟩; rotate_left; (· go_simp; try with_reducible rfl); simp only [Act.put, setIfInBounds_toArray, getElem_toArray, getElem_cons_zero, set_cons_succ, set_cons_zero])
      (refine HoistK.yes (by rfl) (by kernel_rfl) ⟨?_, fun w' hSw => ?_, ?_⟩; rotate_left; (· obtain ⟨s0, s1, s2, s3, s4, s5⟩ := HF.out _ hSw; go_simp; try with_reducible rfl); simp only [Act.put, setIfInBounds_toArray, getElem_toArray, getElem_cons_succ, getElem_cons_zero, set_cons_succ, set_cons_zero])
      iterate 2 (refine HoistK.yes (by rfl) (by kernel_rfl) ⟨?_, fun w' hSw => ?_, ?_⟩; rotate_left; (· go_simp; try with_reducible rfl); simp only [Act.put, setIfInBounds_toArray, getElem_toArray, getElem_cons_succ, getElem_cons_zero, set_cons_succ, set_cons_zero])
      (refine HoistK.yes (by rfl) (by kernel_rfl) ⟨?_, fun w' hSw => ?_, ?_⟩; rotate_left; (· obtain ⟨s0, s1, s2, s3, s4, s5⟩ := HF.out _ hSw; go_simp; try with_reducible rfl); simp only [Act.put, setIfInBounds_toArray, getElem_toArray, getElem_cons_succ, getElem_cons_zero, set_cons_succ, set_cons_zero])
      iterate 2 (refine HoistK.yes (by rfl) (by kernel_rfl) ⟨?_, fun w' hSw => ?_, ?_⟩; rotate_left; (· go_simp; try with_reducible rfl); simp only [Act.put, setIfInBounds_toArray, getElem_toArray, getElem_cons_succ, getElem_cons_zero, set_cons_succ, set_cons_zero])
      (refine HoistK.yes (by rfl) (by kernel_rfl) ⟨?_, fun w' hSw => ?_, ?_⟩; rotate_left; (· obtain ⟨s0, s1, s2, s3, s4, s5⟩ := HF.out _ hSw; go_simp; try with_reducible rfl); simp only [Act.put, setIfInBounds_toArray, getElem_toArray, getElem_cons_succ, getElem_cons_zero, set_cons_succ, set_cons_zero])
      iterate 4 (refine HoistK.yes (by rfl) (by kernel_rfl) ⟨?_, fun w' hSw => ?_, ?_⟩; rotate_left; (· go_simp; try with_reducible rfl); simp only [Act.put, setIfInBounds_toArray, getElem_toArray, getElem_cons_succ, getElem_cons_zero, set_cons_succ, set_cons_zero])
      (refine HoistK.yes (by rfl) (by kernel_rfl) ⟨?_, fun w' hSw => ?_, ?_⟩; rotate_left; (· obtain ⟨s0, s1, s2, s3, s4, s5⟩ := HF.out _ hSw; go_simp; try with_reducible rfl); simp only [Act.put, setIfInBounds_toArray, getElem_toArray, getElem_cons_succ, getElem_cons_zero, set_cons_succ, set_cons_zero])
      (refine HoistK.yes (by rfl) (by kernel_rfl) ⟨?_, fun w' hSw => ?_, ?_⟩; rotate_left; (· go_simp; try with_reducible rfl); simp only [Act.put, setIfInBounds_toArray, getElem_toArray, getElem_cons_succ, getElem_cons_zero, set_cons_succ, set_cons_zero])
      refine HoistK.nil_ ?_
      simp only [opsAt, filterMap_cons, filterMap_nil, getElem?_toArray, getElem?_cons_succ, getElem?_cons_zero]
      have g0 : Got w_5.drew w_5.drew [] [] := Got.start (Below.refl _ _)
      refine Effects.cons_ fun _ hQ1 => ?_
      go_wp2_with fail
      refine (rNumI_any _ _).mono ?_
      rintro e u1 ⟨v1, rfl, f1⟩
      have g1 := g0.step f1
      have hb1 := hb0.below f1.2 hb0.lt
      clear f1
      go_wp2_with fail
      refine hQ1 _ _ hb1 (Effects.cons_ fun _ hQ2 => ?_)
      clear hQ1 hb0 g0
      go_wp2_with fail
      refine (rNumI_any _ _).mono ?_
      rintro e u2 ⟨v2, rfl, f2⟩
      have g2 := g1.step f2
      have hb2 := hb1.below f2.2 hb1.lt
      clear f2
      go_wp2_with fail
      refine hQ2 _ _ hb2 (Effects.cons_ fun _ hQ3 => ?_)
      clear hQ2 hb1 g1
      go_wp2_with fail
      refine (rNumI_any _ _).mono ?_
      rintro e u3 ⟨v3, rfl, f3⟩
      have g3 := g2.step f3
      have hb3 := hb2.below f3.2 hb2.lt
      clear f3
      go_wp2_with fail
      refine hQ3 _ _ hb3 (Effects.cons_ fun _ hQ4 => ?_)
      clear hQ3 hb2 g2
      have g4 := g3.old D3.out
      clear g3
      go_wp2_with fail
      refine (rNums_any _ (Sh.rep_below R4.out (hbw.trans (g4.1.mono hbw.size))) (by have h1 := HLL.out; rw [joinB_length] at h1; have h2 := joinP_mem (l := [numB x0, numB x1, numB x2, x3, (Sh.list i64).enc x4, (Sh.list tSig).enc x5]) (x := (Sh.list i64).enc x4) (by simp); omega)).mono ?_
      rintro e u4 ⟨v5, rfl, f4⟩
      have g5 := g4.step f4
      have hb4 := hb3.below f4.2 hb3.lt
      clear f4
      go_wp2_with fail
      refine hQ4 _ _ hb4 (Effects.cons_ fun _ hQ5 => ?_)
      clear hQ4 hb3 g4
      go_wp2_with fail
      refine (rJoin_any _ (V5.out.drew_.below g5.1) HEK5.out (fun b hb => ltle hb g5.1.size)).mono ?_
      rintro e u5 ⟨v6, rfl, f5⟩
      rw [HRm5.out] at f5
      have f5 : Fresh _ _ _ ((Sh.list tSig).enc x5) := f5
      have g6 := g5.step f5
      have hb5 := hb4.below f5.2 hb4.lt
      clear f5
      go_wp2_with fail
      refine hQ5 _ _ hb5 (Effects.nil_ fun _ hQ6 => ?_)
      clear hQ5 hb4 g5
      have hcs : ∀ v ∈ [v1, v2, v3, (.slice (some ⟨w.heap.size, 3, none⟩) 32 32), v5, v6], v.cells = #[v] := fun v hv => by
        obtain ⟨i, hi, rfl⟩ := List.getElem_of_mem hv
        obtain ⟨y, _, hr⟩ := g6.2.get i hi
        obtain ⟨A, c, e⟩ := hr.form
        have e' : [v1, v2, v3, (.slice (some ⟨w.heap.size, 3, none⟩) 32 32), v5, v6][i] = .slice A y.length c := e
        rw [e']; rfl
      refine wpList_rows rfl 6 _ rfl [v1, v2, v3, (.slice (some ⟨w.heap.size, 3, none⟩) 32 32), v5, v6] rfl (by decide) (by decide) hcs (by simp [Act.eval]) ?_
      have hr : Bsr (u5.alloc (.cells [v1, v2, v3, (.slice (some ⟨w.heap.size, 3, none⟩) 32 32), v5, v6].toArray 77)) (fun b => b < u5.heap.size + 1) (.slice (some ⟨u5.heap.size, 0, none⟩) 6 6) [numB x0, numB x1, numB x2, x3, (Sh.list i64).enc x4, (Sh.list tSig).enc x5] := g6.row (by simp [maxLen]) 77
      have hj := rJoin_any _ hr (by have := HLL.out; omega) (fun b hb => by simpa using hb)
      have hbb : Below w.heap.size w (u5.alloc (.cells [v1, v2, v3, (.slice (some ⟨w.heap.size, 3, none⟩) 32 32), v5, v6].toArray 77)) := (hbw.trans (g6.1.mono hbw.size)).alloc (hbw.trans (g6.1.mono hbw.size)).size _
      have HJ := Lib.hid hj
      have HBB := Lib.hid hbb
      clear hj hbb hr g6 hcs
      go_wp2_with fail
      refine HJ.out.mono ?_
      rintro e uz ⟨vz, rfl, fz⟩
      go_wp2_with fail
      go_ret
      exact ⟨vz, rfl, fz.1.sub fun b hb _ => ⟨Nat.le_trans HBB.out.size hb.1, hb.2⟩, HBB.out.trans (fz.2.mono HBB.out.size)⟩
end
section
open Go.RowKit Go.Maps
attribute [-simp] Tryz.isAgg37 Tryz.typeInfo37 Tryz.isAgg125 Tryz.typeInfo125 Tryz.isAgg88 Tryz.typeInfo88
set_option maxHeartbeats 8000000 in
set_option maxRecDepth 100000 in
theorem rCommit_any (w : World) {S : Nat → Prop} {x : tCommit.El} {cs : List Value} (h : tCommit.rep w S x cs) (hl : (tCommit.enc x).length ≤ 1099511627776) :
    Calls Tryz.prog 65 #[.agg cs.toArray] w fun e w' => ∃ v', e = .returned v' ∧ Fresh w w' v' (tCommit.enc x) := by
  obtain ⟨x0, x1, _⟩ := x
  obtain ⟨c0, _, rfl, r0, c1, _, rfl, r1, rfl⟩ := h
  obtain ⟨y0, rfl⟩ : ∃ y, c0 = [y] := by obtain ⟨v, _, e, _⟩ := r0; exact ⟨v, e⟩
  have l1 : c1.length = 37 := Sh.rep_size _ _ _ r1
  obtain ⟨y1, hy1⟩ : ∃ y, y = c1 := ⟨_, rfl⟩
  subst hy1
  obtain ⟨A0, cap0, rfl, hlen0, _⟩ := list_at r0
  have R0 := Lib.hid r0; clear r0
  have R1 := Lib.hid r1; clear r1
  obtain ⟨C, hC⟩ : ∃ C, C = [Value.slice A0 (List.length (α := (tHeader).El) x0) cap0] ++ (y1 ++ ([])) := ⟨_, rfl⟩
  rw [← hC]
  have hf : ∀ w', Blk w' w.heap.size 90 C.toArray → w'.cell? ⟨w.heap.size, 0, none⟩ = some (.slice A0 (List.length (α := (tHeader).El) x0) cap0) ∧ w'.rangeAt w.heap.size 1 y1 := fun w' hb => by
    have := hb.lies [[Value.slice A0 (List.length (α := (tHeader).El) x0) cap0], y1] [] (by rw [hC]; simp)
    simp only [Lies, List.length_cons, List.length_nil] at this
    obtain ⟨s0, s1, _⟩ := this
    exact ⟨Lies.one s0, s1⟩
  have HF := Lib.hid hf
  clear hf hC
  have L1 := Lib.hid l1; clear l1
  have hl' : (joinB [(Sh.list tHeader).enc x0, tQC.enc x1]).length ≤ 1099511627776 := hl
  have HLL := Lib.hid hl'
  clear hl hl'
  have HE0 := Lib.hid (show ((Sh.list tHeader).enc x0).length ≤ 1099511627776 from (by have h1 := HLL.out; rw [joinB_length] at h1; have h2 := joinP_mem (l := [(Sh.list tHeader).enc x0, tQC.enc x1]) (x := (Sh.list tHeader).enc x0) (by simp); omega))
  have hcn0 : (List.length (α := (tHeader).El) x0) ≤ 137438953472 := by
    have h1 := HE0.out
    have h2 := joinP_count (List.map (tHeader).enc x0)
    have h3 : ((Sh.list tHeader).enc x0).length = 8 + (joinP (List.map (tHeader).enc x0)).length := joinB_length _
    rw [List.length_map] at h2
    omega
  have HEJ0 := Lib.hid (show (joinB (List.map (tHeader).enc x0)).length ≤ 140737488355328 from by
    have h1 := HE0.out
    have h3 : ((Sh.list tHeader).enc x0).length = 8 + (joinP (List.map (tHeader).enc x0)).length := joinB_length _
    rw [joinB_length]
    omega)
  go_enter Tryz.func65, Tryz.ntmps65
  go_wp2_with fail
  have hbe := (Below.refl w.heap.size w).alloc (Nat.le_refl _) (.cells C.toArray 90)
  have hal0 : Below (w.heap.size + 1) (w.alloc (.cells C.toArray 90)) ((w.alloc (.cells C.toArray 90)).alloc (.cells #[] 77)) := (Below.refl _ _).alloc (by simp) _
  have hMb : w.heap.size < w.heap.size + 1 := by omega
  go_loopw [3, 4] (fun o i wr => ∃ k : Nat, k ≤ (List.length (α := (tHeader).El) x0) ∧ i = .int .i64 k ∧ Bss wr (fun b => (w.heap.size + 1) ≤ b) (fun b => (w.heap.size + 1) ≤ b) o ((List.take k x0).map (tHeader).enc) ∧ Below w.heap.size w wr ∧ (w.heap.size + 1) ≤ wr.heap.size ∧ Blk wr w.heap.size 90 C.toArray) (fun _ i _ => (List.length (α := (tHeader).El) x0) - (intOf i).toNat)
  case atStart => exact ⟨0, Nat.zero_le _, rfl, Bss.empty1 w _, hbe.alloc (by simp) _, by simp, ((Blk.new w _ _).alloc _)⟩
  case round =>
    obtain ⟨k, hk, rfl, hB, hbl, hMz, hbox⟩ := hrel
    by_cases hlt : k < (List.length (α := (tHeader).El) x0)
    · obtain ⟨R, hR⟩ : ∃ R, R = (List.take k x0).map (tHeader).enc := ⟨_, rfl⟩
      rw [← hR] at hB
      have hRl : R.length = k := by rw [hR, List.length_map, List.length_take]; omega
      have hnext : (List.take (k + 1) x0).map (tHeader).enc = R ++ [(tHeader).enc (x0[k]'hlt)] := by rw [List.take_succ_eq_append_getElem hlt, List.map_append, ← hR]; rfl
      obtain ⟨Aa, ca, rfl⟩ := hB.form
      obtain ⟨_, _, e, _, hat⟩ := list_at (Sh.rep_below R0.out hbl)
      injection e with e1 e2 e3
      subst e1 e3
      obtain ⟨b, off, c, rfl, hca, hr, hcl, hblt, _⟩ := hat k hlt
      obtain ⟨x, hx⟩ : ∃ x, x = x0[k]'hlt := ⟨_, rfl⟩
      rw [← hx] at hr hnext
      have hsm2 : ((tHeader).enc x).length ≤ 1099511627776 := by
        have h1 := joinP_mem (List.mem_map.2 ⟨x0[k]'hlt, List.getElem_mem hlt, rfl⟩ : (tHeader).enc (x0[k]'hlt) ∈ List.map (tHeader).enc x0)
        have h2 := HE0.out
        have h3 : ((Sh.list tHeader).enc x0).length = 8 + (joinP (List.map (tHeader).enc x0)).length := joinB_length _
        rw [hx]; omega
      have hinfo : (Tryz.prog.info? 125).map (·.size) = some c.length := by rw [hcl]; kernel_rfl
      have HCA := Lib.hid (show wr.rangeAt b (off + k * 101) c from hca)
      have HI := Lib.hid hinfo
      clear hinfo
      have HREP := Lib.hid hr
      have HSM := Lib.hid hsm2
      clear hr hsm2
      have hown : ∀ k, (Value.slice Aa R.length ca).ownBlock = some k → k < wr.heap.size := fun k hk => by obtain ⟨vs, ho, _⟩ := hB; exact own_lt ho hk
      have hbc := (HF.out wr hbox).1
      have HB := Lib.hid hB
      have HN := Lib.hid hnext
      have HRL := Lib.hid hRl
      have HOWN := Lib.hid hown
      have HBOX := Lib.hid hbox
      clear hB hca hcl hat hx hR hnext hRl hown hbox
      go_wp2_with (refine wpList_load_mid rfl 125 _ rfl b (off + k * 101) rfl c _ HCA.out Tryz.underlying125 rfl HI.out ?_)
      refine (rHeader_any _ HREP.out HSM.out).mono ?_
      rintro e w1 ⟨v1, rfl, f1⟩
      have hb1 := hbl.trans (f1.2.mono hbl.size)
      obtain ⟨y, hy⟩ : ∃ y, y = (tHeader).enc x := ⟨_, rfl⟩
      have f1 : Fresh wr w1 v1 y := hy ▸ f1
      rw [← hy] at HN
      obtain ⟨A1, c1, rfl⟩ := f1.1.form
      obtain ⟨vs, ho, hS, hr⟩ := HB.out.below f1.2
      have hsz1 := f1.2.size
      have hal : Below w1.heap.size w1 (w1.alloc (.cells #[.slice A1 y.length c1] 77)) := (Below.refl _ w1).alloc (Nat.le_refl _) _
      have HAL := Lib.hid hal
      have HO := Lib.hid (show Own (w1.alloc (.cells #[.slice A1 y.length c1] 77)) _ _ _ _ _ from own_keep ho fun k hk => hal.block k (own_lt ho hk))
      have HS := Lib.hid hS
      have HR := Lib.hid (fun i x u h1 h2 => (hr i x u h1 h2).below hal)
      have HU := Lib.hid ((f1.1.1.below hal).sub (T := fun b => (w.heap.size + 1) ≤ b ∧ (Value.slice Aa R.length ca).ownBlock ≠ some b) fun b hb _ => ⟨Nat.le_trans hMz hb.1, fun e => by have := HOWN.out b e; omega⟩)
      have HS2 := Lib.hid (Cs.of_new w1 77 (size := 1) 1 (cs := [.slice A1 y.length c1]) rfl (by simp only [maxLen]; decide))
      have H63 := Lib.hid (show R.length + 1 ≤ maxLen ∧ (R.length + 1) * 24 ≤ 140737488355328 from by have := HRL.out; refine ⟨by simp only [maxLen]; omega, by omega⟩)
      have HF2 := Lib.hid f1.2
      clear ho hS hr hal f1 hy
      go_wp2_with (at_builtin; refine wpList_app _ rfl _ _ _ rfl Tryz.underlying107 info_row rfl (by decide) HO.out rfl HS2.out rfl (by simp [Value.oneCell']) H63.out.1 H63.out.2 ?_; intro v3 w3 ho3 hg3 hnil3 hat3; clear hnil3; have HO3 := Lib.hid ho3; clear ho3; have HG3 := Lib.hid hg3; clear hg3; have HAT3 := Lib.hid hat3; clear hat3)
      have hzz := HAL.out.size
      have hz3 := HG3.out.size
      have hpush := Bss.push HO.out HS.out HR.out HU.out HO3.out HG3.out HAT3.out (by have := hb1.size; omega)
      rw [← HN.out] at hpush
      have hbA : Below w.heap.size w (w1.alloc (.cells #[.slice A1 y.length c1] 77)) := hb1.trans (HAL.out.mono hb1.size)
      have hbw3 := HF2.out.trans (HAL.out.mono hsz1)
      refine ⟨⟨k + 1, by omega, by push_cast; rfl, hpush, hbA.trans (HG3.out.below hbA.size fun b h => by have h1 := HS.out b h; have h2 := HBOX.out.lt; omega), by omega, (HBOX.out.below hbw3 HBOX.out.lt).chg HG3.out fun h => by have h1 := HS.out _ h; have h2 := hMb; omega⟩, ?_⟩
      simp only [intOf]
      omega
    · have hk' : k = (List.length (α := (tHeader).El) x0) := by omega
      rw [hk', List.take_length] at hB
      have hsm : ∀ x ∈ List.map (tHeader).enc x0, x.length ≤ 140737488355328 := fun x hx => by
        have h1 := joinP_mem hx
        have h2 := HE0.out
        have h3 : ((Sh.list tHeader).enc x0).length = 8 + (joinP (List.map (tHeader).enc x0)).length := joinB_length _
        omega
      have hEJ0 := HEJ0.out
      obtain ⟨R0m, hR0m⟩ : ∃ R, R = List.map (tHeader).enc x0 := ⟨_, rfl⟩
      rw [← hR0m] at hB hsm hEJ0
      have HRm0 := Lib.hid hR0m
      have HEK0 := Lib.hid hEJ0
      clear hR0m hEJ0
      have V0 := Lib.hid (((hB.read hsm).lt_ (T := fun _ => True) fun _ _ => trivial).subs (T := fun b => b < wr.heap.size) fun b hb _ => hb.2)
      obtain ⟨Ao0, co0, rfl⟩ := hB.form
      have hbc0 := (HF.out wr hbox).1
      clear hB hsm
      obtain ⟨w_0, hw_0⟩ : ∃ w', w' = wr := ⟨_, rfl⟩
      subst hw_0
      have HBX0 := Lib.hid hbox; have hmb0 := hbox.lt; clear hbox
      go_wp2_with fail
      clear hlt hk hk'
      have hsz := HBX0.out.lt
      have hb0 : Blk w_0.drew w.heap.size 90 C.toArray := HBX0.out.drew
      have hbw : Below w.heap.size w w_0.drew := (hbl).drew
      refine wp_region_hoist [0, 2, 3] [1, 4] [5, 6, 7] (fun w' => Blk w' w.heap.size 90 C.toArray)
        (by kernel_rfl) (by kernel_rfl) (by kernel_rfl) (by kernel_rfl) (by kernel_rfl) (by kernel_rfl) hb0 ?_
      (refine HoistK.yes (by rfl) (by kernel_rfl) ⟨?_, fun w' hSw => ?_, ?_⟩; rotate_left; (· go_simp; try with_reducible rfl); simp only [Act.put, setIfInBounds_toArray, getElem_toArray, getElem_cons_zero, set_cons_succ, set_cons_zero])
      (refine HoistK.yes (by rfl) (by kernel_rfl) ⟨?_, fun w' hSw => ?_, ?_⟩; rotate_left; (· go_simp; try with_reducible rfl); simp only [Act.put, setIfInBounds_toArray, getElem_toArray, getElem_cons_succ, getElem_cons_zero, set_cons_succ, set_cons_zero])
      (refine HoistK.load (by rfl) (by kernel_rfl) 88 _ rfl w.heap.size 1 rfl (y1) _ (fun w' hw => (HF.out w' hw).2) Tryz.underlying88 rfl (by rw [L1.out]; kernel_rfl) ?_; simp only [Act.put, setIfInBounds_toArray, getElem_toArray, getElem_cons_succ, getElem_cons_zero, set_cons_succ, set_cons_zero])
      refine HoistK.nil_ ?_
      simp only [opsAt, filterMap_cons, filterMap_nil, getElem?_toArray, getElem?_cons_succ, getElem?_cons_zero]
      have g0 : Got w_0.drew w_0.drew [] [] := Got.start (Below.refl _ _)
      refine Effects.cons_ fun _ hQ1 => ?_
      go_wp2_with fail
      refine (rJoin_any _ (V0.out.drew_.below g0.1) HEK0.out (fun b hb => ltle hb g0.1.size)).mono ?_
      rintro e u1 ⟨v1, rfl, f1⟩
      rw [HRm0.out] at f1
      have f1 : Fresh _ _ _ ((Sh.list tHeader).enc x0) := f1
      have g1 := g0.step f1
      have hb1 := hb0.below f1.2 hb0.lt
      clear f1
      go_wp2_with fail
      refine hQ1 _ _ hb1 (Effects.cons_ fun _ hQ2 => ?_)
      clear hQ1 hb0 g0
      go_wp2_with fail
      refine (rQC_any _ (Sh.rep_below R1.out (hbw.trans (g1.1.mono hbw.size))) (by have h1 := HLL.out; rw [joinB_length] at h1; have h2 := joinP_mem (l := [(Sh.list tHeader).enc x0, tQC.enc x1]) (x := tQC.enc x1) (by simp); omega)).mono ?_
      rintro e u2 ⟨v2, rfl, f2⟩
      have g2 := g1.step f2
      have hb2 := hb1.below f2.2 hb1.lt
      clear f2
      go_wp2_with fail
      refine hQ2 _ _ hb2 (Effects.nil_ fun _ hQ3 => ?_)
      clear hQ2 hb1 g1
      have hcs : ∀ v ∈ [v1, v2], v.cells = #[v] := fun v hv => by
        obtain ⟨i, hi, rfl⟩ := List.getElem_of_mem hv
        obtain ⟨y, _, hr⟩ := g2.2.get i hi
        obtain ⟨A, c, e⟩ := hr.form
        have e' : [v1, v2][i] = .slice A y.length c := e
        rw [e']; rfl
      refine wpList_rows rfl 2 _ rfl [v1, v2] rfl (by decide) (by decide) hcs (by simp [Act.eval]) ?_
      have hr : Bsr (u2.alloc (.cells [v1, v2].toArray 77)) (fun b => b < u2.heap.size + 1) (.slice (some ⟨u2.heap.size, 0, none⟩) 2 2) [(Sh.list tHeader).enc x0, tQC.enc x1] := g2.row (by simp [maxLen]) 77
      have hj := rJoin_any _ hr (by have := HLL.out; omega) (fun b hb => by simpa using hb)
      have hbb : Below w.heap.size w (u2.alloc (.cells [v1, v2].toArray 77)) := (hbw.trans (g2.1.mono hbw.size)).alloc (hbw.trans (g2.1.mono hbw.size)).size _
      have HJ := Lib.hid hj
      have HBB := Lib.hid hbb
      clear hj hbb hr g2 hcs
      go_wp2_with fail
      refine HJ.out.mono ?_
      rintro e uz ⟨vz, rfl, fz⟩
      go_wp2_with fail
      go_ret
      exact ⟨vz, rfl, fz.1.sub fun b hb _ => ⟨Nat.le_trans HBB.out.size hb.1, hb.2⟩, HBB.out.trans (fz.2.mono HBB.out.size)⟩
end
section
open Go.RowKit Go.Maps
attribute [-simp] Tryz.isAgg37 Tryz.typeInfo37 Tryz.isAgg90 Tryz.typeInfo90
set_option maxHeartbeats 8000000 in
set_option maxRecDepth 100000 in
theorem rFact_any (w : World) {S : Nat → Prop} {x : tFact.El} {cs : List Value} (h : tFact.rep w S x cs) (hl : (tFact.enc x).length ≤ 1099511627776) :
    Calls Tryz.prog 53 #[.agg cs.toArray] w fun e w' => ∃ v', e = .returned v' ∧ Fresh w w' v' (tFact.enc x) := by
  obtain ⟨x0, x1, x2, x3, x4, _⟩ := x
  obtain ⟨c0, _, rfl, r0, c1, _, rfl, ⟨rfl, l1⟩, c2, _, rfl, ⟨y2, rfl, r2⟩, c3, _, rfl, rfl, c4, _, rfl, ⟨y4, rfl, r4⟩, rfl⟩ := h
  have l0 : c0.length = 38 := Sh.rep_size _ _ _ r0
  obtain ⟨y0, hy0⟩ : ∃ y, y = c0 := ⟨_, rfl⟩
  subst hy0
  have R0 := Lib.hid r0; clear r0
  have R2 := Lib.hid r2; clear r2
  have R4 := Lib.hid r4; clear r4
  obtain ⟨C, hC⟩ : ∃ C, C = y0 ++ (u8s x1 ++ ([y2] ++ ([Value.bool x3] ++ ([y4] ++ ([]))))) := ⟨_, rfl⟩
  rw [← hC]
  have hf : ∀ w', Blk w' w.heap.size 92 C.toArray → w'.rangeAt w.heap.size 0 y0 ∧ w'.rangeAt w.heap.size 38 (u8s x1) ∧ w'.cell? ⟨w.heap.size, 70, none⟩ = some y2 ∧ w'.cell? ⟨w.heap.size, 71, none⟩ = some (.bool x3) ∧ w'.cell? ⟨w.heap.size, 72, none⟩ = some y4 := fun w' hb => by
    have := hb.lies [y0, u8s x1, [y2], [Value.bool x3], [y4]] [] (by rw [hC]; simp)
    simp only [Lies, u8s_length, l0, l1, List.length_cons, List.length_nil] at this
    obtain ⟨s0, s1, s2, s3, s4, _⟩ := this
    exact ⟨s0, s1, Lies.one s2, Lies.one s3, Lies.one s4⟩
  have HF := Lib.hid hf
  clear hf hC
  have L0 := Lib.hid l0; clear l0
  have L1 := Lib.hid l1; clear l1
  have hl' : (joinB [tCommit.enc x0, x1, x2, truthB x3, x4]).length ≤ 1099511627776 := hl
  have HLL := Lib.hid hl'
  clear hl hl'
  go_enter Tryz.func53, Tryz.ntmps53
  have hbe := (Below.refl w.heap.size w).alloc (Nat.le_refl _) (.cells C.toArray 92)
  have hbx := Blk.new w 92 C.toArray
  have hbool := (HF.out _ hbx).2.2.2.1
  rw [hbx.cell] at hbool
  have hbool : C[71]? = some (.bool x3) := by simpa using hbool
  have HBE := Lib.hid hbe
  have HBX := Lib.hid hbx
  have hn2 : ∀ y : UInt8, Bs ((w.alloc (.cells C.toArray 92)).alloc (.cells #[.int .u8 y.toNat] 5)) (fun b => b = w.heap.size + 1) (.slice (some ⟨w.heap.size + 1, 0, none⟩) 1 1) [y] := fun y => by
    have := Bs.of_new (w.alloc (.cells C.toArray 92)) 5 [y] (by simp) (0, 0)
    rwa [show (w.alloc (.cells C.toArray 92)).heap.size = w.heap.size + 1 by simp] at this
  have HN2 := Lib.hid hn2
  clear hbe hbx hn2
  cases x3
  · go_wp2_with fail
    have hbw2 : Below w.heap.size w ((w.alloc (.cells C.toArray 92)).alloc (.cells #[.int .u8 0] 5)) := HBE.out.alloc (by simp) _
    have HB3 := Lib.hid (show Bs ((w.alloc (.cells C.toArray 92)).alloc (.cells #[.int .u8 0] 5)).drew (fun b => b = w.heap.size + 1) (.slice (some ⟨w.heap.size + 1, 0, none⟩) 1 1) (truthB false) from HN2.out 0)
    have hbox2 : Blk ((w.alloc (.cells C.toArray 92)).alloc (.cells #[.int .u8 0] 5)) w.heap.size 92 C.toArray := HBX.out.alloc _
    obtain ⟨wB, hwB⟩ : ∃ wB, wB = (w.alloc (.cells C.toArray 92)).alloc (.cells #[.int .u8 0] 5) := ⟨_, rfl⟩
    rw [← hwB] at hbw2 HB3 hbox2 ⊢
    have HWB := Lib.hid hwB; clear hwB
    have hsz := hbox2.lt
    have hb0 : Blk wB.drew w.heap.size 92 C.toArray := hbox2.drew
    have hbw : Below w.heap.size w wB.drew := (hbw2).drew
    have D1 := Lib.hid (Bs.of_range32 (S := fun b => b = w.heap.size) rfl hb0.lt ((HF.out _ hb0).2.1) L1.out)
    refine wp_region_hoist [0, 1, 3, 4, 5, 6, 7, 8, 9] [2] [10, 11, 12] (fun w' => Blk w' w.heap.size 92 C.toArray)
      (by kernel_rfl) (by kernel_rfl) (by kernel_rfl) (by kernel_rfl) (by kernel_rfl) (by kernel_rfl) hb0 ?_
    (refine HoistK.yes (by rfl) (by kernel_rfl) ⟨?_, fun w' hSw => ?_, ?_⟩; rotate_left; (· go_simp; try with_reducible rfl); simp only [Act.put, setIfInBounds_toArray, getElem_toArray, getElem_cons_zero, set_cons_succ, set_cons_zero])
    (refine HoistK.load (by rfl) (by kernel_rfl) 90 _ rfl w.heap.size 0 rfl (y0) _ (fun w' hw => (HF.out w' hw).1) Tryz.underlying90 rfl (by rw [L0.out]; kernel_rfl) ?_; simp only [Act.put, setIfInBounds_toArray, getElem_toArray, getElem_cons_succ, getElem_cons_zero, set_cons_succ, set_cons_zero])
    iterate 3 (refine HoistK.yes (by rfl) (by kernel_rfl) ⟨?_, fun w' hSw => ?_, ?_⟩; rotate_left; (· go_simp; try with_reducible rfl); simp only [Act.put, setIfInBounds_toArray, getElem_toArray, getElem_cons_succ, getElem_cons_zero, set_cons_succ, set_cons_zero])
    (refine HoistK.yes (by rfl) (by kernel_rfl) ⟨?_, fun w' hSw => ?_, ?_⟩; rotate_left; (· obtain ⟨s0, s1, s2, s3, s4⟩ := HF.out _ hSw; go_simp; try with_reducible rfl); simp only [Act.put, setIfInBounds_toArray, getElem_toArray, getElem_cons_succ, getElem_cons_zero, set_cons_succ, set_cons_zero])
    iterate 2 (refine HoistK.yes (by rfl) (by kernel_rfl) ⟨?_, fun w' hSw => ?_, ?_⟩; rotate_left; (· go_simp; try with_reducible rfl); simp only [Act.put, setIfInBounds_toArray, getElem_toArray, getElem_cons_succ, getElem_cons_zero, set_cons_succ, set_cons_zero])
    (refine HoistK.yes (by rfl) (by kernel_rfl) ⟨?_, fun w' hSw => ?_, ?_⟩; rotate_left; (· obtain ⟨s0, s1, s2, s3, s4⟩ := HF.out _ hSw; go_simp; try with_reducible rfl); simp only [Act.put, setIfInBounds_toArray, getElem_toArray, getElem_cons_succ, getElem_cons_zero, set_cons_succ, set_cons_zero])
    refine HoistK.nil_ ?_
    simp only [opsAt, filterMap_cons, filterMap_nil, getElem?_toArray, getElem?_cons_succ, getElem?_cons_zero]
    have g0 : Got wB.drew wB.drew [] [] := Got.start (Below.refl _ _)
    refine Effects.cons_ fun _ hQ1 => ?_
    go_wp2_with fail
    refine (rCommit_any _ (Sh.rep_below R0.out (hbw.trans (g0.1.mono hbw.size))) (by have h1 := HLL.out; rw [joinB_length] at h1; have h2 := joinP_mem (l := [tCommit.enc x0, x1, x2, truthB false, x4]) (x := tCommit.enc x0) (by simp); omega)).mono ?_
    rintro e u1 ⟨v1, rfl, f1⟩
    have g1 := g0.step f1
    have hb1 := hb0.below f1.2 hb0.lt
    clear f1
    go_wp2_with fail
    refine hQ1 _ _ hb1 (Effects.nil_ fun _ hQ2 => ?_)
    clear hQ1 hb0 g0
    have g2 := g1.old D1.out
    clear g1
    have g3 := g2.old (R2.out.below hbw)
    clear g2
    have g4 := g3.old HB3.out
    clear g3
    have g5 := g4.old (R4.out.below hbw)
    clear g4
    have hcs : ∀ v ∈ [v1, (.slice (some ⟨w.heap.size, 38, none⟩) 32 32), y2, (.slice (some ⟨w.heap.size + 1, 0, none⟩) 1 1), y4], v.cells = #[v] := fun v hv => by
      obtain ⟨i, hi, rfl⟩ := List.getElem_of_mem hv
      obtain ⟨y, _, hr⟩ := g5.2.get i hi
      obtain ⟨A, c, e⟩ := hr.form
      have e' : [v1, (.slice (some ⟨w.heap.size, 38, none⟩) 32 32), y2, (.slice (some ⟨w.heap.size + 1, 0, none⟩) 1 1), y4][i] = .slice A y.length c := e
      rw [e']; rfl
    refine wpList_rows rfl 5 _ rfl [v1, (.slice (some ⟨w.heap.size, 38, none⟩) 32 32), y2, (.slice (some ⟨w.heap.size + 1, 0, none⟩) 1 1), y4] rfl (by decide) (by decide) hcs (by simp [Act.eval]) ?_
    have hr : Bsr (u1.alloc (.cells [v1, (.slice (some ⟨w.heap.size, 38, none⟩) 32 32), y2, (.slice (some ⟨w.heap.size + 1, 0, none⟩) 1 1), y4].toArray 77)) (fun b => b < u1.heap.size + 1) (.slice (some ⟨u1.heap.size, 0, none⟩) 5 5) [tCommit.enc x0, x1, x2, truthB false, x4] := g5.row (by simp [maxLen]) 77
    have hj := rJoin_any _ hr (by have := HLL.out; omega) (fun b hb => by simpa using hb)
    have hbb : Below w.heap.size w (u1.alloc (.cells [v1, (.slice (some ⟨w.heap.size, 38, none⟩) 32 32), y2, (.slice (some ⟨w.heap.size + 1, 0, none⟩) 1 1), y4].toArray 77)) := (hbw.trans (g5.1.mono hbw.size)).alloc (hbw.trans (g5.1.mono hbw.size)).size _
    have HJ := Lib.hid hj
    have HBB := Lib.hid hbb
    clear hj hbb hr g5 hcs
    go_wp2_with fail
    refine HJ.out.mono ?_
    rintro e uz ⟨vz, rfl, fz⟩
    go_wp2_with fail
    go_ret
    exact ⟨vz, rfl, fz.1.sub fun b hb _ => ⟨Nat.le_trans HBB.out.size hb.1, hb.2⟩, HBB.out.trans (fz.2.mono HBB.out.size)⟩
  · go_wp2_with fail
    have hbw2 : Below w.heap.size w ((w.alloc (.cells C.toArray 92)).alloc (.cells #[.int .u8 1] 5)) := HBE.out.alloc (by simp) _
    have HB3 := Lib.hid (show Bs ((w.alloc (.cells C.toArray 92)).alloc (.cells #[.int .u8 1] 5)).drew (fun b => b = w.heap.size + 1) (.slice (some ⟨w.heap.size + 1, 0, none⟩) 1 1) (truthB true) from HN2.out 1)
    have hbox2 : Blk ((w.alloc (.cells C.toArray 92)).alloc (.cells #[.int .u8 1] 5)) w.heap.size 92 C.toArray := HBX.out.alloc _
    obtain ⟨wB, hwB⟩ : ∃ wB, wB = (w.alloc (.cells C.toArray 92)).alloc (.cells #[.int .u8 1] 5) := ⟨_, rfl⟩
    rw [← hwB] at hbw2 HB3 hbox2 ⊢
    have HWB := Lib.hid hwB; clear hwB
    have hsz := hbox2.lt
    have hb0 : Blk wB.drew w.heap.size 92 C.toArray := hbox2.drew
    have hbw : Below w.heap.size w wB.drew := (hbw2).drew
    have D1 := Lib.hid (Bs.of_range32 (S := fun b => b = w.heap.size) rfl hb0.lt ((HF.out _ hb0).2.1) L1.out)
    refine wp_region_hoist [0, 1, 3, 4, 5, 6, 7, 8, 9] [2] [10, 11, 12] (fun w' => Blk w' w.heap.size 92 C.toArray)
      (by kernel_rfl) (by kernel_rfl) (by kernel_rfl) (by kernel_rfl) (by kernel_rfl) (by kernel_rfl) hb0 ?_
    (refine HoistK.yes (by rfl) (by kernel_rfl) ⟨?_, fun w' hSw => ?_, ?_⟩; rotate_left; (· go_simp; try with_reducible rfl); simp only [Act.put, setIfInBounds_toArray, getElem_toArray, getElem_cons_zero, set_cons_succ, set_cons_zero])
    (refine HoistK.load (by rfl) (by kernel_rfl) 90 _ rfl w.heap.size 0 rfl (y0) _ (fun w' hw => (HF.out w' hw).1) Tryz.underlying90 rfl (by rw [L0.out]; kernel_rfl) ?_; simp only [Act.put, setIfInBounds_toArray, getElem_toArray, getElem_cons_succ, getElem_cons_zero, set_cons_succ, set_cons_zero])
    iterate 3 (refine HoistK.yes (by rfl) (by kernel_rfl) ⟨?_, fun w' hSw => ?_, ?_⟩; rotate_left; (· go_simp; try with_reducible rfl); simp only [Act.put, setIfInBounds_toArray, getElem_toArray, getElem_cons_succ, getElem_cons_zero, set_cons_succ, set_cons_zero])
    (refine HoistK.yes (by rfl) (by kernel_rfl) ⟨?_, fun w' hSw => ?_, ?_⟩; rotate_left; (· obtain ⟨s0, s1, s2, s3, s4⟩ := HF.out _ hSw; go_simp; try with_reducible rfl); simp only [Act.put, setIfInBounds_toArray, getElem_toArray, getElem_cons_succ, getElem_cons_zero, set_cons_succ, set_cons_zero])
    iterate 2 (refine HoistK.yes (by rfl) (by kernel_rfl) ⟨?_, fun w' hSw => ?_, ?_⟩; rotate_left; (· go_simp; try with_reducible rfl); simp only [Act.put, setIfInBounds_toArray, getElem_toArray, getElem_cons_succ, getElem_cons_zero, set_cons_succ, set_cons_zero])
    (refine HoistK.yes (by rfl) (by kernel_rfl) ⟨?_, fun w' hSw => ?_, ?_⟩; rotate_left; (· obtain ⟨s0, s1, s2, s3, s4⟩ := HF.out _ hSw; go_simp; try with_reducible rfl); simp only [Act.put, setIfInBounds_toArray, getElem_toArray, getElem_cons_succ, getElem_cons_zero, set_cons_succ, set_cons_zero])
    refine HoistK.nil_ ?_
    simp only [opsAt, filterMap_cons, filterMap_nil, getElem?_toArray, getElem?_cons_succ, getElem?_cons_zero]
    have g0 : Got wB.drew wB.drew [] [] := Got.start (Below.refl _ _)
    refine Effects.cons_ fun _ hQ1 => ?_
    go_wp2_with fail
    refine (rCommit_any _ (Sh.rep_below R0.out (hbw.trans (g0.1.mono hbw.size))) (by have h1 := HLL.out; rw [joinB_length] at h1; have h2 := joinP_mem (l := [tCommit.enc x0, x1, x2, truthB true, x4]) (x := tCommit.enc x0) (by simp); omega)).mono ?_
    rintro e u1 ⟨v1, rfl, f1⟩
    have g1 := g0.step f1
    have hb1 := hb0.below f1.2 hb0.lt
    clear f1
    go_wp2_with fail
    refine hQ1 _ _ hb1 (Effects.nil_ fun _ hQ2 => ?_)
    clear hQ1 hb0 g0
    have g2 := g1.old D1.out
    clear g1
    have g3 := g2.old (R2.out.below hbw)
    clear g2
    have g4 := g3.old HB3.out
    clear g3
    have g5 := g4.old (R4.out.below hbw)
    clear g4
    have hcs : ∀ v ∈ [v1, (.slice (some ⟨w.heap.size, 38, none⟩) 32 32), y2, (.slice (some ⟨w.heap.size + 1, 0, none⟩) 1 1), y4], v.cells = #[v] := fun v hv => by
      obtain ⟨i, hi, rfl⟩ := List.getElem_of_mem hv
      obtain ⟨y, _, hr⟩ := g5.2.get i hi
      obtain ⟨A, c, e⟩ := hr.form
      have e' : [v1, (.slice (some ⟨w.heap.size, 38, none⟩) 32 32), y2, (.slice (some ⟨w.heap.size + 1, 0, none⟩) 1 1), y4][i] = .slice A y.length c := e
      rw [e']; rfl
    refine wpList_rows rfl 5 _ rfl [v1, (.slice (some ⟨w.heap.size, 38, none⟩) 32 32), y2, (.slice (some ⟨w.heap.size + 1, 0, none⟩) 1 1), y4] rfl (by decide) (by decide) hcs (by simp [Act.eval]) ?_
    have hr : Bsr (u1.alloc (.cells [v1, (.slice (some ⟨w.heap.size, 38, none⟩) 32 32), y2, (.slice (some ⟨w.heap.size + 1, 0, none⟩) 1 1), y4].toArray 77)) (fun b => b < u1.heap.size + 1) (.slice (some ⟨u1.heap.size, 0, none⟩) 5 5) [tCommit.enc x0, x1, x2, truthB true, x4] := g5.row (by simp [maxLen]) 77
    have hj := rJoin_any _ hr (by have := HLL.out; omega) (fun b hb => by simpa using hb)
    have hbb : Below w.heap.size w (u1.alloc (.cells [v1, (.slice (some ⟨w.heap.size, 38, none⟩) 32 32), y2, (.slice (some ⟨w.heap.size + 1, 0, none⟩) 1 1), y4].toArray 77)) := (hbw.trans (g5.1.mono hbw.size)).alloc (hbw.trans (g5.1.mono hbw.size)).size _
    have HJ := Lib.hid hj
    have HBB := Lib.hid hbb
    clear hj hbb hr g5 hcs
    go_wp2_with fail
    refine HJ.out.mono ?_
    rintro e uz ⟨vz, rfl, fz⟩
    go_wp2_with fail
    go_ret
    exact ⟨vz, rfl, fz.1.sub fun b hb _ => ⟨Nat.le_trans HBB.out.size hb.1, hb.2⟩, HBB.out.trans (fz.2.mono HBB.out.size)⟩
end
section
open Go.RowKit Go.Maps
attribute [-simp] Tryz.isAgg37 Tryz.typeInfo37 Tryz.isAgg92 Tryz.typeInfo92
set_option maxHeartbeats 8000000 in
set_option maxRecDepth 100000 in
theorem rTx_any (w : World) {S : Nat → Prop} {x : tTx.El} {cs : List Value} (h : tTx.rep w S x cs) (hl : (tTx.enc x).length ≤ 1099511627776) :
    Calls Tryz.prog 34 #[.agg cs.toArray] w fun e w' => ∃ v', e = .returned v' ∧ Fresh w w' v' (tTx.enc x) := by
  obtain ⟨x0, x1, x2, x3, x4, x5, x6, x7, x8, x9, _⟩ := x
  obtain ⟨c0, _, rfl, ⟨rfl, _⟩, c1, _, rfl, ⟨rfl, q1⟩, c2, _, rfl, ⟨rfl, q2⟩, c3, _, rfl, ⟨rfl, q3⟩, c4, _, rfl, ⟨rfl, q4⟩, c5, _, rfl, ⟨rfl, _⟩, c6, _, rfl, ⟨rfl, _⟩, c7, _, rfl, ⟨rfl, l7⟩, c8, _, rfl, ⟨rfl, _⟩, c9, _, rfl, r9, rfl⟩ := h
  obtain ⟨y9, rfl⟩ : ∃ y, c9 = [y] := by obtain ⟨v, _, e, _⟩ := r9; exact ⟨v, e⟩
  obtain ⟨A9, cap9, rfl, hlen9, _⟩ := list_at r9
  have Q1 := Lib.hid q1; clear q1
  have Q2 := Lib.hid q2; clear q2
  have Q3 := Lib.hid q3; clear q3
  have Q4 := Lib.hid q4; clear q4
  have R9 := Lib.hid r9; clear r9
  simp only [nk_t, nk_f]
  obtain ⟨C, hC⟩ : ∃ C, C = [Value.int .i64 x0] ++ ([Value.int .u64 x1] ++ ([Value.int .u64 x2] ++ ([Value.int .u64 x3] ++ ([Value.int .u64 x4] ++ ([Value.int .i64 x5] ++ ([Value.int .i64 x6] ++ (u8s x7 ++ ([Value.int .i64 x8] ++ ([Value.slice A9 (List.length (α := (tFact).El) x9) cap9] ++ ([])))))))))) := ⟨_, rfl⟩
  rw [← hC]
  have hf : ∀ w', Blk w' w.heap.size 40 C.toArray → w'.cell? ⟨w.heap.size, 0, none⟩ = some (.int .i64 x0) ∧ w'.cell? ⟨w.heap.size, 1, none⟩ = some (.int .u64 x1) ∧ w'.cell? ⟨w.heap.size, 2, none⟩ = some (.int .u64 x2) ∧ w'.cell? ⟨w.heap.size, 3, none⟩ = some (.int .u64 x3) ∧ w'.cell? ⟨w.heap.size, 4, none⟩ = some (.int .u64 x4) ∧ w'.cell? ⟨w.heap.size, 5, none⟩ = some (.int .i64 x5) ∧ w'.cell? ⟨w.heap.size, 6, none⟩ = some (.int .i64 x6) ∧ w'.rangeAt w.heap.size 7 (u8s x7) ∧ w'.cell? ⟨w.heap.size, 39, none⟩ = some (.int .i64 x8) ∧ w'.cell? ⟨w.heap.size, 40, none⟩ = some (.slice A9 (List.length (α := (tFact).El) x9) cap9) := fun w' hb => by
    have := hb.lies [[Value.int .i64 x0], [Value.int .u64 x1], [Value.int .u64 x2], [Value.int .u64 x3], [Value.int .u64 x4], [Value.int .i64 x5], [Value.int .i64 x6], u8s x7, [Value.int .i64 x8], [Value.slice A9 (List.length (α := (tFact).El) x9) cap9]] [] (by rw [hC]; simp)
    simp only [Lies, u8s_length, l7, List.length_cons, List.length_nil] at this
    obtain ⟨s0, s1, s2, s3, s4, s5, s6, s7, s8, s9, _⟩ := this
    exact ⟨Lies.one s0, Lies.one s1, Lies.one s2, Lies.one s3, Lies.one s4, Lies.one s5, Lies.one s6, s7, Lies.one s8, Lies.one s9⟩
  have HF := Lib.hid hf
  clear hf hC
  have L7 := Lib.hid l7; clear l7
  have hl' : (joinB [numB x0, numB x1, numB x2, numB x3, numB x4, numB x5, numB x6, x7, numB x8, (Sh.list tFact).enc x9]).length ≤ 1099511627776 := hl
  have HLL := Lib.hid hl'
  clear hl hl'
  have HE9 := Lib.hid (show ((Sh.list tFact).enc x9).length ≤ 1099511627776 from (by have h1 := HLL.out; rw [joinB_length] at h1; have h2 := joinP_mem (l := [numB x0, numB x1, numB x2, numB x3, numB x4, numB x5, numB x6, x7, numB x8, (Sh.list tFact).enc x9]) (x := (Sh.list tFact).enc x9) (by simp); omega))
  have hcn9 : (List.length (α := (tFact).El) x9) ≤ 137438953472 := by
    have h1 := HE9.out
    have h2 := joinP_count (List.map (tFact).enc x9)
    have h3 : ((Sh.list tFact).enc x9).length = 8 + (joinP (List.map (tFact).enc x9)).length := joinB_length _
    rw [List.length_map] at h2
    omega
  have HEJ9 := Lib.hid (show (joinB (List.map (tFact).enc x9)).length ≤ 140737488355328 from by
    have h1 := HE9.out
    have h3 : ((Sh.list tFact).enc x9).length = 8 + (joinP (List.map (tFact).enc x9)).length := joinB_length _
    rw [joinB_length]
    omega)
  go_enter Tryz.func34, Tryz.ntmps34
  go_wp2_with fail
  have hbe := (Below.refl w.heap.size w).alloc (Nat.le_refl _) (.cells C.toArray 40)
  have hal0 : Below (w.heap.size + 1) (w.alloc (.cells C.toArray 40)) ((w.alloc (.cells C.toArray 40)).alloc (.cells #[] 77)) := (Below.refl _ _).alloc (by simp) _
  have hMb : w.heap.size < w.heap.size + 1 := by omega
  go_loopw [3, 4] (fun o i wr => ∃ k : Nat, k ≤ (List.length (α := (tFact).El) x9) ∧ i = .int .i64 k ∧ Bss wr (fun b => (w.heap.size + 1) ≤ b) (fun b => (w.heap.size + 1) ≤ b) o ((List.take k x9).map (tFact).enc) ∧ Below w.heap.size w wr ∧ (w.heap.size + 1) ≤ wr.heap.size ∧ Blk wr w.heap.size 40 C.toArray) (fun _ i _ => (List.length (α := (tFact).El) x9) - (intOf i).toNat)
  case atStart => exact ⟨0, Nat.zero_le _, rfl, Bss.empty1 w _, hbe.alloc (by simp) _, by simp, ((Blk.new w _ _).alloc _)⟩
  case round =>
    obtain ⟨k, hk, rfl, hB, hbl, hMz, hbox⟩ := hrel
    by_cases hlt : k < (List.length (α := (tFact).El) x9)
    · obtain ⟨R, hR⟩ : ∃ R, R = (List.take k x9).map (tFact).enc := ⟨_, rfl⟩
      rw [← hR] at hB
      have hRl : R.length = k := by rw [hR, List.length_map, List.length_take]; omega
      have hnext : (List.take (k + 1) x9).map (tFact).enc = R ++ [(tFact).enc (x9[k]'hlt)] := by rw [List.take_succ_eq_append_getElem hlt, List.map_append, ← hR]; rfl
      obtain ⟨Aa, ca, rfl⟩ := hB.form
      obtain ⟨_, _, e, _, hat⟩ := list_at (Sh.rep_below R9.out hbl)
      injection e with e1 e2 e3
      subst e1 e3
      obtain ⟨b, off, c, rfl, hca, hr, hcl, hblt, _⟩ := hat k hlt
      obtain ⟨x, hx⟩ : ∃ x, x = x9[k]'hlt := ⟨_, rfl⟩
      rw [← hx] at hr hnext
      have hsm2 : ((tFact).enc x).length ≤ 1099511627776 := by
        have h1 := joinP_mem (List.mem_map.2 ⟨x9[k]'hlt, List.getElem_mem hlt, rfl⟩ : (tFact).enc (x9[k]'hlt) ∈ List.map (tFact).enc x9)
        have h2 := HE9.out
        have h3 : ((Sh.list tFact).enc x9).length = 8 + (joinP (List.map (tFact).enc x9)).length := joinB_length _
        rw [hx]; omega
      have hinfo : (Tryz.prog.info? 92).map (·.size) = some c.length := by rw [hcl]; kernel_rfl
      have HCA := Lib.hid (show wr.rangeAt b (off + k * 73) c from hca)
      have HI := Lib.hid hinfo
      clear hinfo
      have HREP := Lib.hid hr
      have HSM := Lib.hid hsm2
      clear hr hsm2
      have hown : ∀ k, (Value.slice Aa R.length ca).ownBlock = some k → k < wr.heap.size := fun k hk => by obtain ⟨vs, ho, _⟩ := hB; exact own_lt ho hk
      have hbc := (HF.out wr hbox).2.2.2.2.2.2.2.2.2
      have HB := Lib.hid hB
      have HN := Lib.hid hnext
      have HRL := Lib.hid hRl
      have HOWN := Lib.hid hown
      have HBOX := Lib.hid hbox
      clear hB hca hcl hat hx hR hnext hRl hown hbox
      go_wp2_with (refine wpList_load_mid rfl 92 _ rfl b (off + k * 73) rfl c _ HCA.out Tryz.underlying92 rfl HI.out ?_)
      refine (rFact_any _ HREP.out HSM.out).mono ?_
      rintro e w1 ⟨v1, rfl, f1⟩
      have hb1 := hbl.trans (f1.2.mono hbl.size)
      obtain ⟨y, hy⟩ : ∃ y, y = (tFact).enc x := ⟨_, rfl⟩
      have f1 : Fresh wr w1 v1 y := hy ▸ f1
      rw [← hy] at HN
      obtain ⟨A1, c1, rfl⟩ := f1.1.form
      obtain ⟨vs, ho, hS, hr⟩ := HB.out.below f1.2
      have hsz1 := f1.2.size
      have hal : Below w1.heap.size w1 (w1.alloc (.cells #[.slice A1 y.length c1] 77)) := (Below.refl _ w1).alloc (Nat.le_refl _) _
      have HAL := Lib.hid hal
      have HO := Lib.hid (show Own (w1.alloc (.cells #[.slice A1 y.length c1] 77)) _ _ _ _ _ from own_keep ho fun k hk => hal.block k (own_lt ho hk))
      have HS := Lib.hid hS
      have HR := Lib.hid (fun i x u h1 h2 => (hr i x u h1 h2).below hal)
      have HU := Lib.hid ((f1.1.1.below hal).sub (T := fun b => (w.heap.size + 1) ≤ b ∧ (Value.slice Aa R.length ca).ownBlock ≠ some b) fun b hb _ => ⟨Nat.le_trans hMz hb.1, fun e => by have := HOWN.out b e; omega⟩)
      have HS2 := Lib.hid (Cs.of_new w1 77 (size := 1) 1 (cs := [.slice A1 y.length c1]) rfl (by simp only [maxLen]; decide))
      have H63 := Lib.hid (show R.length + 1 ≤ maxLen ∧ (R.length + 1) * 24 ≤ 140737488355328 from by have := HRL.out; refine ⟨by simp only [maxLen]; omega, by omega⟩)
      have HF2 := Lib.hid f1.2
      clear ho hS hr hal f1 hy
      go_wp2_with (at_builtin; refine wpList_app _ rfl _ _ _ rfl Tryz.underlying107 info_row rfl (by decide) HO.out rfl HS2.out rfl (by simp [Value.oneCell']) H63.out.1 H63.out.2 ?_; intro v3 w3 ho3 hg3 hnil3 hat3; clear hnil3; have HO3 := Lib.hid ho3; clear ho3; have HG3 := Lib.hid hg3; clear hg3; have HAT3 := Lib.hid hat3; clear hat3)
      have hzz := HAL.out.size
      have hz3 := HG3.out.size
      have hpush := Bss.push HO.out HS.out HR.out HU.out HO3.out HG3.out HAT3.out (by have := hb1.size; omega)
      rw [← HN.out] at hpush
      have hbA : Below w.heap.size w (w1.alloc (.cells #[.slice A1 y.length c1] 77)) := hb1.trans (HAL.out.mono hb1.size)
      have hbw3 := HF2.out.trans (HAL.out.mono hsz1)
      refine ⟨⟨k + 1, by omega, by push_cast; rfl, hpush, hbA.trans (HG3.out.below hbA.size fun b h => by have h1 := HS.out b h; have h2 := HBOX.out.lt; omega), by omega, (HBOX.out.below hbw3 HBOX.out.lt).chg HG3.out fun h => by have h1 := HS.out _ h; have h2 := hMb; omega⟩, ?_⟩
      simp only [intOf]
      omega
    · have hk' : k = (List.length (α := (tFact).El) x9) := by omega
      rw [hk', List.take_length] at hB
      have hsm : ∀ x ∈ List.map (tFact).enc x9, x.length ≤ 140737488355328 := fun x hx => by
        have h1 := joinP_mem hx
        have h2 := HE9.out
        have h3 : ((Sh.list tFact).enc x9).length = 8 + (joinP (List.map (tFact).enc x9)).length := joinB_length _
        omega
      have hEJ9 := HEJ9.out
      obtain ⟨R9m, hR9m⟩ : ∃ R, R = List.map (tFact).enc x9 := ⟨_, rfl⟩
      rw [← hR9m] at hB hsm hEJ9
      have HRm9 := Lib.hid hR9m
      have HEK9 := Lib.hid hEJ9
      clear hR9m hEJ9
      have V9 := Lib.hid (((hB.read hsm).lt_ (T := fun _ => True) fun _ _ => trivial).subs (T := fun b => b < wr.heap.size) fun b hb _ => hb.2)
      obtain ⟨Ao9, co9, rfl⟩ := hB.form
      have hbc9 := (HF.out wr hbox).2.2.2.2.2.2.2.2.2
      clear hB hsm
      obtain ⟨w_9, hw_9⟩ : ∃ w', w' = wr := ⟨_, rfl⟩
      subst hw_9
      have HBX9 := Lib.hid hbox; have hmb9 := hbox.lt; clear hbox
      go_wp2_with fail
      clear hlt hk hk'
      have hsz := HBX9.out.lt
      have hb0 : Blk w_9.drew w.heap.size 40 C.toArray := HBX9.out.drew
      have hbw : Below w.heap.size w w_9.drew := (hbl).drew
      have D7 := Lib.hid (Bs.of_range32 (S := fun b => b = w.heap.size) rfl hb0.lt ((HF.out _ hb0).2.2.2.2.2.2.2.1) L7.out)
      refine wp_region_hoist [0, 1, 2, 4, 5, 7, 8, 10, 11, 13, 14, 16, 17, 18, 20, 21, 22, 24, 25, 26, 27, 28, 30] [3, 6, 9, 12, 15, 19, 23, 29, 31] [32, 33, 34] (fun w' => Blk w' w.heap.size 40 C.toArray)
        (by kernel_rfl) (by kernel_rfl) (by kernel_rfl) (by kernel_rfl) (by kernel_rfl) (by kernel_rfl) hb0 ?_
      (refine HoistK.yes (by rfl) (by kernel_rfl) ⟨?_, fun w' hSw => ?_, ?_⟩; rotate_left; (· go_simp; try with_reducible rfl); simp only [Act.put, setIfInBounds_toArray, getElem_toArray, getElem_cons_zero, set_cons_succ, set_cons_zero])
      (refine HoistK.yes (by rfl) (by kernel_rfl) ⟨?_, fun w' hSw => ?_, ?_⟩; rotate_left; (· obtain ⟨s0, s1, s2, s3, s4, s5, s6, s7, s8, s9⟩ := HF.out _ hSw; go_simp; try with_reducible rfl); simp only [Act.put, setIfInBounds_toArray, getElem_toArray, getElem_cons_succ, getElem_cons_zero, set_cons_succ, set_cons_zero])
      iterate 2 (refine HoistK.yes (by rfl) (by kernel_rfl) ⟨?_, fun w' hSw => ?_, ?_⟩; rotate_left; (· go_simp; try with_reducible rfl); simp only [Act.put, setIfInBounds_toArray, getElem_toArray, getElem_cons_succ, getElem_cons_zero, set_cons_succ, set_cons_zero])
      (refine HoistK.yes (by rfl) (by kernel_rfl) ⟨?_, fun w' hSw => ?_, ?_⟩; rotate_left; (· obtain ⟨s0, s1, s2, s3, s4, s5, s6, s7, s8, s9⟩ := HF.out _ hSw; go_simp; try with_reducible rfl); simp only [Act.put, setIfInBounds_toArray, getElem_toArray, getElem_cons_succ, getElem_cons_zero, set_cons_succ, set_cons_zero])
      (refine HoistK.yes (by rfl) (by kernel_rfl) ⟨?_, fun w' hSw => ?_, ?_⟩; rotate_left; (· go_simp; try with_reducible rfl); simp only [Act.put, setIfInBounds_toArray, getElem_toArray, getElem_cons_succ, getElem_cons_zero, set_cons_succ, set_cons_zero])
      (refine HoistK.yes (by rfl) (by kernel_rfl) ⟨?_, fun w' hSw => ?_, ?_⟩; rotate_left; (· obtain ⟨s0, s1, s2, s3, s4, s5, s6, s7, s8, s9⟩ := HF.out _ hSw; go_simp; try with_reducible rfl); simp only [Act.put, setIfInBounds_toArray, getElem_toArray, getElem_cons_succ, getElem_cons_zero, set_cons_succ, set_cons_zero])
      (refine HoistK.yes (by rfl) (by kernel_rfl) ⟨?_, fun w' hSw => ?_, ?_⟩; rotate_left; (· go_simp; try with_reducible rfl); simp only [Act.put, setIfInBounds_toArray, getElem_toArray, getElem_cons_succ, getElem_cons_zero, set_cons_succ, set_cons_zero])
      (refine HoistK.yes (by rfl) (by kernel_rfl) ⟨?_, fun w' hSw => ?_, ?_⟩; rotate_left; (· obtain ⟨s0, s1, s2, s3, s4, s5, s6, s7, s8, s9⟩ := HF.out _ hSw; go_simp; try with_reducible rfl); simp only [Act.put, setIfInBounds_toArray, getElem_toArray, getElem_cons_succ, getElem_cons_zero, set_cons_succ, set_cons_zero])
      (refine HoistK.yes (by rfl) (by kernel_rfl) ⟨?_, fun w' hSw => ?_, ?_⟩; rotate_left; (· go_simp; try with_reducible rfl); simp only [Act.put, setIfInBounds_toArray, getElem_toArray, getElem_cons_succ, getElem_cons_zero, set_cons_succ, set_cons_zero])
      (refine HoistK.yes (by rfl) (by kernel_rfl) ⟨?_, fun w' hSw => ?_, ?_⟩; rotate_left; (· obtain ⟨s0, s1, s2, s3, s4, s5, s6, s7, s8, s9⟩ := HF.out _ hSw; go_simp; try with_reducible rfl); simp only [Act.put, setIfInBounds_toArray, getElem_toArray, getElem_cons_succ, getElem_cons_zero, set_cons_succ, set_cons_zero])
      (refine HoistK.yes (by rfl) (by kernel_rfl) ⟨?_, fun w' hSw => ?_, ?_⟩; rotate_left; (· go_simp; try with_reducible rfl); simp only [Act.put, setIfInBounds_toArray, getElem_toArray, getElem_cons_succ, getElem_cons_zero, set_cons_succ, set_cons_zero])
      (refine HoistK.yes (by rfl) (by kernel_rfl) ⟨?_, fun w' hSw => ?_, ?_⟩; rotate_left; (· obtain ⟨s0, s1, s2, s3, s4, s5, s6, s7, s8, s9⟩ := HF.out _ hSw; go_simp; try with_reducible rfl); simp only [Act.put, setIfInBounds_toArray, getElem_toArray, getElem_cons_succ, getElem_cons_zero, set_cons_succ, set_cons_zero])
      iterate 2 (refine HoistK.yes (by rfl) (by kernel_rfl) ⟨?_, fun w' hSw => ?_, ?_⟩; rotate_left; (· go_simp; try with_reducible rfl); simp only [Act.put, setIfInBounds_toArray, getElem_toArray, getElem_cons_succ, getElem_cons_zero, set_cons_succ, set_cons_zero])
      (refine HoistK.yes (by rfl) (by kernel_rfl) ⟨?_, fun w' hSw => ?_, ?_⟩; rotate_left; (· obtain ⟨s0, s1, s2, s3, s4, s5, s6, s7, s8, s9⟩ := HF.out _ hSw; go_simp; try with_reducible rfl); simp only [Act.put, setIfInBounds_toArray, getElem_toArray, getElem_cons_succ, getElem_cons_zero, set_cons_succ, set_cons_zero])
      iterate 4 (refine HoistK.yes (by rfl) (by kernel_rfl) ⟨?_, fun w' hSw => ?_, ?_⟩; rotate_left; (· go_simp; try with_reducible rfl); simp only [Act.put, setIfInBounds_toArray, getElem_toArray, getElem_cons_succ, getElem_cons_zero, set_cons_succ, set_cons_zero])
      (refine HoistK.yes (by rfl) (by kernel_rfl) ⟨?_, fun w' hSw => ?_, ?_⟩; rotate_left; (· obtain ⟨s0, s1, s2, s3, s4, s5, s6, s7, s8, s9⟩ := HF.out _ hSw; go_simp; try with_reducible rfl); simp only [Act.put, setIfInBounds_toArray, getElem_toArray, getElem_cons_succ, getElem_cons_zero, set_cons_succ, set_cons_zero])
      iterate 2 (refine HoistK.yes (by rfl) (by kernel_rfl) ⟨?_, fun w' hSw => ?_, ?_⟩; rotate_left; (· go_simp; try with_reducible rfl); simp only [Act.put, setIfInBounds_toArray, getElem_toArray, getElem_cons_succ, getElem_cons_zero, set_cons_succ, set_cons_zero])
      refine HoistK.nil_ ?_
      simp only [opsAt, filterMap_cons, filterMap_nil, getElem?_toArray, getElem?_cons_succ, getElem?_cons_zero]
      have g0 : Got w_9.drew w_9.drew [] [] := Got.start (Below.refl _ _)
      refine Effects.cons_ fun _ hQ1 => ?_
      go_wp2_with fail
      refine (rNumI_any _ _).mono ?_
      rintro e u1 ⟨v1, rfl, f1⟩
      have g1 := g0.step f1
      have hb1 := hb0.below f1.2 hb0.lt
      clear f1
      go_wp2_with fail
      refine hQ1 _ _ hb1 (Effects.cons_ fun _ hQ2 => ?_)
      clear hQ1 hb0 g0
      go_wp2_with fail
      refine (rNumU_any _ _ Q1.out).mono ?_
      rintro e u2 ⟨v2, rfl, f2⟩
      have g2 := g1.step f2
      have hb2 := hb1.below f2.2 hb1.lt
      clear f2
      go_wp2_with fail
      refine hQ2 _ _ hb2 (Effects.cons_ fun _ hQ3 => ?_)
      clear hQ2 hb1 g1
      go_wp2_with fail
      refine (rNumU_any _ _ Q2.out).mono ?_
      rintro e u3 ⟨v3, rfl, f3⟩
      have g3 := g2.step f3
      have hb3 := hb2.below f3.2 hb2.lt
      clear f3
      go_wp2_with fail
      refine hQ3 _ _ hb3 (Effects.cons_ fun _ hQ4 => ?_)
      clear hQ3 hb2 g2
      go_wp2_with fail
      refine (rNumU_any _ _ Q3.out).mono ?_
      rintro e u4 ⟨v4, rfl, f4⟩
      have g4 := g3.step f4
      have hb4 := hb3.below f4.2 hb3.lt
      clear f4
      go_wp2_with fail
      refine hQ4 _ _ hb4 (Effects.cons_ fun _ hQ5 => ?_)
      clear hQ4 hb3 g3
      go_wp2_with fail
      refine (rNumU_any _ _ Q4.out).mono ?_
      rintro e u5 ⟨v5, rfl, f5⟩
      have g5 := g4.step f5
      have hb5 := hb4.below f5.2 hb4.lt
      clear f5
      go_wp2_with fail
      refine hQ5 _ _ hb5 (Effects.cons_ fun _ hQ6 => ?_)
      clear hQ5 hb4 g4
      go_wp2_with fail
      refine (rNumI_any _ _).mono ?_
      rintro e u6 ⟨v6, rfl, f6⟩
      have g6 := g5.step f6
      have hb6 := hb5.below f6.2 hb5.lt
      clear f6
      go_wp2_with fail
      refine hQ6 _ _ hb6 (Effects.cons_ fun _ hQ7 => ?_)
      clear hQ6 hb5 g5
      go_wp2_with fail
      refine (rNumI_any _ _).mono ?_
      rintro e u7 ⟨v7, rfl, f7⟩
      have g7 := g6.step f7
      have hb7 := hb6.below f7.2 hb6.lt
      clear f7
      go_wp2_with fail
      refine hQ7 _ _ hb7 (Effects.cons_ fun _ hQ8 => ?_)
      clear hQ7 hb6 g6
      have g8 := g7.old D7.out
      clear g7
      go_wp2_with fail
      refine (rNumI_any _ _).mono ?_
      rintro e u8 ⟨v9, rfl, f8⟩
      have g9 := g8.step f8
      have hb8 := hb7.below f8.2 hb7.lt
      clear f8
      go_wp2_with fail
      refine hQ8 _ _ hb8 (Effects.cons_ fun _ hQ9 => ?_)
      clear hQ8 hb7 g8
      go_wp2_with fail
      refine (rJoin_any _ (V9.out.drew_.below g9.1) HEK9.out (fun b hb => ltle hb g9.1.size)).mono ?_
      rintro e u9 ⟨v10, rfl, f9⟩
      rw [HRm9.out] at f9
      have f9 : Fresh _ _ _ ((Sh.list tFact).enc x9) := f9
      have g10 := g9.step f9
      have hb9 := hb8.below f9.2 hb8.lt
      clear f9
      go_wp2_with fail
      refine hQ9 _ _ hb9 (Effects.nil_ fun _ hQ10 => ?_)
      clear hQ9 hb8 g9
      have hcs : ∀ v ∈ [v1, v2, v3, v4, v5, v6, v7, (.slice (some ⟨w.heap.size, 7, none⟩) 32 32), v9, v10], v.cells = #[v] := fun v hv => by
        obtain ⟨i, hi, rfl⟩ := List.getElem_of_mem hv
        obtain ⟨y, _, hr⟩ := g10.2.get i hi
        obtain ⟨A, c, e⟩ := hr.form
        have e' : [v1, v2, v3, v4, v5, v6, v7, (.slice (some ⟨w.heap.size, 7, none⟩) 32 32), v9, v10][i] = .slice A y.length c := e
        rw [e']; rfl
      refine wpList_rows rfl 10 _ rfl [v1, v2, v3, v4, v5, v6, v7, (.slice (some ⟨w.heap.size, 7, none⟩) 32 32), v9, v10] rfl (by decide) (by decide) hcs (by simp [Act.eval]) ?_
      have hr : Bsr (u9.alloc (.cells [v1, v2, v3, v4, v5, v6, v7, (.slice (some ⟨w.heap.size, 7, none⟩) 32 32), v9, v10].toArray 77)) (fun b => b < u9.heap.size + 1) (.slice (some ⟨u9.heap.size, 0, none⟩) 10 10) [numB x0, numB x1, numB x2, numB x3, numB x4, numB x5, numB x6, x7, numB x8, (Sh.list tFact).enc x9] := g10.row (by simp [maxLen]) 77
      have hj := rJoin_any _ hr (by have := HLL.out; omega) (fun b hb => by simpa using hb)
      have hbb : Below w.heap.size w (u9.alloc (.cells [v1, v2, v3, v4, v5, v6, v7, (.slice (some ⟨w.heap.size, 7, none⟩) 32 32), v9, v10].toArray 77)) := (hbw.trans (g10.1.mono hbw.size)).alloc (hbw.trans (g10.1.mono hbw.size)).size _
      have HJ := Lib.hid hj
      have HBB := Lib.hid hbb
      clear hj hbb hr g10 hcs
      go_wp2_with fail
      refine HJ.out.mono ?_
      rintro e uz ⟨vz, rfl, fz⟩
      go_wp2_with fail
      go_ret
      exact ⟨vz, rfl, fz.1.sub fun b hb _ => ⟨Nat.le_trans HBB.out.size hb.1, hb.2⟩, HBB.out.trans (fz.2.mono HBB.out.size)⟩
end
section
open Go.RowKit Go.Maps
attribute [-simp] Tryz.isAgg34 Tryz.typeInfo34 Tryz.isAgg40 Tryz.typeInfo40 Tryz.isAgg37 Tryz.typeInfo37 Tryz.isAgg57 Tryz.typeInfo57
set_option maxRecDepth 100000 in
theorem rspends_any (w : World) {S : Nat → Prop} {x : TxE} {cs : List Value} (h : tTx.rep w S x cs) :
    Calls Tryz.prog 25 #[.agg cs.toArray] w fun e w' => e = .returned (.bool (spendsX x)) ∧ Below w.heap.size w w' := by
  obtain ⟨h0, _, _, _⟩ := tx_cells h
  have hal := (Below.refl w.heap.size w).alloc (Nat.le_refl _) (.cells cs.toArray 40)
  have hc := (Blk.new w 40 cs.toArray).cell 0
  rw [getElem?_toArray, h0] at hc
  obtain ⟨k, hk⟩ : ∃ k, k = kindX x := ⟨_, rfl⟩
  have hs : spendsX x = (decide (k = 1) || decide (k = 2)) := by rw [hk]; rfl
  rw [hs]
  rw [← hk] at hc
  have HAL := Lib.hid hal
  clear hal h h0 hk hs
  by_cases h1 : k = 1
  · subst h1
    go_enter Tryz.func25, Tryz.ntmps25
    go_wp2_with fail
    go_ret
    exact ⟨by simp, HAL.out⟩
  · go_enter Tryz.func25, Tryz.ntmps25
    go_wp2_with fail
    go_ret
    refine ⟨?_, HAL.out⟩
    simp [h1]
    by_cases h2 : k = 2 <;> simp [h1, h2]
def sameX (x y : TxE) : Bool := decide (tTx.enc x = tTx.enc y)
set_option maxHeartbeats 8000000 in
set_option maxRecDepth 100000 in
theorem rsame_any (w : World) {S T : Nat → Prop} {x y : TxE} {cs ds : List Value} (h : tTx.rep w S x cs) (h' : tTx.rep w T y ds) (hl : (tTx.enc x).length ≤ 1099511627776) (hl' : (tTx.enc y).length ≤ 1099511627776) :
    Calls Tryz.prog 26 #[.agg cs.toArray, .agg ds.toArray] w fun e w' => e = .returned (.bool (sameX x y)) ∧ Below w.heap.size w w' := by
  have hal := ((Below.refl w.heap.size w).alloc (Nat.le_refl _) (.cells cs.toArray 40)).alloc (by simp) (.cells ds.toArray 40)
  have hx := (Blk.new w 40 cs.toArray).alloc (.cells ds.toArray 40)
  have hy := Blk.new (w.alloc (.cells cs.toArray 40)) 40 ds.toArray
  rw [show (w.alloc (.cells cs.toArray 40)).heap.size = w.heap.size + 1 by simp] at hy
  obtain ⟨w1, hw1⟩ : ∃ w1, w1 = (w.alloc (.cells cs.toArray 40)).alloc (.cells ds.toArray 40) := ⟨_, rfl⟩
  rw [← hw1] at hal hx hy
  have HI := Lib.hid (tx_size (tx_cells h).2.2.2)
  have HJ := Lib.hid (tx_size (tx_cells h').2.2.2)
  have HR := Lib.hid (Sh.rep_below h hal)
  have HR' := Lib.hid (Sh.rep_below h' hal)
  have HL := Lib.hid hl
  have HL' := Lib.hid hl'
  have HAL := Lib.hid hal.drew
  have HW1 := Lib.hid hw1
  have hSS : Blk w1.drew w.heap.size 40 cs.toArray ∧ Blk w1.drew (w.heap.size + 1) 40 ds.toArray := ⟨hx.drew, hy.drew⟩
  clear h h' hl hl' hal hx hy hw1
  go_enter Tryz.func26, Tryz.ntmps26
  go_wp2_with fail
  rw [← HW1.out]
  refine wp_region_segsV [([0, 3], [1]), ([2], [4]), ([5, 6], [7])] (by kernel_rfl) (by kernel_rfl) (by kernel_rfl) (by kernel_rfl)
    (SegV.mk (fun w' => Blk w' w.heap.size 40 cs.toArray ∧ Blk w' (w.heap.size + 1) 40 ds.toArray) (fun _ _ => trivial) hSS ?_)
  (refine HoistK.load (by rfl) (by kernel_rfl) 40 _ rfl w.heap.size 0 rfl cs _ (fun w' hw => hw.1.range) Tryz.underlying40 rfl HI.out ?_; simp only [Act.put, setIfInBounds_toArray, getElem_toArray, getElem_cons_zero, set_cons_succ, set_cons_zero])
  (refine HoistK.load (by rfl) (by kernel_rfl) 40 _ rfl (w.heap.size + 1) 0 rfl ds _ (fun w' hw => hw.2.range) Tryz.underlying40 rfl HJ.out ?_; simp only [Act.put, setIfInBounds_toArray, getElem_toArray, getElem_cons_succ, getElem_cons_zero, set_cons_succ, set_cons_zero])
  refine HoistK.nil_ ?_
  simp only [opsAt, filterMap_cons, filterMap_nil, getElem?_toArray, getElem?_cons_succ, getElem?_cons_zero]
  refine EffS.cons_ fun _ hQ => ?_
  go_wp2_with fail
  refine (rTx_any w1.drew (Sh.rep_below HR.out ((Below.refl w1.heap.size w1).drew)) HL.out).mono ?_
  rintro e w2 ⟨v2, rfl, f2⟩
  obtain ⟨b1, hb1⟩ : ∃ b, b = tTx.enc x := ⟨_, rfl⟩
  rw [← hb1] at f2
  have HE1 := Lib.hid hb1
  have hs2 := run_str f2.1 Tryz.underlying77 Tryz.underlying5 Tryz.underlying9
  have hS2 : Blk w2 w.heap.size 40 cs.toArray ∧ Blk w2 (w.heap.size + 1) 40 ds.toArray := ⟨hSS.1.below f2.2 hSS.1.lt, hSS.2.below f2.2 hSS.2.lt⟩
  have hB2 := HAL.out.trans (f2.2.mono HAL.out.size)
  have hR2 := Sh.rep_below (Sh.rep_below HR'.out ((Below.refl w1.heap.size w1).drew)) f2.2
  have HF2 := Lib.hid f2.1
  clear hb1 f2 hSS
  go_wp2_with fail
  refine hQ _ _ hS2 (EffS.nil_ (SegV.mk (fun w' => Blk w' w.heap.size 40 cs.toArray ∧ Blk w' (w.heap.size + 1) 40 ds.toArray ∧ (convert 77 9 v2).run Tryz.prog w' = .ok (.string (str b1)) w') (fun _ h => ⟨h.1, h.2.1⟩) ⟨hS2.1, hS2.2, hs2⟩ ?_))
  clear hs2
  (refine HoistK.yes (by rfl) (by kernel_rfl) ⟨?_, fun w' hSw => ?_, ?_⟩; rotate_left; (· have hcv := hSw.2.2; go_simp; try with_reducible rfl); simp only [Act.put, setIfInBounds_toArray, getElem_toArray, getElem_cons_succ, getElem_cons_zero, set_cons_succ, set_cons_zero])
  refine HoistK.nil_ ?_
  simp only [opsAt, filterMap_cons, filterMap_nil, getElem?_toArray, getElem?_cons_succ, getElem?_cons_zero]
  refine EffS.cons_ fun _ hQ => ?_
  go_wp2_with fail
  refine (rTx_any w2 hR2 HL'.out).mono ?_
  rintro e w3 ⟨v3, rfl, f3⟩
  obtain ⟨b2, hb2⟩ : ∃ b, b = tTx.enc y := ⟨_, rfl⟩
  rw [← hb2] at f3
  have HE2 := Lib.hid hb2
  have hs23 := run_str (HF2.out.below f3.2) Tryz.underlying77 Tryz.underlying5 Tryz.underlying9
  have hs3 := run_str f3.1 Tryz.underlying77 Tryz.underlying5 Tryz.underlying9
  have hS3 : Blk w3 w.heap.size 40 cs.toArray ∧ Blk w3 (w.heap.size + 1) 40 ds.toArray := ⟨hS2.1.below f3.2 hS2.1.lt, hS2.2.below f3.2 hS2.2.lt⟩
  have HB3 := Lib.hid (hB2.trans (f3.2.mono hB2.size))
  clear hb2 f3 hS2 hB2 hR2
  go_wp2_with fail
  have hSX := And.intro hS3.1 (And.intro hS3.2 (And.intro hs23 hs3))
  refine hQ _ _ ⟨hS3.1, hS3.2, hs23⟩ (EffS.nil_ (SegV.mk (fun w' => Blk w' w.heap.size 40 cs.toArray ∧ Blk w' (w.heap.size + 1) 40 ds.toArray ∧ (convert 77 9 v2).run Tryz.prog w' = .ok (.string (str b1)) w' ∧ (convert 77 9 v3).run Tryz.prog w' = .ok (.string (str b2)) w') (fun _ h => ⟨h.1, h.2.1, h.2.2.1⟩) hSX ?_))
  clear hs3 hs23
  have HQ := Lib.hid (show sameX x y = decide (b1 = b2) by rw [HE1.out, HE2.out]; rfl)
  obtain ⟨q, hq⟩ : ∃ q, q = decide (b1 = b2) := ⟨_, rfl⟩
  have hcmp : ((str b1).toList == (str b2).toList) = q := by rw [hq, str_tl, str_tl]; by_cases e : b1 = b2 <;> simp [e]
  rw [← hq] at HQ
  clear hq
  (refine HoistK.yes (by rfl) (by kernel_rfl) ⟨?_, fun w' hSw => ?_, ?_⟩; rotate_left; (· have hcv := hSw.2.2.2; go_simp; try with_reducible rfl); simp only [Act.put, setIfInBounds_toArray, getElem_toArray, getElem_cons_succ, getElem_cons_zero, set_cons_succ, set_cons_zero])
  (refine HoistK.yes (by rfl) (by kernel_rfl) ⟨?_, fun w' hSw => ?_, ?_⟩; rotate_left; (· go_simp; try with_reducible rfl); simp only [Act.put, setIfInBounds_toArray, getElem_toArray, getElem_cons_succ, getElem_cons_zero, set_cons_succ, set_cons_zero])
  refine HoistK.nil_ ?_
  simp only [opsAt, filterMap_cons, filterMap_nil, getElem?_toArray, getElem?_cons_succ, getElem?_cons_zero]
  refine EffS.cons_ fun _ hQ => ?_
  go_wp2_with fail
  refine hQ _ _ hSX (EffS.nil_ fun _ hQ => ?_)
  go_wp2_with fail
  go_ret
  exact ⟨by rw [HQ.out]; rfl, HB3.out⟩
def inX (X : List TxE) (x : TxE) : Bool := X.any fun y => sameX y x
theorem inX_snoc (X : List TxE) (x : TxE) {k : Nat} (hk : k < X.length) : inX (X.take (k + 1)) x = (inX (X.take k) x || sameX X[k] x) := by
  unfold inX
  rw [List.take_succ_eq_append_getElem hk, List.any_append]
  simp
set_option maxHeartbeats 8000000 in
set_option maxRecDepth 100000 in
theorem rin_any (w : World) {S T : Nat → Prop} {X : List TxE} {v : Value} {x : TxE} {ds : List Value} (h : (Sh.list tTx).rep w S X [v]) (h' : tTx.rep w T x ds) (hl : ∀ y ∈ X, (tTx.enc y).length ≤ 1099511627776) (hl' : (tTx.enc x).length ≤ 1099511627776) :
    Calls Tryz.prog 24 #[v, .agg ds.toArray] w fun e w' => e = .returned (.bool (inX X x)) ∧ Below w.heap.size w w' := by
  obtain ⟨A, cap, rfl, hlen, _⟩ := list_at h
  have hal := (Below.refl w.heap.size w).alloc (Nat.le_refl _) (.cells ds.toArray 40)
  have hx := Blk.new w 40 ds.toArray
  obtain ⟨w1, hw1⟩ : ∃ w1, w1 = w.alloc (.cells ds.toArray 40) := ⟨_, rfl⟩
  rw [← hw1] at hal hx
  obtain ⟨n, hn⟩ : ∃ n, n = X.length := ⟨_, rfl⟩
  have e0 : (Value.slice A X.length cap) = .slice A n cap := by rw [hn]
  rw [e0] at h ⊢
  have hn63 : n ≤ 9223372036854775807 := by omega
  have HI := Lib.hid (tx_size (tx_cells h').2.2.2)
  have HR := Lib.hid (Sh.rep_below h hal)
  have HR' := Lib.hid (Sh.rep_below h' hal)
  have HL := Lib.hid hl
  have HL' := Lib.hid hl'
  have HAL := Lib.hid hal
  have HW1 := Lib.hid hw1
  have HX := Lib.hid hx
  have HN := Lib.hid hn
  clear h h' hl hl' hal hx hw1 hn hlen e0
  go_enter Tryz.func24, Tryz.ntmps24
  go_wp2_with fail
  rw [← HW1.out]
  go_loopw [5] (fun i wr => ∃ k : Nat, k ≤ n ∧ i = .int .i64 k ∧ Hid (Below w1.heap.size w1 wr) ∧ Hid (inX (X.take k) x = false)) (fun i _ => n - (intOf i).toNat)
  case atStart => exact ⟨0, Nat.zero_le _, rfl, Lib.hid (Below.refl _ _), Lib.hid rfl⟩
  case round =>
    obtain ⟨k, hk, rfl, hb, hin⟩ := hrel
    by_cases hlt : k < n
    · have hkX : k < X.length := by rw [← HN.out]; exact hlt
      obtain ⟨_, _, e, _, hat⟩ := list_at HR.out
      injection e with e1 e2 e3
      subst e1; subst e3
      clear e2
      obtain ⟨b, off, C, rfl, hr, hrep, hCl, _⟩ := hat k hkX
      have hCl : C.length = 41 := hCl
      have hyl := HL.out _ (List.getElem_mem hkX)
      have HNX := Lib.hid (inX_snoc X x hkX)
      obtain ⟨t, ht⟩ : ∃ t, t = X[k] := ⟨_, rfl⟩
      rw [← ht] at hrep hyl HNX
      have hr : w1.rangeAt b (off + k * 41) C := hr
      have HJ := Lib.hid (tx_size hCl)
      have hbd := hb.out.trans (((Below.refl wr.heap.size wr).drew).mono hb.out.size)
      have hSS : Blk wr.drew w.heap.size 40 ds.toArray ∧ wr.drew.rangeAt b (off + k * 41) C := ⟨blk_low HX.out hbd, range_low hr hbd⟩
      have HSM := Lib.hid (rsame_any wr.drew (Sh.rep_below hrep hbd) (Sh.rep_below HR'.out hbd) hyl HL'.out)
      have HBD := Lib.hid hbd
      clear hat hr hrep hCl hyl ht hkX hbd hb
      go_wp2_with fail
      refine wp_region_segsV [([0, 1, 2, 3, 4], [5])] (by kernel_rfl) (by kernel_rfl) (by kernel_rfl) (by kernel_rfl)
        (SegV.mk (fun w' => Blk w' w.heap.size 40 ds.toArray ∧ w'.rangeAt b (off + k * 41) C) (fun _ _ => trivial) hSS ?_)
      (refine HoistK.yes (by rfl) (by kernel_rfl) ⟨?_, fun w' hSw => ?_, ?_⟩; rotate_left; (· go_simp; try with_reducible rfl); simp only [Act.put, setIfInBounds_toArray, getElem_toArray, getElem_cons_zero, set_cons_succ, set_cons_zero])
      iterate 2 (refine HoistK.yes (by rfl) (by kernel_rfl) ⟨?_, fun w' hSw => ?_, ?_⟩; rotate_left; (· go_simp; try with_reducible rfl); simp only [Act.put, setIfInBounds_toArray, getElem_toArray, getElem_cons_succ, getElem_cons_zero, set_cons_succ, set_cons_zero])
      (refine HoistK.load (by rfl) (by kernel_rfl) 40 _ rfl b (off + k * 41) rfl C _ (fun w' hw => hw.2) Tryz.underlying40 rfl HJ.out ?_; simp only [Act.put, setIfInBounds_toArray, getElem_toArray, getElem_cons_succ, getElem_cons_zero, set_cons_succ, set_cons_zero])
      (refine HoistK.load (by rfl) (by kernel_rfl) 40 _ rfl w.heap.size 0 rfl ds _ (fun w' hw => hw.1.range) Tryz.underlying40 rfl HI.out ?_; simp only [Act.put, setIfInBounds_toArray, getElem_toArray, getElem_cons_succ, getElem_cons_zero, set_cons_succ, set_cons_zero])
      refine HoistK.nil_ ?_
      simp only [opsAt, filterMap_cons, filterMap_nil, getElem?_toArray, getElem?_cons_succ, getElem?_cons_zero]
      refine EffS.cons_ fun _ hQ => ?_
      go_wp2_with fail
      refine HSM.out.mono ?_
      rintro e w2 ⟨rfl, hb2⟩
      have HB2 := Lib.hid (HBD.out.trans (hb2.mono HBD.out.size))
      have hS2 : Blk w2 w.heap.size 40 ds.toArray ∧ w2.rangeAt b (off + k * 41) C := ⟨hSS.1.below hb2 hSS.1.lt, range_low hSS.2 hb2⟩
      obtain ⟨q, hq⟩ : ∃ q, q = sameX t x := ⟨_, rfl⟩
      rw [← hq]
      have HQ := Lib.hid hq
      clear hq hb2 hSS HSM
      go_wp2_with fail
      refine hQ _ _ hS2 (EffS.nil_ fun _ hQ => ?_)
      cases q
      · have HN2 := Lib.hid (show inX (X.take (k + 1)) x = false by rw [HNX.out, hin.out, ← HQ.out]; rfl)
        clear hin
        go_wp2_with fail
        exact ⟨⟨k + 1, by omega, by push_cast; rfl, HB2, HN2⟩, by simp only [intOf]; omega⟩
      · have HN2 := Lib.hid (show inX X x = true by
          have h := HNX.out
          rw [← HQ.out, Bool.or_true] at h
          unfold inX at h ⊢
          obtain ⟨y, hy, hs⟩ := List.any_eq_true.1 h
          exact List.any_eq_true.2 ⟨y, List.mem_of_mem_take hy, hs⟩)
        clear hin
        go_wp2_with fail
        go_ret
        exact ⟨by rw [HN2.out]; rfl, HAL.out.trans (HB2.out.mono HAL.out.size)⟩
    · have hk' : k = n := by omega
      subst hk'
      have HN2 := Lib.hid (show inX X x = false by have h := hin.out; rwa [HN.out, List.take_length] at h)
      have HB2 := Lib.hid (HAL.out.trans (hb.out.mono HAL.out.size))
      clear hin hb
      go_wp2_with fail
      go_ret
      exact ⟨by rw [HN2.out]; rfl, HB2.out⟩
def fillX (la : List (Int × Int × Int × Unit)) (mm : Nat) (l : List TxE) : List TxE := l.foldl (addX la mm) []
theorem fillX_snoc (la : List (Int × Int × Int × Unit)) (mm : Nat) (l : List TxE) {k : Nat} (hk : k < l.length) : fillX la mm (l.take (k + 1)) = addX la mm (fillX la mm (l.take k)) l[k] := by
  unfold fillX
  rw [List.take_succ_eq_append_getElem hk, List.foldl_append]
  rfl
set_option maxHeartbeats 8000000 in
set_option maxRecDepth 100000 in
theorem fill_any (w : World) {S T : Nat → Prop} {la : List (Int × Int × Int × Unit)} {ss : List Value} {most : Int} {y : Value} {l : List TxE} (hs : StA w S la ss) (hy : (Sh.list tTx).rep w T l [y]) (hyl : ∀ x ∈ l, (tTx.enc x).length ≤ 1099511627776) :
    Calls Tryz.prog 22 #[.agg ss.toArray, .int .i64 most, y] w fun e w' => ∃ g v, e = .returned (.pointer (some ⟨g, 0, none⟩)) ∧ PoolB w w' g v (min (max most 0) 32).toNat (fillX la (min (max most 0) 32).toNat l) := by
  have hal := (Below.refl w.heap.size w).alloc (Nat.le_refl _) (.cells ss.toArray 34)
  have hbx := Blk.new w 34 ss.toArray
  obtain ⟨w2, hw2⟩ : ∃ w2, w2 = w.alloc (.cells ss.toArray 34) := ⟨_, rfl⟩
  rw [← hw2] at hal hbx
  obtain ⟨A, cap, rfl, hlen, _⟩ := list_at hy
  obtain ⟨nl, hnl⟩ : ∃ n, n = l.length := ⟨_, rfl⟩
  have e0 : (Value.slice A l.length cap) = .slice A nl cap := by rw [hnl]
  rw [e0] at hy ⊢
  have HST := Lib.hid (st_of hs)
  have HS2 := Lib.hid (hs.below hal)
  have HY := Lib.hid (Sh.rep_below hy hal)
  have HTL := Lib.hid hyl
  have HB2 := Lib.hid hal
  have HX2 := Lib.hid hbx
  have HN := Lib.hid hnl
  have HW2 := Lib.hid hw2
  have hnl63 : nl ≤ 9223372036854775807 := by omega
  clear hal hbx hs hy hyl hlen e0 hnl hw2
  obtain ⟨mm, hmm⟩ : ∃ mm, mm = (min (max most 0) 32).toNat := ⟨_, rfl⟩
  rw [← hmm]
  have HMM := Lib.hid hmm
  clear hmm
  go_enter Tryz.func22, Tryz.ntmps22
  go_wp2_with fail
  rw [← HW2.out]
  refine (newB_any w2 most).mono ?_
  rintro e w3 ⟨rfl, hp3⟩
  rw [← HMM.out] at hp3
  obtain ⟨gP, hgP⟩ : ∃ gP, gP = w2.heap.size := ⟨_, rfl⟩
  rw [← hgP] at hp3 ⊢
  have HP3 := Lib.hid hp3
  clear hp3 hgP
  go_wp2_with fail
  go_loopw [13] (fun i wr => ∃ k : Nat, k ≤ nl ∧ i = .int .i64 k ∧ Hid (∃ v, PoolB w2 wr gP v mm (fillX la mm (l.take k)))) (fun i _ => nl - (intOf i).toNat)
  case atStart => exact ⟨0, Nat.zero_le _, rfl, Lib.hid ⟨_, HP3.out⟩⟩
  case round =>
    obtain ⟨k, hk, rfl, hP⟩ := hrel
    obtain ⟨v, hpb⟩ := hP.out
    by_cases hlt : k < nl
    · have hkl : k < l.length := by rw [← HN.out]; exact hlt
      obtain ⟨_, _, e, _, hat⟩ := list_at HY.out
      injection e with e1 e2 e3
      subst e1; subst e3
      clear e2
      obtain ⟨b, off, C, rfl, hr, hrep, hCl, _⟩ := hat k hkl
      have hCl : C.length = 41 := hCl
      have htl := HTL.out _ (List.getElem_mem hkl)
      have HFX := Lib.hid (fillX_snoc la mm l hkl)
      obtain ⟨t, ht⟩ : ∃ t, t = l[k] := ⟨_, rfl⟩
      rw [← ht] at hrep htl HFX
      have hr : w2.rangeAt b (off + k * 41) C := hr
      have HJ := Lib.hid (tx_size hCl)
      have HREP := Lib.hid hrep
      have HTLX := Lib.hid htl
      have HSW := Lib.hid (show ∀ w', Below w2.heap.size w2 w' → Blk w' w.heap.size 34 ss.toArray ∧ w'.rangeAt b (off + k * 41) C from fun w' h => ⟨blk_low HX2.out h, range_low hr h⟩)
      have hpd := hpb.below ((Below.refl wr.heap.size wr).drew)
      have hSS := HSW.out _ hpd.2.1
      clear hat hr hrep hCl htl ht hkl hpb hP
      go_wp2_with fail
      refine wp_region_segsV [([0, 1, 2, 3, 4, 5], [6])] (by kernel_rfl) (by kernel_rfl) (by kernel_rfl) (by kernel_rfl)
        (SegV.mk (fun w' => Blk w' w.heap.size 34 ss.toArray ∧ w'.rangeAt b (off + k * 41) C) (fun _ _ => trivial) hSS ?_)
      (refine HoistK.yes (by rfl) (by kernel_rfl) ⟨?_, fun w' hSw => ?_, ?_⟩; rotate_left; (· go_simp; try with_reducible rfl); simp only [Act.put, setIfInBounds_toArray, getElem_toArray, getElem_cons_zero, set_cons_succ, set_cons_zero])
      (refine HoistK.load (by rfl) (by kernel_rfl) 34 _ rfl w.heap.size 0 rfl ss _ (fun w' hw => hw.1.range) Tryz.underlying34 rfl HST.out ?_; simp only [Act.put, setIfInBounds_toArray, getElem_toArray, getElem_cons_succ, getElem_cons_zero, set_cons_succ, set_cons_zero])
      iterate 3 (refine HoistK.yes (by rfl) (by kernel_rfl) ⟨?_, fun w' hSw => ?_, ?_⟩; rotate_left; (· go_simp; try with_reducible rfl); simp only [Act.put, setIfInBounds_toArray, getElem_toArray, getElem_cons_succ, getElem_cons_zero, set_cons_succ, set_cons_zero])
      (refine HoistK.load (by rfl) (by kernel_rfl) 40 _ rfl b (off + k * 41) rfl C _ (fun w' hw => hw.2) Tryz.underlying40 rfl HJ.out ?_; simp only [Act.put, setIfInBounds_toArray, getElem_toArray, getElem_cons_succ, getElem_cons_zero, set_cons_succ, set_cons_zero])
      refine HoistK.nil_ ?_
      simp only [opsAt, filterMap_cons, filterMap_nil, getElem?_toArray, getElem?_cons_succ, getElem?_cons_zero]
      refine EffS.cons_ fun _ hQ => ?_
      go_wp2_with fail
      refine (addB_any w2 wr.drew (HS2.out.below hpd.2.1) (Sh.rep_below HREP.out hpd.2.1) hpd HTLX.out).mono ?_
      rintro e w4 ⟨rfl, hb4, v4, hp4⟩
      have hS4 := HSW.out _ hp4.2.1
      have HP4 := Lib.hid (show ∃ v, PoolB w2 w4 gP v mm (fillX la mm (l.take (k + 1))) from ⟨v4, by rw [HFX.out]; exact hp4⟩)
      obtain ⟨r1, hr1⟩ : ∃ r, r = addE la mm (encsX (fillX la mm (l.take k))) t := ⟨_, rfl⟩
      rw [← hr1]
      clear hr1 hp4 hb4 hpd hSS
      go_wp2_with fail
      refine hQ _ _ hS4 (EffS.nil_ fun _ hQ => ?_)
      clear hS4
      go_wp2_with fail
      exact ⟨⟨k + 1, by omega, by push_cast; rfl, HP4⟩, by simp only [intOf]; omega⟩
    · have hk' : k = nl := by omega
      subst hk'
      have HF := Lib.hid (show ∃ v, PoolB w wr gP v mm (fillX la mm l) from ⟨v, by
        have h := hpb
        rw [HN.out, List.take_length] at h
        exact ⟨h.1, HB2.out.trans (h.2.1.mono HB2.out.size), Nat.le_trans HB2.out.size h.2.2.1, fun b hb => Nat.le_trans HB2.out.size (h.2.2.2 b hb)⟩⟩)
      clear hpb hP
      go_wp2_with fail
      go_ret
      obtain ⟨v, hv⟩ := HF.out
      exact ⟨gP, v, rfl, hv⟩
end
section
open Go.RowKit Go.Maps
theorem fill_nodup (la : List (Int × Int × Int × Unit)) (mm : Nat) (l : List TxE) : (encsX (fillX la mm l)).Nodup := by
  unfold fillX
  suffices h : ∀ (l X : List TxE), (encsX X).Nodup → (encsX (l.foldl (addX la mm) X)).Nodup from h l [] List.nodup_nil
  intro l
  induction l with
  | nil => exact fun X h => h
  | cons x l ih =>
    intro X h
    refine ih _ ?_
    unfold addX
    by_cases h0 : addE la mm (encsX X) x = 0
    · rw [if_pos h0]
      have : encsX (X ++ [x]) = encsX X ++ [tTx.enc x] := List.map_append
      rw [this, List.nodup_append]
      refine ⟨h, by simp, fun a ha b hb => ?_⟩
      rw [List.mem_singleton] at hb
      subst hb
      rintro rfl
      exact (addE_ok h0).2.2.1 ha
    · rw [if_neg h0]; exact h
theorem enc_inj {X : List TxE} (hw : wellX X) {x y : TxE} (hx : x ∈ X) (hy : y ∈ X) (h : tTx.enc x = tTx.enc y) : x = y := by
  have h1 := (hw x hx).1
  rw [h, (hw y hy).1] at h1
  exact (Option.some.inj h1).symm
theorem inX_iff (X : List TxE) (x : TxE) : inX X x = decide (tTx.enc x ∈ encsX X) := by
  unfold inX encsX
  rw [Bool.eq_iff_iff, List.any_eq_true, decide_eq_true_iff, List.mem_map]
  constructor
  · rintro ⟨y, hy, h⟩; exact ⟨y, hy, of_decide_eq_true h⟩
  · rintro ⟨y, hy, h⟩; exact ⟨y, hy, decide_eq_true h⟩
theorem inX_mem {X : List TxE} {x : TxE} (h : x ∈ X) : inX X x = true := by
  rw [inX_iff, decide_eq_true_iff]; exact List.mem_map_of_mem h
theorem sameX_self (x : TxE) : sameX x x = true := decide_eq_true rfl
abbrev restX (la : List (Int × Int × Int × Unit)) (n : Nat) (X : List TxE) : List TxE := restP spendsX fromX nonceX (baseX la) n X []
theorem next_perm (la : List (Int × Int × Int × Unit)) (n : Nat) (X : List TxE) : (nextX la n X ++ restX la n X).Perm X := nextP_perm n X []
theorem next_mem {la : List (Int × Int × Int × Unit)} {n : Nat} {X : List TxE} {x : TxE} (h : x ∈ nextX la n X) : x ∈ X := (next_perm la n X).mem_iff.1 (List.mem_append_left _ h)
theorem next_len (la : List (Int × Int × Int × Unit)) (n : Nat) (X : List TxE) : (nextX la n X).length ≤ n := by
  have := (nextP_len (sp := spendsX) (fr := fromX) (no := nonceX) (base := baseX la) n X []).2
  rw [List.length_nil, Nat.zero_add] at this
  exact this
theorem next_nodup {la : List (Int × Int × Int × Unit)} {n : Nat} {X : List TxE} (h : (encsX X).Nodup) : (encsX (nextX la n X)).Nodup := by
  have h1 : (encsX (nextX la n X ++ restX la n X)).Perm (encsX X) := (next_perm la n X).map _
  have h2 := h1.nodup_iff.2 h
  rw [show encsX (nextX la n X ++ restX la n X) = encsX (nextX la n X) ++ encsX (restX la n X) from List.map_append] at h2
  exact (List.nodup_append.1 h2).1
theorem notin_take {X : List TxE} (h : (encsX X).Nodup) {i : Nat} (hi : i < X.length) : inX (X.take i) X[i] = false := by
  rw [inX_iff, decide_eq_false_iff_not]
  intro hm
  unfold encsX at hm h
  rw [List.mem_map] at hm
  obtain ⟨y, hy, he⟩ := hm
  obtain ⟨j, hj, rfl⟩ := List.getElem_of_mem hy
  rw [List.length_take] at hj
  rw [List.getElem_take] at he
  have h1 := (List.nodup_iff_pairwise_ne.1 h)
  rw [List.pairwise_iff_getElem] at h1
  have := h1 j i (by rw [List.length_map]; omega) (by rw [List.length_map]; exact hi) (by omega)
  rw [List.getElem_map, List.getElem_map] at this
  exact this he
theorem next_rest {la : List (Int × Int × Int × Unit)} {n : Nat} {X : List TxE} {x : TxE} (hx : x ∈ X) (h : inX (nextX la n X) x = false) (hl : (nextX la n X).length < n) : fitsX la (nextX la n X) x = false := by
  have h1 : x ∈ nextX la n X ++ restX la n X := (next_perm la n X).mem_iff.2 hx
  rcases List.mem_append.1 h1 with h2 | h2
  · rw [inX_mem h2] at h; cases h
  · exact restP_done n X [] (by rw [List.length_nil, Nat.zero_add]; exact hl) x h2
theorem next_fits {la : List (Int × Int × Int × Unit)} {n : Nat} {X : List TxE} {i : Nat} (hi : i < (nextX la n X).length) : fitsX la ((nextX la n X).take i) (nextX la n X)[i] = true :=
  nextP_fits n X [] (fun i h => by cases h) i hi
theorem cntP_take (X : List TxE) (f : Int) {k : Nat} (hk : k < X.length) : cntP spendsX fromX (X.take (k + 1)) f = cntP spendsX fromX (X.take k) f + if spendsX X[k] && fromX X[k] == f then 1 else 0 := by
  rw [List.take_succ_eq_append_getElem hk, cntP_snoc]
def wantX (la : List (Int × Int × Int × Unit)) (out : List TxE) (f : Int) : Int := (baseX la f + (cntP spendsX fromX out f : Nat)) % 18446744073709551616
theorem want_nil {la : List (Int × Int × Int × Unit)} {f : Int} (h : 0 ≤ baseX la f ∧ baseX la f < 18446744073709551616) : wantX la [] f = baseX la f := by
  unfold wantX
  rw [show cntP spendsX fromX [] f = 0 from rfl]
  omega
theorem want_step (la : List (Int × Int × Int × Unit)) (X : List TxE) (f : Int) {k : Nat} (hk : k < X.length) : wantX la (X.take (k + 1)) f = if spendsX X[k] && fromX X[k] == f then (wantX la (X.take k) f + 1) % 18446744073709551616 else wantX la (X.take k) f := by
  unfold wantX
  rw [cntP_take X f hk]
  by_cases h : (spendsX X[k] && fromX X[k] == f) = true
  · rw [if_pos h, if_pos h]; push_cast; omega
  · rw [if_neg h, if_neg h]; push_cast; omega
theorem fits_want (la : List (Int × Int × Int × Unit)) (out : List TxE) (x : TxE) : fitsX la out x = (!spendsX x || nonceX x == wantX la out (fromX x)) := rfl
theorem base_range {w : World} {S : Nat → Prop} {x : StE} {ss : List Value} (h : tState.rep w S x ss) (f : Int) : 0 ≤ baseX (accX x) f ∧ baseX (accX x) f < 18446744073709551616 := by
  obtain ⟨c, vA, vL, vC, vR, vM, rfl, hA, _⟩ := st_parts h
  obtain ⟨_, _, _, _, hat⟩ := list_at hA
  have hr : ∀ a : Int × Int × Int × Unit, a ∈ accX x → 0 ≤ a.2.2.1 ∧ a.2.2.1 < 18446744073709551616 := fun a ha => by
    obtain ⟨k, hlt, rfl⟩ := List.getElem_of_mem ha
    obtain ⟨_, _, C, _, _, hrep, _⟩ := hat k hlt
    have hw := Sh.rep_wf tAccount _ _ hrep
    obtain ⟨_, _, h2, _⟩ := hw
    have h2 : (nk false).wrap ((accX x)[k] : Int × Int × Int × Unit).2.2.1 = ((accX x)[k] : Int × Int × Int × Unit).2.2.1 := h2
    rw [wrap_u] at h2
    omega
  unfold baseX acctP
  generalize bsP (List.map (fun x => x.1) (accX x)) f 0 (accX x).length = k
  cases hk : (accX x)[k]? with
  | none => exact ⟨Int.le_refl 0, by show (0 : Int) < _; omega⟩
  | some a =>
    have ha := hr a (List.mem_of_getElem? hk)
    by_cases e : a.1 = f
    · show 0 ≤ (if a.1 = f then a else (f, 0, 0, ())).2.2.1 ∧ (if a.1 = f then a else (f, 0, 0, ())).2.2.1 < 18446744073709551616
      rw [if_pos e]; exact ha
    · show 0 ≤ (if a.1 = f then a else (f, 0, 0, ())).2.2.1 ∧ (if a.1 = f then a else (f, 0, 0, ())).2.2.1 < 18446744073709551616
      rw [if_neg e]
      exact ⟨Int.le_refl 0, by show (0 : Int) < _; omega⟩
theorem stay_at {lb : List (Int × Int × Int × Unit)} {D : List (List UInt8)} {X : List TxE} {k : Nat} (hk : k < X.length) (hg : goneP lb D X[k] = false) : ∃ h : (stayX lb D (X.take k)).length < (stayX lb D X).length, (stayX lb D X)[(stayX lb D (X.take k)).length] = X[k] := by
  have h1 : stayX lb D X = stayX lb D (X.take (k + 1)) ++ stayX lb D (X.drop (k + 1)) := by
    unfold stayX
    rw [← List.filter_append, List.take_append_drop]
  have h2 := stayX_snoc lb D X hk
  rw [hg] at h2
  have h2 : stayX lb D (X.take (k + 1)) = stayX lb D (X.take k) ++ [X[k]] := h2
  have h3 : stayX lb D X = stayX lb D (X.take k) ++ (X[k] :: stayX lb D (X.drop (k + 1))) := by rw [h1, h2]; simp
  refine ⟨by rw [h3, List.length_append, List.length_cons]; omega, ?_⟩
  simp only [h3]
  rw [List.getElem_append_right (Nat.le_refl _)]
  simp
end
section
open Go.RowKit Go.Maps
theorem list_cap {w : World} {S : Nat → Prop} {X : List TxE} {A : Option Addr} {n cap : Nat} (h : (Sh.list tTx).rep w S X [.slice A n cap]) : n ≤ cap ∧ cap ≤ maxLen := by
  obtain ⟨v', css, e, h1, h2⟩ := h
  obtain rfl : Value.slice A n cap = v' := by simpa using e
  obtain ⟨hl, A', cap', e, hn, hc, hp⟩ := h1
  injection e with e1 e2 e3
  subst e3
  exact ⟨by omega, hc⟩
theorem list_one {w : World} {S : Nat → Prop} {X : List TxE} {A : Option Addr} {n cap : Nat} (h : (Sh.list tTx).rep w S X [.slice A n cap]) (hn : n = X.length) {k : Nat} (hk : k < n) :
    ∃ b off C, A = some ⟨b, off, none⟩ ∧ (∀ w', Below w.heap.size w w' → w'.rangeAt b (off + k * 41) C ∧ tTx.rep w' S (X[k]'(by omega)) C) ∧ C.length = 41 := by
  obtain ⟨A', cap', e, _, hat⟩ := list_at h
  injection e with e1 e2 e3
  subst e1; subst e3
  obtain ⟨b, off, C, rfl, hr, hrep, hCl, _⟩ := hat k (by omega)
  exact ⟨b, off, C, rfl, fun w' hb => ⟨range_low hr hb, Sh.rep_below hrep hb⟩, hCl⟩
end
section
open Go.RowKit Go.Maps
attribute [-simp] Tryz.isAgg34 Tryz.typeInfo34 Tryz.isAgg40 Tryz.typeInfo40 Tryz.isAgg37 Tryz.typeInfo37 Tryz.isAgg57 Tryz.typeInfo57
def SameK (X Y : List TxE) (k : Nat) : Prop := ∀ j (h : j < X.length) (h' : j < Y.length), j < k → sameX X[j] Y[j] = true
set_option maxHeartbeats 8000000 in
set_option maxRecDepth 100000 in
theorem same_any (w : World) {S T : Nat → Prop} {X Y : List TxE} {u v : Value} (hx : (Sh.list tTx).rep w S X [u]) (hy : (Sh.list tTx).rep w T Y [v]) (hlx : ∀ t ∈ X, (tTx.enc t).length ≤ 1099511627776) (hly : ∀ t ∈ Y, (tTx.enc t).length ≤ 1099511627776) (heq : X = Y) :
    Calls Tryz.prog 16 #[u, v] w fun e w' => e = .returned (.bool true) ∧ Below w.heap.size w w' := by
  obtain ⟨A, cap, rfl, hlen, _⟩ := list_at hx
  obtain ⟨B, cap', rfl, _, _⟩ := list_at hy
  obtain ⟨n, hn⟩ : ∃ n, n = X.length := ⟨_, rfl⟩
  have hn' : n = Y.length := by rw [hn, heq]
  rw [← hn] at hx ⊢
  rw [← hn'] at hy ⊢
  have hn63 : n ≤ 9223372036854775807 := by omega
  have HX := Lib.hid hx
  have HY := Lib.hid hy
  have HLX := Lib.hid hlx
  have HLY := Lib.hid hly
  have HN := Lib.hid hn
  have HN' := Lib.hid hn'
  have HE := Lib.hid heq
  clear hx hy hlx hly hn hn' hlen heq
  go_enter Tryz.func16, Tryz.ntmps16
  go_wp2_with fail
  go_loopw [13] (fun i wr => ∃ k : Nat, k ≤ n ∧ i = .int .i64 k ∧ Hid (Below w.heap.size w wr)) (fun i _ => n - (intOf i).toNat)
  case atStart => exact ⟨0, Nat.zero_le _, rfl, Lib.hid (Below.refl _ _)⟩
  case round =>
    obtain ⟨k, hk, rfl, hb⟩ := hrel
    by_cases hlt : k < n
    · have hkX : k < X.length := by rw [← HN.out]; exact hlt
      have hkY : k < Y.length := by rw [← HN'.out]; exact hlt
      obtain ⟨b, off, C, rfl, HC, hCl⟩ := list_one HX.out HN.out hlt
      obtain ⟨b', off', D, rfl, HD, hDl⟩ := list_one HY.out HN'.out hlt
      have hbd := hb.out.trans (((Below.refl wr.heap.size wr).drew).mono hb.out.size)
      have HSM := Lib.hid (rsame_any wr.drew (HC _ hbd).2 (HD _ hbd).2 (HLX.out _ (List.getElem_mem hkX)) (HLY.out _ (List.getElem_mem hkY)))
      have hs1 : sameX (X[k]'hkX) (Y[k]'hkY) = true := by
        have he := HE.out
        subst he
        exact sameX_self _
      rw [hs1] at HSM
      have HJ := Lib.hid (tx_size hCl)
      have HJ' := Lib.hid (tx_size hDl)
      have HC := Lib.hid (show ∀ w', Below w.heap.size w w' → w'.rangeAt b (off + k * 41) C ∧ w'.rangeAt b' (off' + k * 41) D from fun w' h => ⟨(HC w' h).1, (HD w' h).1⟩)
      have hSS := HC.out _ hbd
      have HBD := Lib.hid hbd
      clear hCl hDl hkX hkY hbd hb hs1 HD
      go_wp2_with fail
      refine wp_region_segsV [([0, 1, 2, 3, 4, 5, 6, 7], [8]), ([], [9])] (by kernel_rfl) (by kernel_rfl) (by kernel_rfl) (by kernel_rfl)
        (SegV.mk (fun w' => w'.rangeAt b (off + k * 41) C ∧ w'.rangeAt b' (off' + k * 41) D) (fun _ _ => trivial) hSS ?_)
      (refine HoistK.yes (by rfl) (by kernel_rfl) ⟨?_, fun w' hSw => ?_, ?_⟩; rotate_left; (· go_simp; try with_reducible rfl); simp only [Act.put, setIfInBounds_toArray, getElem_toArray, getElem_cons_zero, set_cons_succ, set_cons_zero])
      iterate 2 (refine HoistK.yes (by rfl) (by kernel_rfl) ⟨?_, fun w' hSw => ?_, ?_⟩; rotate_left; (· go_simp; try with_reducible rfl); simp only [Act.put, setIfInBounds_toArray, getElem_toArray, getElem_cons_succ, getElem_cons_zero, set_cons_succ, set_cons_zero])
      (refine HoistK.load (by rfl) (by kernel_rfl) 40 _ rfl b (off + k * 41) rfl C _ (fun w' hw => hw.1) Tryz.underlying40 rfl HJ.out ?_; simp only [Act.put, setIfInBounds_toArray, getElem_toArray, getElem_cons_succ, getElem_cons_zero, set_cons_succ, set_cons_zero])
      iterate 3 (refine HoistK.yes (by rfl) (by kernel_rfl) ⟨?_, fun w' hSw => ?_, ?_⟩; rotate_left; (· go_simp; try with_reducible rfl); simp only [Act.put, setIfInBounds_toArray, getElem_toArray, getElem_cons_succ, getElem_cons_zero, set_cons_succ, set_cons_zero])
      (refine HoistK.load (by rfl) (by kernel_rfl) 40 _ rfl b' (off' + k * 41) rfl D _ (fun w' hw => hw.2) Tryz.underlying40 rfl HJ'.out ?_; simp only [Act.put, setIfInBounds_toArray, getElem_toArray, getElem_cons_succ, getElem_cons_zero, set_cons_succ, set_cons_zero])
      refine HoistK.nil_ ?_
      simp only [opsAt, filterMap_cons, filterMap_nil, getElem?_toArray, getElem?_cons_succ, getElem?_cons_zero]
      refine EffS.cons_ fun _ hQ => ?_
      go_wp2_with fail
      refine HSM.out.mono ?_
      rintro e w2 ⟨rfl, hb2⟩
      have HB2 := Lib.hid (HBD.out.trans (hb2.mono HBD.out.size))
      have hS2 := HC.out _ HB2.out
      clear hb2 hSS HSM
      go_wp2_with fail
      refine hQ _ _ hS2 (EffS.nil_ (SegV.mk (fun w' => w'.rangeAt b (off + k * 41) C ∧ w'.rangeAt b' (off' + k * 41) D) (fun _ h => h) hS2 ?_))
      refine HoistK.nil_ ?_
      simp only [opsAt, filterMap_cons, filterMap_nil, getElem?_toArray, getElem?_cons_succ, getElem?_cons_zero]
      refine EffS.cons_ fun _ hQ => ?_
      go_wp2_with fail
      refine hQ _ _ hS2 (EffS.nil_ fun _ hQ => ?_)
      clear hS2
      go_wp2_with fail
      exact ⟨⟨k + 1, by omega, by push_cast; rfl, HB2⟩, by simp only [intOf]; omega⟩
    · have hk' : k = n := by omega
      subst hk'
      have HB2 := hb
      clear hb
      go_wp2_with fail
      go_ret
      exact ⟨rfl, HB2.out⟩
def RPool (S : Nat → Prop) (w : World) (g : Nat) (v : Value) (most : Nat) (X : List TxE) : Prop :=
  most ≤ 32 ∧ X.length ≤ most ∧ Blk w g 51 #[.int .i64 most, v] ∧ TxsO S w v X ∧ v.ownBlock ≠ some g
set_option maxRecDepth 100000 in
theorem rnew_any (w : World) (most : Int) : Calls Tryz.prog 11 #[.int .i64 most] w fun e w' => e = .returned (.pointer (some ⟨w.heap.size, 0, none⟩)) ∧ RPool (fun _ => False) w' w.heap.size (.slice none 0 0) (min (max most 0) 32).toNat [] ∧ Below w.heap.size w w' := by
  obtain ⟨q, hq⟩ : ∃ q : Nat, (q : Int) = min (max most 0) 32 := ⟨(min (max most 0) 32).toNat, by omega⟩
  have hq2 : (min (max most 0) 32).toNat = q := by omega
  rw [hq2]
  have HQ := Lib.hid hq
  clear hq2 hq
  have hend : ∀ m : Int, (q : Int) = m → RPool (fun _ => False) (w.alloc (.cells #[.int .i64 m, .slice none 0 0] 51)) w.heap.size (.slice none 0 0) q [] ∧ Below w.heap.size w (w.alloc (.cells #[.int .i64 m, .slice none 0 0] 51)) := fun m hm => by
    have h := HQ.out
    subst hm
    exact ⟨⟨by omega, Nat.zero_le _, Blk.new w _ _, TxsO.nil_ _ _, by simp [Value.ownBlock]⟩, (Below.refl _ w).alloc (Nat.le_refl _) _⟩
  have HE := Lib.hid hend
  clear hend
  go_enter Tryz.func11, Tryz.ntmps11
  go_wp2_with fail
  all_goals
    go_ret
    exact ⟨rfl, HE.out _ (by have := HQ.out; omega)⟩
end
section
open Go.RowKit Go.Maps
def pickX (la : List (Int × Int × Int × Unit)) (out : List TxE) (t : TxE) : Bool := !inX out t && fitsX la out t
def rnextX (la : List (Int × Int × Int × Unit)) (X : List TxE) : Nat → List TxE → List TxE
  | 0, out => out
  | n + 1, out => match X.find? (pickX la out) with
    | none => out
    | some t => rnextX la X n (out ++ [t])
theorem inX_add (out : List TxE) (t y : TxE) : inX (out ++ [t]) y = (inX out y || sameX t y) := by
  unfold inX
  rw [List.any_append]
  simp
theorem erase_uniq : ∀ (l : List TxE) (i : Nat) (h : i < l.length), (encsX l).Nodup → l.eraseIdx i = l.filter (fun y => !sameX l[i] y)
  | a :: l, 0, _, hn => by
    obtain ⟨h1, _⟩ := List.nodup_cons.1 (show (tTx.enc a :: encsX l).Nodup from hn)
    show l = (a :: l).filter (fun y => !sameX a y)
    rw [List.filter_cons, if_neg (by rw [sameX_self]; decide)]
    exact (List.filter_eq_self.2 fun y hy => by
      have hne : tTx.enc a ≠ tTx.enc y := fun e => h1 (e ▸ List.mem_map_of_mem hy)
      unfold sameX
      rw [decide_eq_false hne]
      rfl).symm
  | a :: l, i + 1, h, hn => by
    obtain ⟨h1, h2⟩ := List.nodup_cons.1 (show (tTx.enc a :: encsX l).Nodup from hn)
    have h' : i < l.length := by simpa using h
    show a :: l.eraseIdx i = (a :: l).filter (fun y => !sameX l[i] y)
    have hne : tTx.enc l[i] ≠ tTx.enc a := fun e => h1 (e ▸ List.mem_map_of_mem (List.getElem_mem h'))
    rw [List.filter_cons, if_pos (by unfold sameX; rw [decide_eq_false hne]; rfl), erase_uniq l i h' h2]
theorem rnext_eq {la : List (Int × Int × Int × Unit)} {X : List TxE} (hn : (encsX X).Nodup) : ∀ (n : Nat) (out left : List TxE), left = X.filter (fun t => !inX out t) → nextP spendsX fromX nonceX (baseX la) n left out = rnextX la X n out
  | 0, _, _, _ => rfl
  | n + 1, out, left, hl => by
    have hff : X.find? (pickX la out) = left.find? (fitsX la out) := by
      rw [hl, List.find?_filter]
      congr 1
      funext a
      unfold pickX
      rw [Bool.decide_and, Bool.decide_eq_true, Bool.decide_eq_true]
    cases h : left.findIdx? (fitsX la out) with
    | none =>
      rw [(nextP_none h).1]
      have : left.find? (fitsX la out) = none := List.find?_eq_none.2 fun x hx => by simpa using List.findIdx?_eq_none_iff.1 h x hx
      unfold rnextX
      rw [hff, this]
    | some i =>
      have h0 := List.findIdx?_eq_some_iff_getElem.1 h
      have hi := h0.1
      rw [(nextP_some h hi).1]
      have hf : left.find? (fitsX la out) = some left[i] := List.find?_eq_some_iff_getElem.2 ⟨h0.2.1, i, hi, rfl, fun j hj => by
        have := h0.2.2 j hj
        simpa using this⟩
      have hnl : (encsX left).Nodup := by
        rw [hl]
        exact hn.sublist (List.filter_sublist.map _)
      show _ = rnextX la X (n + 1) out
      unfold rnextX
      rw [hff, hf]
      refine rnext_eq hn n (out ++ [left[i]]) _ ?_
      rw [erase_uniq left i hi hnl]
      generalize left[i] = t
      rw [hl, List.filter_filter]
      congr 1
      funext y
      rw [inX_add, Bool.not_or, Bool.and_comm]
theorem rnextX_eq {la : List (Int × Int × Int × Unit)} {X : List TxE} (hn : (encsX X).Nodup) (n : Nat) : rnextX la X n [] = nextX la n X :=
  (rnext_eq hn n [] X (List.filter_eq_self.2 fun _ _ => rfl).symm).symm
def AtX (la : List (Int × Int × Int × Unit)) (out X : List TxE) (i : Nat) (a : Int) : Prop :=
  (a = -1 ∧ ∀ j (h : j < X.length), i ≤ j → pickX la out X[j] = false) ∨ ∃ (k : Nat) (h : k < X.length), a = k ∧ i ≤ k ∧ pickX la out X[k] = true ∧ ∀ j (hj : j < k), i ≤ j → pickX la out (X[j]'(by omega)) = false
theorem AtX.start (la : List (Int × Int × Int × Unit)) (out X : List TxE) : AtX la out X X.length (-1) := .inl ⟨rfl, fun j h h' => by omega⟩
theorem AtX.yes {la : List (Int × Int × Int × Unit)} {out X : List TxE} {i : Nat} (h : i < X.length) (hp : pickX la out X[i] = true) : AtX la out X i i := .inr ⟨i, h, rfl, Nat.le_refl _, hp, fun j hj h' => by omega⟩
theorem AtX.no {la : List (Int × Int × Int × Unit)} {out X : List TxE} {i : Nat} {a : Int} (h : i < X.length) (hp : pickX la out X[i] = false) (ha : AtX la out X (i + 1) a) : AtX la out X i a := by
  rcases ha with ⟨e, h1⟩ | ⟨k, hk, e, h1, h2, h3⟩
  · refine .inl ⟨e, fun j hj h' => ?_⟩
    by_cases hji : j = i
    · subst hji; exact hp
    · exact h1 j hj (by omega)
  · refine .inr ⟨k, hk, e, by omega, h2, fun j hj h' => ?_⟩
    by_cases hji : j = i
    · subst hji; exact hp
    · exact h3 j hj (by omega)
theorem AtX.done {la : List (Int × Int × Int × Unit)} {out X : List TxE} {a : Int} (ha : AtX la out X 0 a) : (a = -1 ∧ X.find? (pickX la out) = none) ∨ ∃ (k : Nat) (h : k < X.length), a = k ∧ X.find? (pickX la out) = some X[k] := by
  rcases ha with ⟨e, h1⟩ | ⟨k, hk, e, h1, h2, h3⟩
  · refine .inl ⟨e, List.find?_eq_none.2 fun x hx => ?_⟩
    obtain ⟨j, hj, rfl⟩ := List.getElem_of_mem hx
    rw [h1 j hj (Nat.zero_le _)]
    decide
  · exact .inr ⟨k, hk, e, List.find?_eq_some_iff_getElem.2 ⟨h2, k, hk, rfl, fun j hj => by rw [h3 j hj (Nat.zero_le _)]; rfl⟩⟩
theorem rnextX_none {la : List (Int × Int × Int × Unit)} {X out : List TxE} {n : Nat} (h : X.find? (pickX la out) = none) : rnextX la X n out = out := by
  cases n with
  | zero => rfl
  | succ n => unfold rnextX; rw [h]
theorem rnextX_some {la : List (Int × Int × Int × Unit)} {X out : List TxE} {n : Nat} {t : TxE} (h : X.find? (pickX la out) = some t) : rnextX la X (n + 1) out = rnextX la X n (out ++ [t]) := by
  conv => lhs; unfold rnextX
  rw [h]
theorem add_nodup {la : List (Int × Int × Int × Unit)} {mm : Nat} {X : List TxE} (h : (encsX X).Nodup) (x : TxE) : (encsX (addX la mm X x)).Nodup := by
  unfold addX
  by_cases h0 : addE la mm (encsX X) x = 0
  · rw [if_pos h0]
    have : encsX (X ++ [x]) = encsX X ++ [tTx.enc x] := List.map_append
    rw [this, List.nodup_append]
    refine ⟨h, by simp, fun a ha b hb => ?_⟩
    rw [List.mem_singleton] at hb
    subst hb
    rintro rfl
    exact (addE_ok h0).2.2.1 ha
  · rw [if_neg h0]; exact h
theorem stay_nodup {la : List (Int × Int × Int × Unit)} {D : List (List UInt8)} {X : List TxE} (h : (encsX X).Nodup) : (encsX (stayX la D X)).Nodup := h.sublist (List.filter_sublist.map _)
theorem gone_iff (la : List (Int × Int × Int × Unit)) (Y : List TxE) (x : TxE) : (!goneP la (encsX Y) x) = (!inX Y x && !staleX la x) := by
  rw [inX_iff]
  show (!(decide (tTx.enc x ∈ encsX Y) || staleX la x)) = _
  rw [Bool.not_or]
theorem pick_iff (la : List (Int × Int × Int × Unit)) (out : List TxE) (t : TxE) : pickX la out t = (!inX out t && (!spendsX t || nonceX t == wantX la out (fromX t))) := rfl
end
section
open Go.RowKit Go.Maps
inductive SoftV : Value → Value → Prop
  | same (v : Value) : SoftV v v
  | int (k : IntKind) (a b : Int) : SoftV (.int k a) (.int k b)
  | bool (a b : Bool) : SoftV (.bool a) (.bool b)
theorem SoftV.slice {A : Option Addr} {n c : Nat} {v : Value} (h : SoftV (.slice A n c) v) : v = .slice A n c := by cases h; rfl
theorem SoftV.isInt {k : IntKind} {a : Int} {v : Value} (h : SoftV (.int k a) v) : ∃ b, v = .int k b := by
  cases h
  · exact ⟨a, rfl⟩
  · exact ⟨_, rfl⟩
theorem SoftV.isBool {a : Bool} {v : Value} (h : SoftV (.bool a) v) : ∃ b, v = .bool b := by
  cases h
  · exact ⟨a, rfl⟩
  · exact ⟨_, rfl⟩
def Soft (k0 : Nat) (w wr : World) : Prop := Chg (fun b => k0 ≤ b) w wr ∧ ∀ g, Nw k0 w g → ∃ (t : TypeId) (cs cs' : Array Value), Blk w g t cs ∧ Blk wr g t cs' ∧ ∀ (j : Nat) (v : Value), cs[j]? = some v → ∃ v', cs'[j]? = some v' ∧ SoftV v v'
theorem Soft.refl (k0 : Nat) (w : World) : Soft k0 w w := ⟨Chg.refl _ _, fun _ ⟨_, cs, t, h⟩ => ⟨t, cs, cs, h, h, fun _ v hv => ⟨v, hv, .same v⟩⟩⟩
theorem Soft.drew {k0 : Nat} {w wr : World} (h : Soft k0 w wr) : Soft k0 w wr.drew := ⟨h.1.trans (Chg.of_below ((Below.refl _ wr).drew) _) fun _ h => .inl h, h.2⟩
theorem Soft.at_ {k0 g j : Nat} {w wr : World} {v : Value} (h : Soft k0 w wr) (hn : Nw k0 w g) (hc : w.cell? ⟨g, j, none⟩ = some v) :
    ∃ v', wr.cell? ⟨g, j, none⟩ = some v' ∧ SoftV v v' ∧ wr.frozen? ⟨g, j, none⟩ = false ∧ ∀ u, SoftV v u → Soft k0 w (wr.setCell ⟨g, j, none⟩ u) := by
  obtain ⟨t, cs, cs', h1, h2, h3⟩ := h.2 g hn
  rw [h1.cell] at hc
  obtain ⟨v', hv', hs⟩ := h3 j v hc
  refine ⟨v', by rw [h2.cell]; exact hv', hs, h2.frozen _, fun u hu => ⟨h.1.setCell (p := ⟨g, j, none⟩) (.inl hn.1) u, fun g' hn' => ?_⟩⟩
  by_cases e : g' = g
  · subst e
    refine ⟨t, cs, _, h1, h2.set_ _ _, fun i x hx => ?_⟩
    by_cases ej : i = j
    · subst ej
      have : x = v := by rw [hc] at hx; exact (Option.some.inj hx).symm
      subst this
      exact ⟨u, by rw [Array.getElem?_setIfInBounds_self_of_lt (Array.getElem?_eq_some_iff.1 hv').1], hu⟩
    · obtain ⟨x', g1, g2⟩ := h3 i x hx
      exact ⟨x', by rw [Array.getElem?_setIfInBounds_ne (by omega)]; exact g1, g2⟩
  · obtain ⟨t', ds, ds', g1, g2, g3⟩ := h.2 g' hn'
    exact ⟨t', ds, ds', g1, g2.far e u, g3⟩
def VlI (k0 : Nat) (w : World) (A : Option Addr) (n : Nat) : Prop := n ≤ 9223372036854775807 ∧ (0 < n → ∃ b off, A = some ⟨b, off, none⟩ ∧ Nw k0 w b ∧ ∀ j, j < n → ∃ m, w.cell? ⟨b, off + j, none⟩ = some (.int .u8 m))
def FcI (k0 : Nat) (w : World) (A : Option Addr) (n : Nat) : Prop := n ≤ 9223372036854775807 ∧ (0 < n → ∃ b off, A = some ⟨b, off, none⟩ ∧ Nw k0 w b ∧ ∀ j, j < n → (∃ t, w.cell? ⟨b, off + j * 73 + 71, none⟩ = some (.bool t)) ∧ ∃ AV nv cv, w.cell? ⟨b, off + j * 73 + 70, none⟩ = some (.slice AV nv cv) ∧ VlI k0 w AV nv)
def TrI (k0 : Nat) (w : World) (A : Option Addr) (n : Nat) : Prop := n ≤ 9223372036854775807 ∧ (0 < n → ∃ b off, A = some ⟨b, off, none⟩ ∧ Nw k0 w b ∧ ∀ j, j < n → (∃ m, w.cell? ⟨b, off + j * 41 + 3, none⟩ = some (.int .u64 m)) ∧ ∃ AF nf cf, w.cell? ⟨b, off + j * 41 + 40, none⟩ = some (.slice AF nf cf) ∧ FcI k0 w AF nf)
theorem VlI.of_bs {k0 : Nat} {w : World} {S : Nat → Prop} {v : Value} {bs : List UInt8} (h : Bs w S v bs) (hS : ∀ b, S b → b < w.heap.size → Nw k0 w b) : ∃ A c, v = .slice A bs.length c ∧ VlI k0 w A bs.length := by
  obtain ⟨⟨_, A, c, rfl, hn, hc, hp⟩, _⟩ := h
  refine ⟨A, c, rfl, by simp only [maxLen] at hc; omega, fun h0 => ?_⟩
  obtain ⟨B, off, rfl, hs, hlt, hcell⟩ := hp h0
  exact ⟨B, off, rfl, hS B hs hlt, fun j hj => ⟨_, hcell j _ (u8s_get bs j hj)⟩⟩
theorem fact_cells {w : World} {S : Nat → Prop} {y : tFact.El} {cs : List Value} (h : tFact.rep w S y cs) : (∃ v, cs[70]? = some v ∧ Bs w S v y.2.2.1) ∧ ∃ t, cs[71]? = some (.bool t) := by
  obtain ⟨c1, _, rfl, h1, c2, _, rfl, h2, c3, _, rfl, ⟨v, rfl, hv⟩, c4, _, rfl, h4, _⟩ := h
  have h4 : c4 = [.bool _] := h4
  subst h4
  have e1 : c1.length = 38 := Sh.rep_size tCommit _ _ h1
  have e2 : c2.length = 32 := Sh.rep_size .dig _ _ h2
  refine ⟨⟨v, ?_, hv⟩, y.2.2.2.1, ?_⟩
  · rw [List.getElem?_append_right (by omega), List.getElem?_append_right (by omega), show 70 - c1.length - c2.length = 0 by omega]
    rfl
  · rw [List.getElem?_append_right (by omega), List.getElem?_append_right (by omega), show 71 - c1.length - c2.length = 1 by omega]
    rfl
theorem FcI.of_list {k0 : Nat} {w : World} {S : Nat → Prop} {v : Value} {l : List tFact.El} (h : (Sh.list tFact).rep w S l [v]) (hS : ∀ b, S b → b < w.heap.size → Nw k0 w b) : ∃ A c, v = .slice A l.length c ∧ FcI k0 w A l.length := by
  obtain ⟨A, c, rfl, hn, hat⟩ := list_at h
  refine ⟨A, c, rfl, hn, fun h0 => ?_⟩
  obtain ⟨b, off, _, rfl, _, _, _, hlt, hs⟩ := hat 0 h0
  refine ⟨b, off, rfl, hS b hs hlt, fun j hj => ?_⟩
  obtain ⟨b', off', C, e, hr, hrep, _⟩ := hat j hj
  injection e with e
  injection e with e1 e2 _
  subst e1; subst e2
  obtain ⟨⟨v, hv, hb⟩, t, ht⟩ := fact_cells hrep
  obtain ⟨AV, cv, rfl, hvl⟩ := VlI.of_bs hb hS
  exact ⟨⟨t, hr 71 _ ht⟩, AV, _, cv, hr 70 _ hv, hvl⟩
theorem tx_cells2 {w : World} {S : Nat → Prop} {x : TxE} {cs : List Value} (h : tTx.rep w S x cs) : (∃ m, cs[3]? = some (.int .u64 m)) ∧ ∃ v, cs[40]? = some v ∧ (Sh.list tFact).rep w S x.2.2.2.2.2.2.2.2.2.1 [v] := by
  obtain ⟨x0, x1, x2, x3, x4, x5, x6, x7, x8, x9, _⟩ := x
  obtain ⟨c0, _, rfl, ⟨rfl, _⟩, c1, _, rfl, ⟨rfl, _⟩, c2, _, rfl, ⟨rfl, _⟩, c3, _, rfl, ⟨rfl, _⟩, c4, _, rfl, ⟨rfl, _⟩, c5, _, rfl, ⟨rfl, _⟩, c6, _, rfl, ⟨rfl, _⟩, c7, _, rfl, h7, c8, _, rfl, ⟨rfl, _⟩, c9, _, rfl, h9, h10⟩ := h
  have h10 : _ = [] := h10
  subst h10
  have e7 : c7.length = 32 := Sh.rep_size .dig _ _ h7
  have h9' := h9
  obtain ⟨v, _, rfl, _⟩ := h9'
  refine ⟨⟨x3, rfl⟩, v, ?_, h9⟩
  show (c7 ++ ([.int (nk true) x8] ++ ([v] ++ [])))[33]? = _
  rw [List.getElem?_append_right (by omega), show 33 - c7.length = 1 by omega]
  rfl
theorem TrI.of_new {k0 : Nat} {w : World} {v : Value} {X : List TxE} (h : TxsN k0 w v X) : ∃ A c, v = .slice A X.length c ∧ TrI k0 w A X.length := by
  have hl := h.2.list
  obtain ⟨A, c, rfl, hn, hat⟩ := list_at hl
  obtain ⟨hk, css, hown, _, _⟩ := h
  have hS : ∀ b, ((Nw k0 w b ∧ (Value.slice A X.length c).ownBlock ≠ some b) ∨ (Value.slice A X.length c).ownBlock = some b) → b < w.heap.size → Nw k0 w b := fun b hb _ => by
    rcases hb with hb | hb
    · exact hb.1
    · exact ⟨hk b hb, own_th hown hb⟩
  refine ⟨A, c, rfl, hn, fun h0 => ?_⟩
  obtain ⟨b, off, _, rfl, _, _, _, hlt, hs⟩ := hat 0 h0
  refine ⟨b, off, rfl, hS b hs hlt, fun j hj => ?_⟩
  obtain ⟨b', off', C, e, hr, hrep, _⟩ := hat j hj
  injection e with e
  injection e with e1 e2 _
  subst e1; subst e2
  obtain ⟨⟨m, hm⟩, v, hv, hf⟩ := tx_cells2 hrep
  obtain ⟨AF, cf, rfl, hfc⟩ := FcI.of_list hf hS
  exact ⟨⟨m, hr 3 _ hm⟩, AF, _, cf, hr 40 _ hv, hfc⟩
end
section
open Go.RowKit Go.Maps
attribute [-simp] Tryz.isAgg40 Tryz.typeInfo40 Tryz.isAgg37 Tryz.typeInfo37
set_option maxHeartbeats 16000000 in
set_option maxRecDepth 100000 in
theorem spoil_any (w : World) {k0 : Nat} {v : Value} {X : List TxE} (h : TxsN k0 w v X) :
    Calls Tryz.prog 18 #[v] w fun e w' => e = .returned (.tuple #[]) ∧ Chg (fun b => k0 ≤ b) w w' := by
  obtain ⟨A, cap, rfl, hn63, hT⟩ := TrI.of_new h
  obtain ⟨n, hn⟩ : ∃ n, n = X.length := ⟨_, rfl⟩
  rw [← hn] at hT hn63 ⊢
  have HT := Lib.hid hT
  clear h hT hn
  go_enter Tryz.func18, Tryz.ntmps18
  go_wp2_with fail
  go_loopw [7] (fun i wr => ∃ k : Nat, k ≤ n ∧ i = .int .i64 k ∧ Hid (Soft k0 w wr)) (fun i _ => n - (intOf i).toNat)
  case atStart => exact ⟨0, Nat.zero_le _, rfl, Lib.hid (Soft.refl _ _)⟩
  case round =>
    obtain ⟨i, hi, rfl, hs⟩ := hrel
    by_cases hlt : i < n
    · obtain ⟨b, off, rfl, hnw, hat⟩ := HT.out (by omega)
      obtain ⟨⟨am, hm⟩, AF, nf, cf, hcf, hnf63, hF⟩ := hat i hlt
      have HA := Lib.hid hm
      have HCF := Lib.hid hcf
      have HNW := Lib.hid hnw
      have HF := Lib.hid hF
      clear hm hcf hnw hF hat
      obtain ⟨_, h1, h2, -, -⟩ := hs.out.at_ HNW.out HCF.out
      obtain rfl := h2.slice
      clear h2
      go_wp2_with fail
      clear h1
      go_loopw [16] (fun j wr => ∃ k : Nat, k ≤ nf ∧ j = .int .i64 k ∧ Hid (Soft k0 w wr)) (fun j _ => nf - (intOf j).toNat)
      case atStart => exact ⟨0, Nat.zero_le _, rfl, hs⟩
      case round =>
        clear hs
        obtain ⟨k, hk, rfl, hs⟩ := hrel
        by_cases hlk : k < nf
        · obtain ⟨bf, of, rfl, hnwf, hatf⟩ := HF.out (by omega)
          obtain ⟨⟨t, ht⟩, AV, nv, cv, hcv, hnv63, hV⟩ := hatf k hlk
          have HTR := Lib.hid ht
          have HCV := Lib.hid hcv
          have HNWF := Lib.hid hnwf
          have HV := Lib.hid hV
          clear ht hcv hnwf hV hatf
          obtain ⟨_, h1, h2, -, -⟩ := hs.out.at_ HNW.out HCF.out
          obtain rfl := h2.slice
          obtain ⟨_, h3, h4, -, -⟩ := hs.out.at_ HNWF.out HCV.out
          obtain rfl := h4.slice
          clear h2 h4
          go_wp2_with fail
          clear h1 h3
          go_loopw [29] (fun q wr => ∃ j : Nat, j ≤ nv ∧ q = .int .i64 j ∧ Hid (Soft k0 w wr)) (fun q _ => nv - (intOf q).toNat)
          case atStart => exact ⟨0, Nat.zero_le _, rfl, hs⟩
          case round =>
            clear hs
            obtain ⟨j, hj, rfl, hs⟩ := hrel
            obtain ⟨_, h1, h2, -, -⟩ := hs.out.at_ HNW.out HCF.out
            obtain rfl := h2.slice
            clear h2
            by_cases hlj : j < nv
            · obtain ⟨bv, ov, rfl, hnwv, hatv⟩ := HV.out (by omega)
              obtain ⟨m, hm⟩ := hatv j hlj
              obtain ⟨_, h3, h4, -, -⟩ := hs.out.at_ HNWF.out HCV.out
              obtain rfl := h4.slice
              obtain ⟨_, h5, h6, h7, h8⟩ := hs.out.at_ hnwv hm
              obtain ⟨m', rfl⟩ := h6.isInt
              obtain ⟨z, hz⟩ : ∃ z, IntKind.u8.wrap (m' + 1) = z := ⟨_, rfl⟩
              have HS' := Lib.hid (h8 (.int .u8 z) (.int _ _ _))
              clear hs h4 h6 h8 hm hnwv hatv
              go_wp2_with fail
              exact ⟨⟨j + 1, by omega, by push_cast; rfl, HS'⟩, by simp only [intOf]; omega⟩
            · have ej : j = nv := by omega
              subst ej
              clear h1
              go_wp2_with fail
              obtain ⟨_, h1, h2, -, -⟩ := hs.out.drew.at_ HNW.out HCF.out
              obtain rfl := h2.slice
              obtain ⟨_, h5, h6, h7, h8⟩ := hs.out.drew.at_ HNWF.out HTR.out
              obtain ⟨t', rfl⟩ := h6.isBool
              have HS' := Lib.hid (h8 (.bool (!t')) (.bool _ _))
              clear h2 h6 h8 hs
              refine wp_region_hoist [0, 1, 2, 3, 4, 5, 6, 7, 8, 9, 10, 11, 12, 13, 14, 15, 16, 17] [] [18] (fun w' => w'.cell? ⟨b, off + i * 41 + 40, none⟩ = some (.slice (some ⟨bf, of, none⟩) nf cf) ∧ w'.cell? ⟨bf, of + k * 73 + 71, none⟩ = some (.bool t')) (by kernel_rfl) (by kernel_rfl) (by kernel_rfl) (by kernel_rfl) (by kernel_rfl) (by kernel_rfl) ⟨h1, h5⟩ ?_
              (refine HoistK.yes (by rfl) (by kernel_rfl) ⟨?_, fun w' hSw => ?_, ?_⟩; rotate_left; (· go_simp; try with_reducible rfl); simp only [Act.put, setIfInBounds_toArray, getElem_toArray, getElem_cons_zero, set_cons_succ, set_cons_zero])
              iterate 3 (refine HoistK.yes (by rfl) (by kernel_rfl) ⟨?_, fun w' hSw => ?_, ?_⟩; rotate_left; (· go_simp; try with_reducible rfl); simp only [Act.put, setIfInBounds_toArray, getElem_toArray, getElem_cons_succ, getElem_cons_zero, set_cons_succ, set_cons_zero])
              (refine HoistK.yes (by rfl) (by kernel_rfl) ⟨?_, fun w' hSw => ?_, ?_⟩; rotate_left; (· have hc1 := hSw.1; have hc2 := hSw.2; go_simp; try with_reducible rfl); simp only [Act.put, setIfInBounds_toArray, getElem_toArray, getElem_cons_succ, getElem_cons_zero, set_cons_succ, set_cons_zero])
              iterate 5 (refine HoistK.yes (by rfl) (by kernel_rfl) ⟨?_, fun w' hSw => ?_, ?_⟩; rotate_left; (· go_simp; try with_reducible rfl); simp only [Act.put, setIfInBounds_toArray, getElem_toArray, getElem_cons_succ, getElem_cons_zero, set_cons_succ, set_cons_zero])
              (refine HoistK.yes (by rfl) (by kernel_rfl) ⟨?_, fun w' hSw => ?_, ?_⟩; rotate_left; (· have hc1 := hSw.1; have hc2 := hSw.2; go_simp; try with_reducible rfl); simp only [Act.put, setIfInBounds_toArray, getElem_toArray, getElem_cons_succ, getElem_cons_zero, set_cons_succ, set_cons_zero])
              iterate 3 (refine HoistK.yes (by rfl) (by kernel_rfl) ⟨?_, fun w' hSw => ?_, ?_⟩; rotate_left; (· go_simp; try with_reducible rfl); simp only [Act.put, setIfInBounds_toArray, getElem_toArray, getElem_cons_succ, getElem_cons_zero, set_cons_succ, set_cons_zero])
              (refine HoistK.yes (by rfl) (by kernel_rfl) ⟨?_, fun w' hSw => ?_, ?_⟩; rotate_left; (· have hc1 := hSw.1; have hc2 := hSw.2; go_simp; try with_reducible rfl); simp only [Act.put, setIfInBounds_toArray, getElem_toArray, getElem_cons_succ, getElem_cons_zero, set_cons_succ, set_cons_zero])
              iterate 3 (refine HoistK.yes (by rfl) (by kernel_rfl) ⟨?_, fun w' hSw => ?_, ?_⟩; rotate_left; (· go_simp; try with_reducible rfl); simp only [Act.put, setIfInBounds_toArray, getElem_toArray, getElem_cons_succ, getElem_cons_zero, set_cons_succ, set_cons_zero])
              refine HoistK.nil_ ?_
              simp only [opsAt, filterMap_cons, filterMap_nil, getElem?_toArray, getElem?_cons_succ, getElem?_cons_zero]
              refine Effects.nil_ fun _ hQ => ?_
              go_wp2_with fail
              exact ⟨⟨k + 1, by omega, by push_cast; rfl, HS'⟩, by simp only [intOf]; omega⟩
        · have ek : k = nf := by omega
          subst ek
          obtain ⟨_, h5, h6, h7, h8⟩ := hs.out.at_ HNW.out HA.out
          obtain ⟨m', rfl⟩ := h6.isInt
          obtain ⟨z, hz⟩ : ∃ z, IntKind.u64.wrap (m' + 1) = z := ⟨_, rfl⟩
          have HS' := Lib.hid (h8 (.int .u64 z) (.int _ _ _))
          clear hs h6 h8
          go_wp2_with fail
          exact ⟨⟨i + 1, by omega, by push_cast; rfl, HS'⟩, by simp only [intOf]; omega⟩
    · have ei : i = n := by omega
      subst ei
      have HS' := Lib.hid hs.out.1
      clear hs
      go_wp2_with fail
      go_end0
      exact ⟨rfl, HS'.out⟩
end
section
open Go.RowKit Go.Maps
attribute [-simp] Tryz.isAgg34 Tryz.typeInfo34 Tryz.isAgg40 Tryz.typeInfo40 Tryz.isAgg37 Tryz.typeInfo37 Tryz.isAgg57 Tryz.typeInfo57
def racctP (l : List (Int × Int × Int × Unit)) (t : Int) : Int × Int × Int × Unit := (l.find? fun a => a.1 == t).getD (t, 0, 0, ())
theorem bsP_spec (l : List (Int × Int × Int × Unit)) (hs : SortA l) (t : Int) (i j : Nat) (hij : i ≤ j) (hj : j ≤ l.length) (h1 : ∀ k (h : k < l.length), k < i → l[k].1 < t) (h2 : ∀ k (h : k < l.length), j ≤ k → t ≤ l[k].1) :
    (∀ k (h : k < l.length), k < bsP (l.map (·.1)) t i j → l[k].1 < t) ∧ ∀ k (h : k < l.length), bsP (l.map (·.1)) t i j ≤ k → t ≤ l[k].1 := by
  have hmono : ∀ b (hb : b < l.length) a (hab : a < b), (l[a]'(by omega)).1 < l[b].1 := by
    intro b
    induction b with
    | zero => intro _ a ha; omega
    | succ b ih =>
      intro hb a ha
      have h := hs b hb
      rcases Nat.lt_or_ge a b with hlt | hge
      · have := ih (by omega) a hlt; omega
      · obtain rfl : a = b := by omega
        exact h
  unfold bsP
  split
  · rename_i hlt
    have hm : (i + j) / 2 < l.length := by omega
    have hg : (l.map (·.1)).getD ((i + j) / 2) 0 = l[(i + j) / 2].1 := by simp [List.getD, List.getElem?_eq_getElem hm]
    rw [hg]
    split
    · rename_i hc
      refine bsP_spec l hs t _ j (by omega) hj (fun k h hk => ?_) h2
      rcases Nat.lt_or_ge k ((i + j) / 2) with h3 | h3
      · have := hmono _ hm k h3; omega
      · obtain rfl : k = (i + j) / 2 := by omega
        exact hc
    · rename_i hc
      refine bsP_spec l hs t i _ (by omega) (by omega) h1 (fun k h hk => ?_)
      rcases Nat.lt_or_ge ((i + j) / 2) k with h3 | h3
      · have := hmono k h _ h3; omega
      · obtain rfl : k = (i + j) / 2 := by omega
        omega
  · obtain rfl : i = j := by omega
    exact ⟨h1, h2⟩
termination_by j - i
theorem racct_eq {l : List (Int × Int × Int × Unit)} (hs : SortA l) (t : Int) : racctP l t = acctP l t := by
  obtain ⟨h1, h2⟩ := bsP_spec l hs t 0 l.length (Nat.zero_le _) (Nat.le_refl _) (fun k _ h => absurd h (by omega)) (fun k h hk => absurd h (by omega))
  unfold racctP acctP
  generalize bsP (l.map (·.1)) t 0 l.length = r at h1 h2
  have hmono : ∀ b (hb : b < l.length) a (hab : a < b), (l[a]'(by omega)).1 < l[b].1 := by
    intro b
    induction b with
    | zero => intro _ a ha; omega
    | succ b ih =>
      intro hb a ha
      have h := hs b hb
      rcases Nat.lt_or_ge a b with hlt | hge
      · have := ih (by omega) a hlt; omega
      · obtain rfl : a = b := by omega
        exact h
  cases hr : l[r]? with
  | none =>
    have hlen : l.length ≤ r := List.getElem?_eq_none_iff.1 hr
    have : l.find? (fun a => a.1 == t) = none := by
      rw [List.find?_eq_none]
      intro a ha
      obtain ⟨k, hk, rfl⟩ := List.getElem_of_mem ha
      have := h1 k hk (by omega)
      simp; omega
    rw [this]; rfl
  | some b =>
    obtain ⟨hrl, rfl⟩ := List.getElem?_eq_some_iff.1 hr
    by_cases he : l[r].1 = t
    · have : l.find? (fun a => a.1 == t) = some l[r] := by
        rw [List.find?_eq_some_iff_getElem]
        refine ⟨by simpa using he, r, hrl, rfl, fun k hk => ?_⟩
        have := h1 k (by omega) hk
        simp; omega
      rw [this]
      show l[r] = if l[r].1 = t then l[r] else (t, 0, 0, ())
      rw [if_pos he]
    · have : l.find? (fun a => a.1 == t) = none := by
        rw [List.find?_eq_none]
        intro a ha
        obtain ⟨k, hk, rfl⟩ := List.getElem_of_mem ha
        have hk2 : l[k].1 ≠ t := by
          rcases Nat.lt_trichotomy k r with h | h | h
          · have := h1 k hk h; omega
          · subst h; exact he
          · have a1 := hmono k hk r h
            have a2 := h2 r hrl (Nat.le_refl _)
            omega
        simpa using hk2
      rw [this]
      show (t, 0, 0, ()) = if l[r].1 = t then l[r] else (t, 0, 0, ())
      rw [if_neg he]
end
section
open Go.RowKit Go.Maps
attribute [-simp] Tryz.isAgg34 Tryz.typeInfo34 Tryz.isAgg40 Tryz.typeInfo40 Tryz.isAgg37 Tryz.typeInfo37 Tryz.isAgg57 Tryz.typeInfo57
theorem build_acc1 (w : World) (t : Int) : (Instr.build 57 #[(0, .int .u64 t)]).run Tryz.prog w = .ok (.agg (acs (t, 0, 0, ())).toArray) w := by kernel_rfl
set_option maxHeartbeats 8000000 in
set_option maxRecDepth 100000 in
theorem raccount_any (w : World) {S : Nat → Prop} {l : List (Int × Int × Int × Unit)} {ss : List Value} (h : StA w S l ss) (t : Int) :
    Calls Tryz.prog 56 #[.agg ss.toArray, .int .u64 t] w fun e w' => e = .returned (.agg (acs (racctP l t)).toArray) ∧ Below w.heap.size w w' := by
  have hal := (Below.refl w.heap.size w).alloc (Nat.le_refl _) (.cells ss.toArray 34)
  have hal2 := hal.alloc (by simp) (.cells zAcc.toArray 57)
  have hx := (Blk.new w 34 ss.toArray).alloc (.cells zAcc.toArray 57)
  have hy := Blk.new (w.alloc (.cells ss.toArray 34)) 57 zAcc.toArray
  rw [show (w.alloc (.cells ss.toArray 34)).heap.size = w.heap.size + 1 by simp] at hy
  obtain ⟨w1, hw1⟩ : ∃ w1, w1 = (w.alloc (.cells ss.toArray 34)).alloc (.cells zAcc.toArray 57) := ⟨_, rfl⟩
  rw [← hw1] at hal2 hx hy
  obtain ⟨_, _, h3, A, cap, h4, h5⟩ := h.below hal2
  have HS5 := Lib.hid h5
  obtain ⟨n, hn⟩ : ∃ n, n = l.length := ⟨_, rfl⟩
  rw [← hn] at h3 h4
  have HN := Lib.hid hn
  have HX := Lib.hid hx
  have HY := Lib.hid hy
  have HAL := Lib.hid hal2
  have HW1 := Lib.hid hw1
  have H4 := Lib.hid h4
  have HBU := Lib.hid (fun w => build_acc1 w t)
  clear h hal hal2 hx hy hw1 h4 h5 hn
  go_enter Tryz.func56, Tryz.ntmps56
  go_wp2_with fail
  rw [show ((w.alloc (.cells ss.toArray 34)).alloc (.cells #[.int .u64 0, .int .u64 0, .int .u64 0] 57)) = w1 from HW1.out.symm]
  go_loopw [5] (fun i wr => ∃ k : Nat, k ≤ n ∧ i = .int .i64 k ∧ wr = w1 ∧ Hid (∀ j (hj : j < k) (hj2 : j < l.length), l[j].1 ≠ t)) (fun i _ => n - (intOf i).toNat)
  case atStart => exact ⟨0, Nat.zero_le _, rfl, rfl, Lib.hid fun j hj => absurd hj (Nat.not_lt_zero _)⟩
  case round =>
    obtain ⟨k, hk, rfl, hw, hne⟩ := hrel
    obtain rfl := hw
    have hc1 := HX.out.cell 1
    rw [getElem?_toArray, H4.out] at hc1
    by_cases hlt : k < n
    · have hkl : k < l.length := by rw [← HN.out]; exact hlt
      obtain ⟨_, _, hp⟩ := HS5.out
      obtain ⟨b, off, rfl, _, _, hr⟩ := hp (by omega)
      have HR := Lib.hid (hr k hkl)
      have hca : wr.cell? ⟨b, off + k * 3, none⟩ = some (.int .u64 l[k].1) := hr k hkl 0 _ rfl
      have HG := Lib.hid (show l[k]? = some l[k] from List.getElem?_eq_getElem hkl)
      obtain ⟨a, ha⟩ : ∃ a, a = l[k] := ⟨_, rfl⟩
      rw [← ha] at hca HR HG
      have HA := Lib.hid (show ∀ h : k < l.length, a = l[k]'h from fun _ => ha)
      obtain ⟨nm, hnm⟩ : ∃ nm, nm = a.1 := ⟨_, rfl⟩
      rw [← hnm] at hca
      have HNM := Lib.hid hnm
      clear hp hr ha hnm hkl
      by_cases he : nm = t
      · have hb : (nm == t) = true := by simpa using he
        have HF := Lib.hid (show racctP l t = a from by
          have hkl : k < l.length := by rw [← HN.out]; exact hlt
          have : l.find? (fun x => x.1 == t) = some l[k] := by
            rw [List.find?_eq_some_iff_getElem]
            refine ⟨by rw [← HA.out hkl, ← HNM.out]; simpa using he, k, hkl, rfl, fun j hj => ?_⟩
            have := hne.out j hj (by omega)
            simpa using this
          unfold racctP
          rw [this, HA.out hkl]; rfl)
        have HI := Lib.hid (acs_size a)
        have HZL := Lib.hid (zAcc_len a)
        have H1 := Lib.hid (acs_one a)
        subst he
        clear hne
        go_wp2_with (first
          | (refine wpList_load_mid rfl 57 _ rfl b (off + k * 3) rfl (acs a) _ HR.out Tryz.underlying57 rfl HI.out ?_)
          | (refine wpList_store_blk (cs0 := zAcc) (cs := acs a) rfl 57 _ _ rfl HY.out rfl rfl HZL.out HI.out H1.out ?_; intro w2 hb hc; have HB2 := Lib.hid hb; have HC2 := Lib.hid hc; clear hb hc))
        have hld := run_loadVar_mid (P := Tryz.prog) w2 (w.heap.size + 1) 0 57 (acs a) _ HB2.out.range Tryz.underlying57 rfl HI.out
        refine bodyPost_ret (results_cell (P := Tryz.prog) Tryz.results56 (p := ⟨w.heap.size + 1, 0, none⟩) rfl hld) rfl ⟨by rw [HF.out], HAL.out.trans (HC2.out.below HAL.out.size fun b hb => by have hb : b = w.heap.size + 1 := hb; omega)⟩
      · have hb : (nm == t) = false := by simpa using he
        have HN2 := Lib.hid (show ∀ j (hj : j < k + 1) (hj2 : j < l.length), l[j].1 ≠ t from fun j hj hj2 => by
          by_cases e : j = k
          · subst e; rw [← HA.out hj2, ← HNM.out]; exact he
          · exact hne.out j (by omega) hj2)
        clear hne
        go_wp2_with fail
        exact ⟨⟨k + 1, by omega, by push_cast; rfl, trivial, HN2⟩, by simp only [intOf]; omega⟩
    · have ek : k = n := by omega
      have HF := Lib.hid (show racctP l t = (t, 0, 0, ()) from by
        have : l.find? (fun x => x.1 == t) = none := by
          rw [List.find?_eq_none]
          intro x hx
          obtain ⟨j, hj, rfl⟩ := List.getElem_of_mem hx
          have := hne.out j (by rw [ek, HN.out]; exact hj) hj
          simpa using this
        unfold racctP
        rw [this]; rfl)
      have HI := Lib.hid (acs_size (t, 0, 0, ()))
      have HZL := Lib.hid (zAcc_len (t, 0, 0, ()))
      have H1 := Lib.hid (acs_one (t, 0, 0, ()))
      subst ek
      clear hne
      go_wp2_with (first
        | (refine wpList_build_ rfl 57 _ rfl #[(0, .int .u64 t)] (by simp [Act.eval]) _ HBU.out ?_)
        | (refine wpList_store_blk (cs0 := zAcc) (cs := acs (t, 0, 0, ())) rfl 57 _ _ rfl HY.out rfl rfl HZL.out HI.out H1.out ?_; intro w2 hb hc; have HB2 := Lib.hid hb; have HC2 := Lib.hid hc; clear hb hc))
      have hld := run_loadVar_mid (P := Tryz.prog) w2 (w.heap.size + 1) 0 57 (acs (t, 0, 0, ())) _ HB2.out.range Tryz.underlying57 rfl HI.out
      refine bodyPost_ret (results_cell (P := Tryz.prog) Tryz.results56 (p := ⟨w.heap.size + 1, 0, none⟩) rfl hld) rfl ⟨by rw [HF.out], HAL.out.trans (HC2.out.below HAL.out.size fun b hb => by have hb : b = w.heap.size + 1 := hb; omega)⟩
end
section
open Go.RowKit Go.Maps
attribute [-simp] Tryz.isAgg34 Tryz.typeInfo34 Tryz.isAgg40 Tryz.typeInfo40 Tryz.isAgg37 Tryz.typeInfo37 Tryz.isAgg57 Tryz.typeInfo57
set_option maxHeartbeats 8000000 in
set_option maxRecDepth 100000 in
theorem rstale_any (w : World) {S T : Nat → Prop} {l : List (Int × Int × Int × Unit)} {ss cs : List Value} {x : TxE} (hs : StA w S l ss) (hso : SortA l) (h : tTx.rep w T x cs) :
    Calls Tryz.prog 35 #[.agg ss.toArray, .agg cs.toArray] w fun e w' => e = .returned (.bool (staleX l x)) ∧ Below w.heap.size w w' := by
  have hal := ((Below.refl w.heap.size w).alloc (Nat.le_refl _) (.cells ss.toArray 34)).alloc (by simp) (.cells cs.toArray 40)
  have hx := (Blk.new w 34 ss.toArray).alloc (.cells cs.toArray 40)
  have hy := Blk.new (w.alloc (.cells ss.toArray 34)) 40 cs.toArray
  rw [show (w.alloc (.cells ss.toArray 34)).heap.size = w.heap.size + 1 by simp] at hy
  obtain ⟨w1, hw1⟩ : ∃ w1, w1 = (w.alloc (.cells ss.toArray 34)).alloc (.cells cs.toArray 40) := ⟨_, rfl⟩
  rw [← hw1] at hal hx hy
  obtain ⟨_, c1, c4, cl⟩ := tx_cells h
  have hst : staleX l x = (spendsX x && decide (nonceX x < (racctP l (fromX x)).2.2.1)) := by rw [racct_eq hso]; rfl
  obtain ⟨f, hf⟩ : ∃ f, f = fromX x := ⟨_, rfl⟩
  obtain ⟨nn, hnn⟩ : ∃ nn, nn = nonceX x := ⟨_, rfl⟩
  rw [← hf] at c1 hst
  rw [← hnn] at c4 hst
  have HI := Lib.hid (st_of hs)
  have HJ := Lib.hid (tx_size cl)
  have HS := Lib.hid (hs.below hal)
  have H := Lib.hid (Sh.rep_below h hal)
  have HCF := Lib.hid c1
  have HCN := Lib.hid c4
  have HG := Lib.hid hst
  have HAL := Lib.hid hal
  have HW1 := Lib.hid hw1
  have hSS : Blk w1.drew (w.heap.size + 1) 40 cs.toArray ∧ Blk w1.drew w.heap.size 34 ss.toArray := ⟨hy.drew, hx.drew⟩
  have hbd := (Below.refl w1.heap.size w1).drew
  clear hal hx hy hw1 c1 c4 cl hst hf hnn hs h hso
  go_enter Tryz.func35, Tryz.ntmps35
  go_wp2_with fail
  rw [← HW1.out]
  refine wp_region_segsV [([0], [1]), ([2, 3, 4, 5, 6, 7], [8]), ([9, 10, 11], [12])] (by kernel_rfl) (by kernel_rfl) (by kernel_rfl) (by kernel_rfl)
    (SegV.mk (fun w' => Blk w' (w.heap.size + 1) 40 cs.toArray ∧ Blk w' w.heap.size 34 ss.toArray) (fun _ _ => trivial) hSS ?_)
  (refine HoistK.load (by rfl) (by kernel_rfl) 40 _ rfl (w.heap.size + 1) 0 rfl cs _ (fun w' hw => hw.1.range) Tryz.underlying40 rfl HJ.out ?_; simp only [Act.put, setIfInBounds_toArray, getElem_toArray, getElem_cons_zero, set_cons_succ, set_cons_zero])
  refine HoistK.nil_ ?_
  simp only [opsAt, filterMap_cons, filterMap_nil, getElem?_toArray, getElem?_cons_succ, getElem?_cons_zero]
  refine EffS.cons_ fun _ hQ => ?_
  go_wp2_with fail
  refine (rspends_any w1.drew (Sh.rep_below H.out hbd)).mono ?_
  rintro e w2 ⟨rfl, hb2⟩
  have hb12 := hbd.trans hb2
  have hS2 : Blk w2 (w.heap.size + 1) 40 cs.toArray ∧ Blk w2 w.heap.size 34 ss.toArray := ⟨hSS.1.below hb2 hSS.1.lt, hSS.2.below hb2 hSS.2.lt⟩
  have HB2 := Lib.hid hb12
  obtain ⟨q, hq⟩ : ∃ q, q = spendsX x := ⟨_, rfl⟩
  rw [← hq] at HG ⊢
  clear hq hbd hb2 hSS hb12
  go_wp2_with fail
  refine hQ _ _ hS2 (EffS.nil_ (SegV.mk (fun w' => Blk w' (w.heap.size + 1) 40 cs.toArray ∧ Blk w' w.heap.size 34 ss.toArray) (fun _ h => h) hS2 ?_))
  cases q
  · (refine HoistK.yes (by rfl) (by kernel_rfl) ⟨?_, fun w' hSw => ?_, ?_⟩; rotate_left; (· go_simp; try with_reducible rfl); simp only [Act.put, setIfInBounds_toArray, getElem_toArray, getElem_cons_succ, getElem_cons_zero, set_cons_succ, set_cons_zero])
    (refine HoistK.no (by rfl) (by kernel_rfl) ?_; simp only [Act.put, setIfInBounds_toArray, getElem_toArray, getElem_cons_succ, getElem_cons_zero, set_cons_succ, set_cons_zero])
    (refine HoistK.no (by rfl) (by kernel_rfl) ?_; simp only [Act.put, setIfInBounds_toArray, getElem_toArray, getElem_cons_succ, getElem_cons_zero, set_cons_succ, set_cons_zero])
    (refine HoistK.no (by rfl) (by kernel_rfl) ?_; simp only [Act.put, setIfInBounds_toArray, getElem_toArray, getElem_cons_succ, getElem_cons_zero, set_cons_succ, set_cons_zero])
    (refine HoistK.no (by rfl) (by kernel_rfl) ?_; simp only [Act.put, setIfInBounds_toArray, getElem_toArray, getElem_cons_succ, getElem_cons_zero, set_cons_succ, set_cons_zero])
    (refine HoistK.no (by rfl) (by kernel_rfl) ?_; simp only [Act.put, setIfInBounds_toArray, getElem_toArray, getElem_cons_succ, getElem_cons_zero, set_cons_succ, set_cons_zero])
    refine HoistK.nil_ ?_
    simp only [opsAt, filterMap_cons, filterMap_nil, getElem?_toArray, getElem?_cons_succ, getElem?_cons_zero]
    refine EffS.cons_ fun _ hQ => ?_
    go_wp2_with fail
    refine hQ _ _ hS2 (EffS.nil_ (SegV.mk (fun w' => Blk w' (w.heap.size + 1) 40 cs.toArray ∧ Blk w' w.heap.size 34 ss.toArray) (fun _ h => h) hS2 ?_))
    (refine HoistK.no (by rfl) (by kernel_rfl) ?_; simp only [Act.put, setIfInBounds_toArray, getElem_toArray, getElem_cons_succ, getElem_cons_zero, set_cons_succ, set_cons_zero])
    (refine HoistK.no (by rfl) (by kernel_rfl) ?_; simp only [Act.put, setIfInBounds_toArray, getElem_toArray, getElem_cons_succ, getElem_cons_zero, set_cons_succ, set_cons_zero])
    (refine HoistK.yes (by rfl) (by kernel_rfl) ⟨?_, fun w' hSw => ?_, ?_⟩; rotate_left; (· go_simp; try with_reducible rfl); simp only [Act.put, setIfInBounds_toArray, getElem_toArray, getElem_cons_succ, getElem_cons_zero, set_cons_succ, set_cons_zero])
    refine HoistK.nil_ ?_
    simp only [opsAt, filterMap_cons, filterMap_nil, getElem?_toArray, getElem?_cons_succ, getElem?_cons_zero]
    refine EffS.cons_ fun _ hQ => ?_
    go_wp2_with fail
    refine hQ _ _ hS2 (EffS.nil_ fun _ hQ => ?_)
    go_wp2_with fail
    go_ret
    exact ⟨by rw [HG.out]; rfl, HAL.out.trans (HB2.out.mono HAL.out.size)⟩
  · (refine HoistK.yes (by rfl) (by kernel_rfl) ⟨?_, fun w' hSw => ?_, ?_⟩; rotate_left; (· go_simp; try with_reducible rfl); simp only [Act.put, setIfInBounds_toArray, getElem_toArray, getElem_cons_succ, getElem_cons_zero, set_cons_succ, set_cons_zero])
    (refine HoistK.yes (by rfl) (by kernel_rfl) ⟨?_, fun w' hSw => ?_, ?_⟩; rotate_left; (· go_simp; try with_reducible rfl); simp only [Act.put, setIfInBounds_toArray, getElem_toArray, getElem_cons_succ, getElem_cons_zero, set_cons_succ, set_cons_zero])
    (refine HoistK.yes (by rfl) (by kernel_rfl) ⟨?_, fun w' hSw => ?_, ?_⟩; rotate_left; (· have hcn := hSw.1.cell 4; rw [getElem?_toArray, HCN.out] at hcn; have hcf := hSw.1.cell 1; rw [getElem?_toArray, HCF.out] at hcf; go_simp; try with_reducible rfl); simp only [Act.put, setIfInBounds_toArray, getElem_toArray, getElem_cons_succ, getElem_cons_zero, set_cons_succ, set_cons_zero])
    (refine HoistK.load (by rfl) (by kernel_rfl) 34 _ rfl w.heap.size 0 rfl ss _ (fun w' hw => hw.2.range) Tryz.underlying34 rfl HI.out ?_; simp only [Act.put, setIfInBounds_toArray, getElem_toArray, getElem_cons_succ, getElem_cons_zero, set_cons_succ, set_cons_zero])
    (refine HoistK.yes (by rfl) (by kernel_rfl) ⟨?_, fun w' hSw => ?_, ?_⟩; rotate_left; (· go_simp; try with_reducible rfl); simp only [Act.put, setIfInBounds_toArray, getElem_toArray, getElem_cons_succ, getElem_cons_zero, set_cons_succ, set_cons_zero])
    (refine HoistK.yes (by rfl) (by kernel_rfl) ⟨?_, fun w' hSw => ?_, ?_⟩; rotate_left; (· have hcn := hSw.1.cell 4; rw [getElem?_toArray, HCN.out] at hcn; have hcf := hSw.1.cell 1; rw [getElem?_toArray, HCF.out] at hcf; go_simp; try with_reducible rfl); simp only [Act.put, setIfInBounds_toArray, getElem_toArray, getElem_cons_succ, getElem_cons_zero, set_cons_succ, set_cons_zero])
    refine HoistK.nil_ ?_
    simp only [opsAt, filterMap_cons, filterMap_nil, getElem?_toArray, getElem?_cons_succ, getElem?_cons_zero]
    refine EffS.cons_ fun _ hQ => ?_
    go_wp2_with fail
    refine (raccount_any w2 (HS.out.below HB2.out) f).mono ?_
    rintro e w3 ⟨rfl, hb3⟩
    have hb13 := HB2.out.trans (hb3.mono HB2.out.size)
    have hS3 : Blk w3 (w.heap.size + 1) 40 cs.toArray ∧ Blk w3 w.heap.size 34 ss.toArray := ⟨hS2.1.below hb3 hS2.1.lt, hS2.2.below hb3 hS2.2.lt⟩
    have HB3 := Lib.hid hb13
    obtain ⟨ac, hac⟩ : ∃ ac, ac = racctP l f := ⟨_, rfl⟩
    rw [← hac] at HG ⊢
    clear hac hb3 hS2 hb13
    go_wp2_with fail
    refine hQ _ _ hS3 (EffS.nil_ (SegV.mk (fun w' => Blk w' (w.heap.size + 1) 40 cs.toArray ∧ Blk w' w.heap.size 34 ss.toArray) (fun _ h => h) hS3 ?_))
    (refine HoistK.yes (by rfl) (by kernel_rfl) ⟨?_, fun w' hSw => ?_, ?_⟩; rotate_left; (· have hfn := field_nonce ac w'; unfold acs; go_simp; try with_reducible rfl); simp only [Act.put, setIfInBounds_toArray, getElem_toArray, getElem_cons_succ, getElem_cons_zero, set_cons_succ, set_cons_zero])
    iterate 2 (refine HoistK.yes (by rfl) (by kernel_rfl) ⟨?_, fun w' hSw => ?_, ?_⟩; rotate_left; (· go_simp; try with_reducible rfl); simp only [Act.put, setIfInBounds_toArray, getElem_toArray, getElem_cons_succ, getElem_cons_zero, set_cons_succ, set_cons_zero])
    refine HoistK.nil_ ?_
    simp only [opsAt, filterMap_cons, filterMap_nil, getElem?_toArray, getElem?_cons_succ, getElem?_cons_zero]
    refine EffS.cons_ fun _ hQ => ?_
    go_wp2_with fail
    refine hQ _ _ hS3 (EffS.nil_ fun _ hQ => ?_)
    go_wp2_with fail
    go_ret
    exact ⟨by rw [HG.out]; rfl, HAL.out.trans (HB3.out.mono HAL.out.size)⟩
end
section
open Go.RowKit Go.Maps
attribute [-simp] Tryz.isAgg34 Tryz.typeInfo34 Tryz.isAgg40 Tryz.typeInfo40 Tryz.isAgg37 Tryz.typeInfo37 Tryz.isAgg57 Tryz.typeInfo57
theorem RPool.below {S : Nat → Prop} {w w' : World} {g most : Nat} {v : Value} {X : List TxE} (h : RPool S w g v most X) (hb : Below w.heap.size w w') : RPool S w' g v most X :=
  ⟨h.1, h.2.1, h.2.2.1.below hb h.2.2.1.lt, h.2.2.2.1.below hb, h.2.2.2.2⟩
def RAddOut (U : Nat → Prop) (w : World) (g : Nat) (v : Value) (most : Nat) (r : Int) (X' : List TxE) (e : Ending) (w' : World) : Prop :=
  e = .returned (.int .i64 r) ∧ ∃ v', RPool U w' g v' most X' ∧ Chg (fun b => b = g ∨ v.ownBlock = some b) w w' ∧ (v'.ownBlock = v.ownBlock ∨ ∃ k, v'.ownBlock = some k ∧ w.heap.size ≤ k)
theorem RAddOut.none_ {U : Nat → Prop} {w w' : World} {g most : Nat} {v : Value} {X : List TxE} {r : Int} (h : RPool U w g v most X) (hb : Below w.heap.size w w') : RAddOut U w g v most r X (.returned (.int .i64 r)) w' :=
  ⟨rfl, v, h.below hb, Chg.of_below hb _, .inl rfl⟩
set_option maxHeartbeats 16000000 in
set_option maxRecDepth 100000 in
theorem radd_any (hform : ∀ (w : World) {S : Nat → Prop} {x : TxE} {cs : List Value}, tTx.rep w S x cs → Calls Tryz.prog 33 #[.agg cs.toArray] w fun e w' => e = .returned (.int .i64 (formX x)) ∧ Below w.heap.size w w')
    (w : World) {S T U : Nat → Prop} {l : List (Int × Int × Int × Unit)} {ss cs : List Value} {x : TxE} {g most : Nat} {v : Value} {X : List TxE} (hs : StA w S l ss) (hso : SortA l) (h : tTx.rep w T x cs) (hp : RPool U w g v most X) (hTU : ∀ b, T b → U b) (hU : ∀ b, U b → b < w.heap.size) (hUg : ¬ U g)
    (hX : ∀ y ∈ X, (tTx.enc y).length ≤ 1099511627776) (hl : (tTx.enc x).length ≤ 1099511627776) :
    Calls Tryz.prog 14 #[.pointer (some ⟨g, 0, none⟩), .agg ss.toArray, .agg cs.toArray] w (RAddOut U w g v most (addE l most (encsX X) x) (addX l most X x)) := by
  have hcl := (tx_cells h).2.2.2
  have hal := ((Below.refl w.heap.size w).alloc (Nat.le_refl _) (.cells ss.toArray 34)).alloc (by simp) (.cells cs.toArray 40)
  have hx := (Blk.new w 34 ss.toArray).alloc (.cells cs.toArray 40)
  have hy := Blk.new (w.alloc (.cells ss.toArray 34)) 40 cs.toArray
  rw [show (w.alloc (.cells ss.toArray 34)).heap.size = w.heap.size + 1 by simp] at hy
  have HI := Lib.hid (st_of hs)
  have HJ := Lib.hid (tx_size hcl)
  have HS := Lib.hid hs
  have HSO := Lib.hid hso
  have H := Lib.hid h
  have HP := Lib.hid hp
  have HL := Lib.hid hl
  have HLX := Lib.hid hX
  have HX := Lib.hid hx
  have HY := Lib.hid hy
  have HAL := Lib.hid hal
  have HTU := Lib.hid (And.intro hTU (And.intro hU hUg))
  have HE0 := Lib.hid (show addE l most (encsX X) x = if formX x ≠ 0 then formX x else if 65536 < (tTx.enc x).length then 4 else if tTx.enc x ∈ encsX X then 31 else if staleX l x then 21 else if most ≤ (encsX X).length then 42 else 0 from rfl)
  clear hs hso h hp hl hX hx hy hal hcl hTU hU hUg
  go_enter Tryz.func14, Tryz.ntmps14
  go_wp2_with (refine wpList_load_blk' rfl 40 _ rfl HY.out rfl Tryz.underlying40 rfl HJ.out ?_)
  refine (hform _ (Sh.rep_below H.out HAL.out)).mono ?_
  rintro e w1 ⟨rfl, hb1⟩
  have HX1 := Lib.hid (HX.out.below hb1 HX.out.lt)
  have HY1 := Lib.hid (HY.out.below hb1 HY.out.lt)
  have HB1 := Lib.hid (HAL.out.trans (hb1.mono HAL.out.size))
  obtain ⟨q, hq⟩ : ∃ q, q = formX x := ⟨_, rfl⟩
  have HQ := Lib.hid hq
  rw [← hq]
  clear hb1 HX HY HAL hq
  by_cases hq0 : q = 0
  rotate_left
  · have HN := Lib.hid (show addE l most (encsX X) x = q from by rw [HE0.out, if_pos (by rw [← HQ.out]; exact hq0), HQ.out])
    have hqb : (q == 0) = false := by simpa using hq0
    have hqc : (q != 0) = true := by simpa using hq0
    go_wp2_with fail
    go_ret
    have hL : addX l most X x = X := if_neg (by rw [HN.out]; exact hq0)
    rw [HN.out, hL]
    exact RAddOut.none_ HP.out HB1.out
  subst hq0
  have HE1 := Lib.hid (HE0.out.trans (if_neg (by rw [← HQ.out]; simp)))
  clear HE0
  go_wp2_with (refine wpList_load_blk' rfl 40 _ rfl HY1.out rfl Tryz.underlying40 rfl HJ.out ?_)
  refine (rTx_any w1 (Sh.rep_below H.out HB1.out) HL.out).mono ?_
  rintro e w2 ⟨v2, rfl, f2⟩
  obtain ⟨A2, c2, rfl⟩ := f2.1.1.form
  obtain ⟨nb, hnb⟩ : ∃ nb, nb = (tTx.enc x).length := ⟨_, rfl⟩
  rw [← hnb] at HE1 ⊢
  have HX2 := Lib.hid (HX1.out.below f2.2 HX1.out.lt)
  have HY2 := Lib.hid (HY1.out.below f2.2 HY1.out.lt)
  have HB2 := Lib.hid (HB1.out.trans (f2.2.mono HB1.out.size))
  clear hnb HX1 HY1 HB1 f2
  by_cases hbig : 65536 < nb
  · have hbI : (65536 : Int) < (nb : Int) := by omega
    have HN := Lib.hid (show addE l most (encsX X) x = 4 from by rw [HE1.out, if_pos hbig])
    go_wp2_with fail
    go_ret
    have hL : addX l most X x = X := if_neg (by rw [HN.out]; decide)
    rw [HN.out, hL]
    exact RAddOut.none_ HP.out HB2.out
  have hbI : ¬ (65536 : Int) < (nb : Int) := by omega
  have HE2 := Lib.hid (HE1.out.trans (if_neg hbig))
  clear HE1 hbig
  go_wp2_with fail
  have hp2 := (HP.out.below HB2.out).below ((Below.refl w2.heap.size w2).drew)
  have hg1 : w2.drew.cell? ⟨g, 1, none⟩ = some v := by rw [hp2.2.2.1.cell]; rfl
  obtain ⟨A, cap, rfl⟩ := hp2.2.2.2.1.form
  obtain ⟨nX, hnX⟩ : ∃ nX, nX = X.length := ⟨_, rfl⟩
  have e0 : (Value.slice A X.length cap) = .slice A nX cap := by rw [hnX]
  have HP0 := HP
  rw [e0] at HP hp2 hg1 ⊢
  have HNX := Lib.hid hnX
  have HIN := Lib.hid (rin_any w2.drew (hp2.2.2.2.1.list) (Sh.rep_below (Sh.rep_below H.out HB2.out) ((Below.refl w2.heap.size w2).drew)) HLX.out HL.out)
  have hSS : Blk w2.drew g 51 #[.int .i64 most, .slice A nX cap] ∧ Blk w2.drew (w.heap.size + 1) 40 cs.toArray := ⟨hp2.2.2.1, HY2.out.drew⟩
  clear hnX hp2 hg1 e0
  refine wp_region_segsV [([0, 1, 2, 3, 4], [5])] (by kernel_rfl) (by kernel_rfl) (by kernel_rfl) (by kernel_rfl)
    (SegV.mk (fun w' => Blk w' g 51 #[.int .i64 most, .slice A nX cap] ∧ Blk w' (w.heap.size + 1) 40 cs.toArray) (fun _ _ => trivial) hSS ?_)
  (refine HoistK.yes (by rfl) (by kernel_rfl) ⟨?_, fun w' hSw => ?_, ?_⟩; rotate_left; (· go_simp; try with_reducible rfl); simp only [Act.put, setIfInBounds_toArray, getElem_toArray, getElem_cons_zero, set_cons_succ, set_cons_zero])
  iterate 2 (refine HoistK.yes (by rfl) (by kernel_rfl) ⟨?_, fun w' hSw => ?_, ?_⟩; rotate_left; (· go_simp; try with_reducible rfl); simp only [Act.put, setIfInBounds_toArray, getElem_toArray, getElem_cons_succ, getElem_cons_zero, set_cons_succ, set_cons_zero])
  (refine HoistK.yes (by rfl) (by kernel_rfl) ⟨?_, fun w' hSw => ?_, ?_⟩; rotate_left; (· have hcg : w'.cell? ⟨g, 1, none⟩ = some (.slice A nX cap) := (by rw [hSw.1.cell]; rfl); have hcm : w'.cell? ⟨g, 0, none⟩ = some (.int .i64 most) := (by rw [hSw.1.cell]; rfl); go_simp; try with_reducible rfl); simp only [Act.put, setIfInBounds_toArray, getElem_toArray, getElem_cons_succ, getElem_cons_zero, set_cons_succ, set_cons_zero])
  (refine HoistK.load (by rfl) (by kernel_rfl) 40 _ rfl (w.heap.size + 1) 0 rfl cs _ (fun w' hw => hw.2.range) Tryz.underlying40 rfl HJ.out ?_; simp only [Act.put, setIfInBounds_toArray, getElem_toArray, getElem_cons_succ, getElem_cons_zero, set_cons_succ, set_cons_zero])
  refine HoistK.nil_ ?_
  simp only [opsAt, filterMap_cons, filterMap_nil, getElem?_toArray, getElem?_cons_succ, getElem?_cons_zero]
  refine EffS.cons_ fun _ hQ => ?_
  go_wp2_with fail
  refine HIN.out.mono ?_
  rintro e w3 ⟨rfl, hb3⟩
  have HB3 := Lib.hid (HB2.out.trans ((((Below.refl w2.heap.size w2).drew).trans hb3).mono HB2.out.size))
  have hS3 : Blk w3 g 51 #[.int .i64 most, .slice A nX cap] ∧ Blk w3 (w.heap.size + 1) 40 cs.toArray := ⟨hSS.1.below hb3 hSS.1.lt, hSS.2.below hb3 hSS.2.lt⟩
  have HX3 := Lib.hid (HX2.out.drew.below hb3 HX2.out.drew.lt)
  have HY3 := Lib.hid hS3.2
  have HIX := Lib.hid (inX_iff X x)
  obtain ⟨qi, hqi⟩ : ∃ q, q = inX X x := ⟨_, rfl⟩
  rw [← hqi] at HIX ⊢
  clear hqi hb3 hSS HIN HX2 HY2
  go_wp2_with fail
  refine hQ _ _ hS3 (EffS.nil_ fun _ hQ => ?_)
  clear hS3
  cases qi
  rotate_left
  · have hm : tTx.enc x ∈ encsX X := of_decide_eq_true HIX.out.symm
    have HN := Lib.hid (show addE l most (encsX X) x = 31 from by rw [HE2.out, if_pos hm])
    clear hm
    go_wp2_with fail
    go_ret
    have hL : addX l most X x = X := if_neg (by rw [HN.out]; decide)
    rw [HN.out, hL]
    exact RAddOut.none_ HP0.out HB3.out
  have HE3 := Lib.hid (HE2.out.trans (if_neg (of_decide_eq_false HIX.out.symm)))
  clear HE2 HIX
  go_wp2_with (first
    | (refine wpList_load_blk' rfl 40 _ rfl HY3.out rfl Tryz.underlying40 rfl HJ.out ?_)
    | (refine wpList_load_blk' rfl 34 _ rfl HX3.out rfl Tryz.underlying34 rfl HI.out ?_))
  refine (rstale_any w3 (HS.out.below HB3.out) HSO.out (Sh.rep_below H.out HB3.out)).mono ?_
  rintro e w4 ⟨rfl, hb4⟩
  have HB4 := Lib.hid (HB3.out.trans (hb4.mono HB3.out.size))
  have HY4 := Lib.hid (HY3.out.below hb4 HY3.out.lt)
  obtain ⟨b, hb⟩ : ∃ b, b = staleX l x := ⟨_, rfl⟩
  rw [← hb] at HE3 ⊢
  clear hb hb4 HX3 HY3
  cases b
  rotate_left
  · have HN := Lib.hid (show addE l most (encsX X) x = 21 from by rw [HE3.out]; rfl)
    go_wp2_with fail
    go_ret
    have hL : addX l most X x = X := if_neg (by rw [HN.out]; decide)
    rw [HN.out, hL]
    exact RAddOut.none_ HP0.out HB4.out
  have HE4 := Lib.hid (HE3.out.trans (if_neg (by simp)))
  clear HE3
  have hp4 := HP.out.below HB4.out
  have hg0 : w4.cell? ⟨g, 0, none⟩ = some (.int .i64 most) := by rw [hp4.2.2.1.cell]; rfl
  have hg1 : w4.cell? ⟨g, 1, none⟩ = some (.slice A nX cap) := by rw [hp4.2.2.1.cell]; rfl
  have HP4 := Lib.hid hp4
  have hln : (encsX X).length = nX := by unfold encsX; rw [List.length_map, HNX.out]
  rw [hln] at HE4
  clear hp4 hln
  by_cases hfull : most ≤ nX
  · have hfI : (most : Int) ≤ (nX : Int) := by omega
    have HN := Lib.hid (show addE l most (encsX X) x = 42 from by rw [HE4.out, if_pos hfull])
    go_wp2_with fail
    go_quiet (fail)
    go_wp2_with fail
    go_ret
    have hL : addX l most X x = X := if_neg (by rw [HN.out]; decide)
    rw [HN.out, hL]
    exact RAddOut.none_ HP0.out (below_drewN HB4.out _)
  have hfI : ¬ (most : Int) ≤ (nX : Int) := by omega
  have HN := Lib.hid (show addE l most (encsX X) x = 0 from by rw [HE4.out, if_neg hfull])
  have HLT := Lib.hid (show nX + 1 ≤ most from by omega)
  clear HE4
  go_wp2_with fail
  go_quiet (fail)
  go_wp2_with fail
  obtain ⟨w5, hw5⟩ : ∃ w5, w5 = (w4.drewN nq) := ⟨_, rfl⟩
  rw [← hw5]
  have hb5 : Below w4.heap.size w4 w5 := by rw [hw5]; exact below_drewN (Below.refl _ _) nq
  have hp5 := (HP4.out.below hb5).below ((Below.refl w5.heap.size w5).drew)
  have hy5 := (HY4.out.below hb5 HY4.out.lt).drew
  have HB5 := Lib.hid ((HB4.out.trans (hb5.mono HB4.out.size)).drew)
  have HREP := Lib.hid (Sh.rep_below H.out HB5.out)
  have H1 := Lib.hid (Sh.rep_one _ _ _ H.out)
  have HCL := Lib.hid (tx_cells H.out).2.2.2
  have HI2 := Lib.hid (show (Tryz.prog.info? 40).map (fun i => (i.zero.map (fun z => z.cells.size), i.size)) = some (some cs.length, cs.length) from by rw [HCL.out]; exact sizes_tx)
  obtain ⟨css, hown, hns, htwo⟩ := hp5.2.2.2.1
  rw [← HNX.out] at hown
  have HO2 := Lib.hid (show ∀ ob, Own (w5.drew.alloc ob) 40 41 (.slice A nX cap) nX css.flatten from fun ob => own_keep hown fun b hb => Below.heap_alloc w5.drew ob b (own_lt hown hb))
  have HSN := Lib.hid (Cs.of_new w5.drew 40 (size := 41) 1 (cs := cs) (by rw [HCL.out]) (by simp only [maxLen]; decide))
  have HU2 := Lib.hid (show nX + 1 ≤ maxLen ∧ (nX + 1) * 120 ≤ 140737488355328 from by
    have h1 := HP.out.1
    have h2 := HLT.out
    exact ⟨by simp only [maxLen]; omega, by omega⟩)
  have HNS := Lib.hid hns
  have HTWO := Lib.hid htwo
  have HP5 := Lib.hid hp5
  have hSS : Blk w5.drew g 51 #[.int .i64 most, .slice A nX cap] ∧ Blk w5.drew (w.heap.size + 1) 40 cs.toArray := ⟨hp5.2.2.1, hy5⟩
  clear hw5 hb5 hp5 hy5 hown hns htwo hg0 hg1 HY4
  refine wp_region_hoist [0, 1, 2, 3, 4, 5] [6, 7, 8, 9] [10] (fun w' => Blk w' g 51 #[.int .i64 most, .slice A nX cap] ∧ Blk w' (w.heap.size + 1) 40 cs.toArray) (by kernel_rfl) (by kernel_rfl) (by kernel_rfl) (by kernel_rfl) (by kernel_rfl) (by kernel_rfl) hSS ?_
  (refine HoistK.yes (by rfl) (by kernel_rfl) ⟨?_, fun w' hSw => ?_, ?_⟩; rotate_left; (· go_simp; try with_reducible rfl); simp only [Act.put, setIfInBounds_toArray, getElem_toArray, getElem_cons_zero, set_cons_succ, set_cons_zero])
  iterate 3 (refine HoistK.yes (by rfl) (by kernel_rfl) ⟨?_, fun w' hSw => ?_, ?_⟩; rotate_left; (· go_simp; try with_reducible rfl); simp only [Act.put, setIfInBounds_toArray, getElem_toArray, getElem_cons_succ, getElem_cons_zero, set_cons_succ, set_cons_zero])
  (refine HoistK.yes (by rfl) (by kernel_rfl) ⟨?_, fun w' hSw => ?_, ?_⟩; rotate_left; (· have hcg : w'.cell? ⟨g, 1, none⟩ = some (.slice A nX cap) := (by rw [hSw.1.cell]; rfl); have hcm : w'.cell? ⟨g, 0, none⟩ = some (.int .i64 most) := (by rw [hSw.1.cell]; rfl); go_simp; try with_reducible rfl); simp only [Act.put, setIfInBounds_toArray, getElem_toArray, getElem_cons_succ, getElem_cons_zero, set_cons_succ, set_cons_zero])
  (refine HoistK.load (by rfl) (by kernel_rfl) 40 _ rfl (w.heap.size + 1) 0 rfl cs _ (fun w' hw => hw.2.range) Tryz.underlying40 rfl HJ.out ?_; simp only [Act.put, setIfInBounds_toArray, getElem_toArray, getElem_cons_succ, getElem_cons_zero, set_cons_succ, set_cons_zero])
  refine HoistK.nil_ ?_
  simp only [opsAt, filterMap_cons, filterMap_nil, getElem?_toArray, getElem?_cons_succ, getElem?_cons_zero]
  refine Effects.cons_ fun _ hQ => ?_
  go_wp2_with (refine wpList_row1 rfl 46 40 _ rfl Tryz.underlying46 (.agg cs.toArray) rfl cs rfl HI2.out (by rw [HCL.out]; decide) (by rw [HCL.out]; decide) ?_)
  refine hQ _ _ ⟨hSS.1.alloc _, hSS.2.alloc _⟩ (Effects.cons_ fun _ hQ => ?_)
  go_wp2_with (at_builtin; refine wpList_app _ rfl _ _ _ rfl Tryz.underlying46 info_tx rfl (by decide) (HO2.out _) rfl HSN.out rfl H1.out HU2.out.1 HU2.out.2 ?_; intro v6 w6 ho6 hc6 hnil6 hat6; clear hnil6; obtain ⟨A6, c6, rfl⟩ := ho6.form; have HO6 := Lib.hid ho6; clear ho6; have HC6 := Lib.hid hc6; clear hc6; have HAT6 := Lib.hid hat6; clear hat6)
  have hov : ∀ b, (Value.slice A nX cap).ownBlock = some b → b < w.heap.size := fun b hb => HP.out.2.2.2.1.lt hb
  have hS6 : Blk w6 g 51 #[.int .i64 most, .slice A nX cap] ∧ Blk w6 (w.heap.size + 1) 40 cs.toArray :=
    ⟨(hSS.1.alloc _).chg HC6.out HP.out.2.2.2.2, (hSS.2.alloc _).chg HC6.out fun h => by have := hov _ h; omega⟩
  have HOV := Lib.hid hov
  clear hSS hov
  refine hQ _ _ hS6 (Effects.cons_ fun _ hQ => ?_)
  go_wp2_with fail
  refine hQ _ _ hS6 (Effects.cons_ fun _ hQ => ?_)
  go_wp2_with fail
  refine hQ _ _ hS6 (Effects.nil_ fun _ hQ => ?_)
  have HK6 := Lib.hid (show Blk w6 g 51 [.int .i64 most, .slice A nX cap].toArray from hS6.1)
  clear hS6
  refine wpList_store_cell (cs := [.int .i64 most, .slice A nX cap]) rfl 46 _ _ rfl HK6.out rfl (by simp) (v := .slice A6 (nX + 1) c6) rfl rfl (by kernel_rfl) rfl ?_
  intro w7 hb7 hc7
  have HB7 := Lib.hid hb7
  have HC7 := Lib.hid hc7
  clear hb7 hc7
  go_wp2_with fail
  go_ret
  have hL : addX l most X x = X ++ [x] := by unfold addX; rw [if_pos HN.out]
  rw [HN.out, hL]
  have hzz : (w5.alloc (.cells cs.toArray 40)).drew.heap.size = w5.heap.size + 1 := by
    show (w5.alloc (.cells cs.toArray 40)).heap.size = _
    simp
  have hz5 : w.heap.size ≤ w5.heap.size := HB5.out.size
  have h4 : ∀ b, (Value.slice A6 (nX + 1) c6).ownBlock = some b → ¬ U b ∧ b ≠ g := fun b hb => by
    rcases HAT6.out with h | h
    · exact ⟨HNS.out b (h ▸ hb), fun e => HP.out.2.2.2.2 (by rw [← h, hb, e])⟩
    · rw [h, hzz] at hb; injection hb with hb
      have hg := HP.out.2.2.1.lt
      exact ⟨fun hu => by have := HTU.out.2.1 b hu; omega, by omega⟩
  have hsn : TxsO U w6 (.slice A6 (nX + 1) c6) (X ++ [x]) := TxsO.snoc (S' := U) HNS.out HTWO.out (Below.refl _ _) (Sh.rep_sub HREP.out fun b hb _ => HTU.out.1 b hb) (Below.refl _ _) (by rw [← HNX.out]; exact HO6.out) HC6.out (fun _ h _ => h) (fun b h _ h' => HNS.out b h' h) (fun _ h _ => h) fun b hb => (h4 b hb).1
  have hsn7 := hsn.chg HC7.out (fun k hk e => by have e : k = g := e; exact HTU.out.2.2 (e ▸ hk)) (fun k hk e => (h4 k hk).2 e)
  rw [show (Value.slice A X.length cap) = .slice A nX cap by rw [HNX.out]]
  refine ⟨rfl, .slice A6 (nX + 1) c6, ⟨HP.out.1, by rw [List.length_append, ← HNX.out]; exact HLT.out, HB7.out, hsn7, fun h => (h4 g h).2 rfl⟩, ?_, ?_⟩
  · refine (((Chg.of_below HB5.out fun b => b = g ∨ (Value.slice A nX cap).ownBlock = some b).alloc _).trans HC6.out fun b h => .inl (.inr h)).trans HC7.out fun b h => .inl (.inl h)
  · rcases HAT6.out with h | h
    · exact .inl h
    · exact .inr ⟨_, h, by rw [hzz]; omega⟩
end
end Go.Proofs.YtkclkmjlodomkaaGreatDoor
