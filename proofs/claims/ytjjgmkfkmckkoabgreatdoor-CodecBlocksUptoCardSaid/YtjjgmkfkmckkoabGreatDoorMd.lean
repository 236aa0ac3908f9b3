/- Texts joined: CrL CdT CdL CdU CfN CfT CgA CfH CgB CdO CdQ CfL CfW CgN CsA Law LawUp Open CsN. -/
import Derived.Test.YtjjgmkfkmckkoabGreatDoorMb
import Derived.Test.YtjjgmkfkmckkoabGreatDoorMa
import Derived.Test.YtjjgmkfkmckkoabGreatDoorMc
import Derived.Test.YtjjgmkfkmckkoabGreatDoorRows
import Derived.ProofKit
import Derived.SizedLaws
import Derived.WideKeyArgs
import Derived.Below
import Derived.Carry
import Derived.Deep.Slices
import Derived.Deep.Fields
import Derived.ChangeSame
import Derived.Test.YtjjgmkfkmckkoabGreatDoorBulk
import Derived.JoinedCond
import Derived.OpenShut
/- Codec: reference: a block. -/
namespace Go.Proofs.YtjjgmkfkmckkoabGreatDoor
open Go.RowKit Go.Maps
attribute [-simp] Tryz.isAgg24 Tryz.typeInfo24 Tryz.isAgg29 Tryz.typeInfo29 Tryz.isAgg33 Tryz.typeInfo33 Tryz.isAgg37 Tryz.typeInfo37 Tryz.isAgg56 Tryz.typeInfo56 Tryz.isAgg27 Tryz.typeInfo27

set_option maxHeartbeats 8000000 in
set_option maxRecDepth 100000 in
theorem rBlock_any (w : World) {S : Nat → Prop} {x : tBlock.El} {cs : List Value} (h : tBlock.rep w S x cs) (hl : (tBlock.enc x).length ≤ 1099511627776) :
    Calls Tryz.prog 20 #[.agg cs.toArray] w fun e w' => ∃ v', e = .returned v' ∧ Fresh w w' v' (tBlock.enc x) := by
  obtain ⟨x0, x1, x2, x3, x4, _⟩ := x
  obtain ⟨c0, _, rfl, r0, c1, _, rfl, r1, c2, _, rfl, r2, c3, _, rfl, r3, c4, _, rfl, r4, rfl⟩ := h
  have l0 : c0.length = 101 := Sh.rep_size _ _ _ r0
  obtain ⟨y0, hy0⟩ : ∃ y, y = c0 := ⟨_, rfl⟩
  subst hy0
  have l1 : c1.length = 37 := Sh.rep_size _ _ _ r1
  obtain ⟨y1, hy1⟩ : ∃ y, y = c1 := ⟨_, rfl⟩
  subst hy1
  obtain ⟨y2, rfl⟩ : ∃ y, c2 = [y] := by obtain ⟨v, _, e, _⟩ := r2; exact ⟨v, e⟩
  obtain ⟨y3, rfl⟩ : ∃ y, c3 = [y] := by obtain ⟨v, _, e, _⟩ := r3; exact ⟨v, e⟩
  have l4 : c4.length = 33 := Sh.rep_size _ _ _ r4
  obtain ⟨y4, hy4⟩ : ∃ y, y = c4 := ⟨_, rfl⟩
  subst hy4
  obtain ⟨A2, cap2, rfl, hlen2, _⟩ := list_at r2
  obtain ⟨A3, cap3, rfl, hlen3, _⟩ := list_at r3
  have R0 := Lib.hid r0; clear r0
  have R1 := Lib.hid r1; clear r1
  have R2 := Lib.hid r2; clear r2
  have R3 := Lib.hid r3; clear r3
  have R4 := Lib.hid r4; clear r4
  obtain ⟨C, hC⟩ : ∃ C, C = y0 ++ (y1 ++ ([Value.slice A2 (List.length (α := (tCommit).El) x2) cap2] ++ ([Value.slice A3 (List.length (α := (tTx).El) x3) cap3] ++ (y4 ++ ([]))))) := ⟨_, rfl⟩
  rw [← hC]
  have hf : ∀ w', Blk w' w.heap.size 39 C.toArray → w'.rangeAt w.heap.size 0 y0 ∧ w'.rangeAt w.heap.size 101 y1 ∧ w'.cell? ⟨w.heap.size, 138, none⟩ = some (.slice A2 (List.length (α := (tCommit).El) x2) cap2) ∧ w'.cell? ⟨w.heap.size, 139, none⟩ = some (.slice A3 (List.length (α := (tTx).El) x3) cap3) ∧ w'.rangeAt w.heap.size 140 y4 := fun w' hb => by
    have := hb.lies [y0, y1, [Value.slice A2 (List.length (α := (tCommit).El) x2) cap2], [Value.slice A3 (List.length (α := (tTx).El) x3) cap3], y4] [] (by rw [hC]; simp)
    simp only [Lies, l0, l1, List.length_cons, List.length_nil] at this
    obtain ⟨s0, s1, s2, s3, s4, _⟩ := this
    exact ⟨s0, s1, Lies.one s2, Lies.one s3, s4⟩
  have HF := Lib.hid hf
  clear hf hC
  have L0 := Lib.hid l0; clear l0
  have L1 := Lib.hid l1; clear l1
  have L4 := Lib.hid l4; clear l4
  have hl' : (joinB [tHeader.enc x0, tQC.enc x1, (Sh.list tCommit).enc x2, (Sh.list tTx).enc x3, tSig.enc x4]).length ≤ 1099511627776 := hl
  have HLL := Lib.hid hl'
  clear hl hl'
  have HE2 := Lib.hid (show ((Sh.list tCommit).enc x2).length ≤ 1099511627776 from (by have h1 := HLL.out; rw [joinB_length] at h1; have h2 := joinP_mem (l := [tHeader.enc x0, tQC.enc x1, (Sh.list tCommit).enc x2, (Sh.list tTx).enc x3, tSig.enc x4]) (x := (Sh.list tCommit).enc x2) (by simp); omega))
  have hcn2 : (List.length (α := (tCommit).El) x2) ≤ 137438953472 := by
    have h1 := HE2.out
    have h2 := joinP_count (List.map (tCommit).enc x2)
    have h3 : ((Sh.list tCommit).enc x2).length = 8 + (joinP (List.map (tCommit).enc x2)).length := joinB_length _
    rw [List.length_map] at h2
    omega
  have HEJ2 := Lib.hid (show (joinB (List.map (tCommit).enc x2)).length ≤ 140737488355328 from by
    have h1 := HE2.out
    have h3 : ((Sh.list tCommit).enc x2).length = 8 + (joinP (List.map (tCommit).enc x2)).length := joinB_length _
    rw [joinB_length]
    omega)
  have HE3 := Lib.hid (show ((Sh.list tTx).enc x3).length ≤ 1099511627776 from (by have h1 := HLL.out; rw [joinB_length] at h1; have h2 := joinP_mem (l := [tHeader.enc x0, tQC.enc x1, (Sh.list tCommit).enc x2, (Sh.list tTx).enc x3, tSig.enc x4]) (x := (Sh.list tTx).enc x3) (by simp); omega))
  have hcn3 : (List.length (α := (tTx).El) x3) ≤ 137438953472 := by
    have h1 := HE3.out
    have h2 := joinP_count (List.map (tTx).enc x3)
    have h3 : ((Sh.list tTx).enc x3).length = 8 + (joinP (List.map (tTx).enc x3)).length := joinB_length _
    rw [List.length_map] at h2
    omega
  have HEJ3 := Lib.hid (show (joinB (List.map (tTx).enc x3)).length ≤ 140737488355328 from by
    have h1 := HE3.out
    have h3 : ((Sh.list tTx).enc x3).length = 8 + (joinP (List.map (tTx).enc x3)).length := joinB_length _
    rw [joinB_length]
    omega)
  go_enter Tryz.func20, Tryz.ntmps20
  go_wp2_with fail
  have hbe := (Below.refl w.heap.size w).alloc (Nat.le_refl _) (.cells C.toArray 39)
  have hal0 : Below (w.heap.size + 1) (w.alloc (.cells C.toArray 39)) ((w.alloc (.cells C.toArray 39)).alloc (.cells #[] 50)) := (Below.refl _ _).alloc (by simp) _
  have hMb : w.heap.size < w.heap.size + 1 := by omega
  go_loopw [3, 4] (fun o i wr => ∃ k : Nat, k ≤ (List.length (α := (tCommit).El) x2) ∧ i = .int .i64 k ∧ Bss wr (fun b => (w.heap.size + 1) ≤ b) (fun b => (w.heap.size + 1) ≤ b) o ((List.take k x2).map (tCommit).enc) ∧ Below w.heap.size w wr ∧ (w.heap.size + 1) ≤ wr.heap.size ∧ Blk wr w.heap.size 39 C.toArray) (fun _ i _ => (List.length (α := (tCommit).El) x2) - (intOf i).toNat)
  case atStart => exact ⟨0, Nat.zero_le _, rfl, Bss.empty1 w _, hbe.alloc (by simp) _, by simp, ((Blk.new w _ _).alloc _)⟩
  case round =>
    obtain ⟨k, hk, rfl, hB, hbl, hMz, hbox⟩ := hrel
    by_cases hlt : k < (List.length (α := (tCommit).El) x2)
    · obtain ⟨R, hR⟩ : ∃ R, R = (List.take k x2).map (tCommit).enc := ⟨_, rfl⟩
      rw [← hR] at hB
      have hRl : R.length = k := by rw [hR, List.length_map, List.length_take]; omega
      have hnext : (List.take (k + 1) x2).map (tCommit).enc = R ++ [(tCommit).enc (x2[k]'hlt)] := by rw [List.take_succ_eq_append_getElem hlt, List.map_append, ← hR]; rfl
      obtain ⟨Aa, ca, rfl⟩ := hB.form
      obtain ⟨_, _, e, _, hat⟩ := list_at (Sh.rep_below R2.out hbl)
      injection e with e1 e2 e3
      subst e1 e3
      obtain ⟨b, off, c, rfl, hca, hr, hcl, hblt, _⟩ := hat k hlt
      obtain ⟨x, hx⟩ : ∃ x, x = x2[k]'hlt := ⟨_, rfl⟩
      rw [← hx] at hr hnext
      have hsm2 : ((tCommit).enc x).length ≤ 1099511627776 := by
        have h1 := joinP_mem (List.mem_map.2 ⟨x2[k]'hlt, List.getElem_mem hlt, rfl⟩ : (tCommit).enc (x2[k]'hlt) ∈ List.map (tCommit).enc x2)
        have h2 := HE2.out
        have h3 : ((Sh.list tCommit).enc x2).length = 8 + (joinP (List.map (tCommit).enc x2)).length := joinB_length _
        rw [hx]; omega
      have hinfo : (Tryz.prog.info? 56).map (·.size) = some c.length := by rw [hcl]; kernel_rfl
      have HCA := Lib.hid (show wr.rangeAt b (off + k * 38) c from hca)
      have HI := Lib.hid hinfo
      clear hinfo
      have HREP := Lib.hid hr
      have HSM := Lib.hid hsm2
      clear hr hsm2
      have hown : ∀ k, (Value.slice Aa R.length ca).ownBlock = some k → k < wr.heap.size := fun k hk => by obtain ⟨vs, ho, _⟩ := hB; exact own_lt ho hk
      have hbc := (HF.out wr hbox).2.2.1
      have HB := Lib.hid hB
      have HN := Lib.hid hnext
      have HRL := Lib.hid hRl
      have HOWN := Lib.hid hown
      have HBOX := Lib.hid hbox
      clear hB hca hcl hat hx hR hnext hRl hown hbox
      go_wp2_with (refine wpList_load_mid rfl 56 _ rfl b (off + k * 38) rfl c _ HCA.out Tryz.underlying56 rfl HI.out ?_)
      refine (rCommit_any _ HREP.out HSM.out).mono ?_
      rintro e w1 ⟨v1, rfl, f1⟩
      have hb1 := hbl.trans (f1.2.mono hbl.size)
      obtain ⟨y, hy⟩ : ∃ y, y = (tCommit).enc x := ⟨_, rfl⟩
      have f1 : Fresh wr w1 v1 y := hy ▸ f1
      rw [← hy] at HN
      obtain ⟨A1, c1, rfl⟩ := f1.1.form
      obtain ⟨vs, ho, hS, hr⟩ := HB.out.below f1.2
      have hsz1 := f1.2.size
      have hal : Below w1.heap.size w1 (w1.alloc (.cells #[.slice A1 y.length c1] 50)) := (Below.refl _ w1).alloc (Nat.le_refl _) _
      have HAL := Lib.hid hal
      have HO := Lib.hid (show Own (w1.alloc (.cells #[.slice A1 y.length c1] 50)) _ _ _ _ _ from own_keep ho fun k hk => hal.block k (own_lt ho hk))
      have HS := Lib.hid hS
      have HR := Lib.hid (fun i x u h1 h2 => (hr i x u h1 h2).below hal)
      have HU := Lib.hid ((f1.1.1.below hal).sub (T := fun b => (w.heap.size + 1) ≤ b ∧ (Value.slice Aa R.length ca).ownBlock ≠ some b) fun b hb _ => ⟨Nat.le_trans hMz hb.1, fun e => by have := HOWN.out b e; omega⟩)
      have HS2 := Lib.hid (Cs.of_new w1 50 (size := 1) 1 (cs := [.slice A1 y.length c1]) rfl (by simp only [maxLen]; decide))
      have H63 := Lib.hid (show R.length + 1 ≤ maxLen ∧ (R.length + 1) * 24 ≤ 140737488355328 from by have := HRL.out; refine ⟨by simp only [maxLen]; omega, by omega⟩)
      have HF2 := Lib.hid f1.2
      clear ho hS hr hal f1 hy
      go_wp2_with (at_builtin; refine wpList_app _ rfl _ _ _ rfl Tryz.underlying103 info_row rfl (by decide) HO.out rfl HS2.out rfl (by simp [Value.oneCell']) H63.out.1 H63.out.2 ?_; intro v3 w3 ho3 hg3 hnil3 hat3; clear hnil3; have HO3 := Lib.hid ho3; clear ho3; have HG3 := Lib.hid hg3; clear hg3; have HAT3 := Lib.hid hat3; clear hat3)
      have hzz := HAL.out.size
      have hz3 := HG3.out.size
      have hpush := Bss.push HO.out HS.out HR.out HU.out HO3.out HG3.out HAT3.out (by have := hb1.size; omega)
      rw [← HN.out] at hpush
      have hbA : Below w.heap.size w (w1.alloc (.cells #[.slice A1 y.length c1] 50)) := hb1.trans (HAL.out.mono hb1.size)
      have hbw3 := HF2.out.trans (HAL.out.mono hsz1)
      refine ⟨⟨k + 1, by omega, by push_cast; rfl, hpush, hbA.trans (HG3.out.below hbA.size fun b h => by have h1 := HS.out b h; have h2 := HBOX.out.lt; omega), by omega, (HBOX.out.below hbw3 HBOX.out.lt).chg HG3.out fun h => by have h1 := HS.out _ h; have h2 := hMb; omega⟩, ?_⟩
      simp only [intOf]
      omega
    · have hk' : k = (List.length (α := (tCommit).El) x2) := by omega
      rw [hk', List.take_length] at hB
      have hsm : ∀ x ∈ List.map (tCommit).enc x2, x.length ≤ 140737488355328 := fun x hx => by
        have h1 := joinP_mem hx
        have h2 := HE2.out
        have h3 : ((Sh.list tCommit).enc x2).length = 8 + (joinP (List.map (tCommit).enc x2)).length := joinB_length _
        omega
      have hEJ2 := HEJ2.out
      obtain ⟨R2m, hR2m⟩ : ∃ R, R = List.map (tCommit).enc x2 := ⟨_, rfl⟩
      rw [← hR2m] at hB hsm hEJ2
      have HRm2 := Lib.hid hR2m
      have HEK2 := Lib.hid hEJ2
      clear hR2m hEJ2
      have V2 := Lib.hid (((hB.read hsm).lt_ (T := fun _ => True) fun _ _ => trivial).subs (T := fun b => b < wr.heap.size) fun b hb _ => hb.2)
      obtain ⟨Ao2, co2, rfl⟩ := hB.form
      have hbc2 := (HF.out wr hbox).2.2.1
      clear hB hsm
      obtain ⟨w_2, hw_2⟩ : ∃ w', w' = wr := ⟨_, rfl⟩
      subst hw_2
      have HBX2 := Lib.hid hbox; have hmb2 := hbox.lt; clear hbox
      go_wp2_with fail
      clear hlt hk hk'
      have hal2 : Below w_2.heap.size w_2 (w_2.alloc (.cells #[] 50)) := (Below.refl _ w_2).alloc (Nat.le_refl _) _
      have hMb : w.heap.size < w_2.heap.size := hmb2
      go_loopw [5, 6] (fun o i wr => ∃ k : Nat, k ≤ (List.length (α := (tTx).El) x3) ∧ i = .int .i64 k ∧ Bss wr (fun b => w_2.heap.size ≤ b) (fun b => w_2.heap.size ≤ b) o ((List.take k x3).map (tTx).enc) ∧ Below w.heap.size w wr ∧ w_2.heap.size ≤ wr.heap.size ∧ Blk wr w.heap.size 39 C.toArray ∧ Bsr wr (fun b => b < w_2.heap.size) (.slice Ao2 R2m.length co2) R2m) (fun _ i _ => (List.length (α := (tTx).El) x3) - (intOf i).toNat)
      case atStart => exact ⟨0, Nat.zero_le _, rfl, Bss.empty w_2 (fun b => w_2.heap.size ≤ b) (fun b => w_2.heap.size ≤ b) (Nat.le_refl _), hbl.alloc hbl.size _, by simp, (HBX2.out.below hal2 HBX2.out.lt), (V2.out.below hal2)⟩
      case round =>
        obtain ⟨k, hk, rfl, hB, hbl, hMz, hbox, hp2⟩ := hrel
        by_cases hlt : k < (List.length (α := (tTx).El) x3)
        · obtain ⟨R, hR⟩ : ∃ R, R = (List.take k x3).map (tTx).enc := ⟨_, rfl⟩
          rw [← hR] at hB
          have hRl : R.length = k := by rw [hR, List.length_map, List.length_take]; omega
          have hnext : (List.take (k + 1) x3).map (tTx).enc = R ++ [(tTx).enc (x3[k]'hlt)] := by rw [List.take_succ_eq_append_getElem hlt, List.map_append, ← hR]; rfl
          obtain ⟨Aa, ca, rfl⟩ := hB.form
          obtain ⟨_, _, e, _, hat⟩ := list_at (Sh.rep_below R3.out hbl)
          injection e with e1 e2 e3
          subst e1 e3
          obtain ⟨b, off, c, rfl, hca, hr, hcl, hblt, _⟩ := hat k hlt
          obtain ⟨x, hx⟩ : ∃ x, x = x3[k]'hlt := ⟨_, rfl⟩
          rw [← hx] at hr hnext
          have hsm2 : ((tTx).enc x).length ≤ 1099511627776 := by
            have h1 := joinP_mem (List.mem_map.2 ⟨x3[k]'hlt, List.getElem_mem hlt, rfl⟩ : (tTx).enc (x3[k]'hlt) ∈ List.map (tTx).enc x3)
            have h2 := HE3.out
            have h3 : ((Sh.list tTx).enc x3).length = 8 + (joinP (List.map (tTx).enc x3)).length := joinB_length _
            rw [hx]; omega
          have hinfo : (Tryz.prog.info? 27).map (·.size) = some c.length := by rw [hcl]; kernel_rfl
          have HCA := Lib.hid (show wr.rangeAt b (off + k * 41) c from hca)
          have HI := Lib.hid hinfo
          clear hinfo
          have HREP := Lib.hid hr
          have HSM := Lib.hid hsm2
          clear hr hsm2
          have hown : ∀ k, (Value.slice Aa R.length ca).ownBlock = some k → k < wr.heap.size := fun k hk => by obtain ⟨vs, ho, _⟩ := hB; exact own_lt ho hk
          have hbc := (HF.out wr hbox).2.2.2.1
          have HB := Lib.hid hB
          have HN := Lib.hid hnext
          have HRL := Lib.hid hRl
          have HOWN := Lib.hid hown
          have HBOX := Lib.hid hbox
          have HP2 := Lib.hid hp2
          clear hB hca hcl hat hx hR hnext hRl hown hbox hp2
          go_wp2_with (refine wpList_load_mid rfl 27 _ rfl b (off + k * 41) rfl c _ HCA.out Tryz.underlying27 rfl HI.out ?_)
          refine (rTx_any _ HREP.out HSM.out).mono ?_
          rintro e w1 ⟨v1, rfl, f1⟩
          have hb1 := hbl.trans (f1.2.mono hbl.size)
          obtain ⟨y, hy⟩ : ∃ y, y = (tTx).enc x := ⟨_, rfl⟩
          have f1 : Fresh wr w1 v1 y := hy ▸ f1
          rw [← hy] at HN
          obtain ⟨A1, c1, rfl⟩ := f1.1.form
          obtain ⟨vs, ho, hS, hr⟩ := HB.out.below f1.2
          have hsz1 := f1.2.size
          have hal : Below w1.heap.size w1 (w1.alloc (.cells #[.slice A1 y.length c1] 50)) := (Below.refl _ w1).alloc (Nat.le_refl _) _
          have HAL := Lib.hid hal
          have HO := Lib.hid (show Own (w1.alloc (.cells #[.slice A1 y.length c1] 50)) _ _ _ _ _ from own_keep ho fun k hk => hal.block k (own_lt ho hk))
          have HS := Lib.hid hS
          have HR := Lib.hid (fun i x u h1 h2 => (hr i x u h1 h2).below hal)
          have HU := Lib.hid ((f1.1.1.below hal).sub (T := fun b => w_2.heap.size ≤ b ∧ (Value.slice Aa R.length ca).ownBlock ≠ some b) fun b hb _ => ⟨Nat.le_trans hMz hb.1, fun e => by have := HOWN.out b e; omega⟩)
          have HS2 := Lib.hid (Cs.of_new w1 50 (size := 1) 1 (cs := [.slice A1 y.length c1]) rfl (by simp only [maxLen]; decide))
          have H63 := Lib.hid (show R.length + 1 ≤ maxLen ∧ (R.length + 1) * 24 ≤ 140737488355328 from by have := HRL.out; refine ⟨by simp only [maxLen]; omega, by omega⟩)
          have HF2 := Lib.hid f1.2
          clear ho hS hr hal f1 hy
          go_wp2_with (at_builtin; refine wpList_app _ rfl _ _ _ rfl Tryz.underlying103 info_row rfl (by decide) HO.out rfl HS2.out rfl (by simp [Value.oneCell']) H63.out.1 H63.out.2 ?_; intro v3 w3 ho3 hg3 hnil3 hat3; clear hnil3; have HO3 := Lib.hid ho3; clear ho3; have HG3 := Lib.hid hg3; clear hg3; have HAT3 := Lib.hid hat3; clear hat3)
          have hzz := HAL.out.size
          have hz3 := HG3.out.size
          have hpush := Bss.push HO.out HS.out HR.out HU.out HO3.out HG3.out HAT3.out (by have := hb1.size; omega)
          rw [← HN.out] at hpush
          have hbA : Below w.heap.size w (w1.alloc (.cells #[.slice A1 y.length c1] 50)) := hb1.trans (HAL.out.mono hb1.size)
          have hbw3 := HF2.out.trans (HAL.out.mono hsz1)
          refine ⟨⟨k + 1, by omega, by push_cast; rfl, hpush, hbA.trans (HG3.out.below hbA.size fun b h => by have h1 := HS.out b h; have h2 := HBOX.out.lt; omega), by omega, (HBOX.out.below hbw3 HBOX.out.lt).chg HG3.out fun h => by have h1 := HS.out _ h; have h2 := hMb; omega, (HP2.out.below hbw3).chg HG3.out fun b hb h => by have := HS.out b h; omega⟩, ?_⟩
          simp only [intOf]
          omega
        · have hk' : k = (List.length (α := (tTx).El) x3) := by omega
          rw [hk', List.take_length] at hB
          have hsm : ∀ x ∈ List.map (tTx).enc x3, x.length ≤ 140737488355328 := fun x hx => by
            have h1 := joinP_mem hx
            have h2 := HE3.out
            have h3 : ((Sh.list tTx).enc x3).length = 8 + (joinP (List.map (tTx).enc x3)).length := joinB_length _
            omega
          have hEJ3 := HEJ3.out
          obtain ⟨R3m, hR3m⟩ : ∃ R, R = List.map (tTx).enc x3 := ⟨_, rfl⟩
          rw [← hR3m] at hB hsm hEJ3
          have HRm3 := Lib.hid hR3m
          have HEK3 := Lib.hid hEJ3
          clear hR3m hEJ3
          have V3 := Lib.hid (((hB.read hsm).lt_ (T := fun _ => True) fun _ _ => trivial).subs (T := fun b => b < wr.heap.size) fun b hb _ => hb.2)
          obtain ⟨Ao3, co3, rfl⟩ := hB.form
          have hbc3 := (HF.out wr hbox).2.2.2.1
          have V2 := Lib.hid (hp2.subs (T := fun b => b < wr.heap.size) fun b hb _ => Nat.lt_of_lt_of_le hb hMz)
          clear hB hsm hp2
          obtain ⟨w_3, hw_3⟩ : ∃ w', w' = wr := ⟨_, rfl⟩
          subst hw_3
          have HBX3 := Lib.hid hbox; have hmb3 := hbox.lt; clear hbox
          go_wp2_with fail
          clear hlt hk hk'
          have hsz := HBX3.out.lt
          have hb0 : Blk w_3.drew w.heap.size 39 C.toArray := HBX3.out.drew
          have hbw : Below w.heap.size w w_3.drew := (hbl).drew
          refine wp_region_hoist [0, 1, 3, 4, 6, 8, 10, 11] [2, 5, 7, 9, 12] [13, 14, 15] (fun w' => Blk w' w.heap.size 39 C.toArray)
            (by kernel_rfl) (by kernel_rfl) (by kernel_rfl) (by kernel_rfl) (by kernel_rfl) (by kernel_rfl) hb0 ?_
          (refine HoistK.yes (by rfl) (by kernel_rfl) ⟨?_, fun w' hSw => ?_, ?_⟩; rotate_left; (· go_simp; try with_reducible rfl); simp only [Act.put, List.setIfInBounds_toArray, List.getElem_toArray, List.getElem_cons_zero, List.set_cons_succ, List.set_cons_zero])
          (refine HoistK.load (by rfl) (by kernel_rfl) 29 _ rfl w.heap.size 0 rfl (y0) _ (fun w' hw => (HF.out w' hw).1) Tryz.underlying29 rfl (by rw [L0.out]; kernel_rfl) ?_; simp only [Act.put, List.setIfInBounds_toArray, List.getElem_toArray, List.getElem_cons_succ, List.getElem_cons_zero, List.set_cons_succ, List.set_cons_zero])
          (refine HoistK.yes (by rfl) (by kernel_rfl) ⟨?_, fun w' hSw => ?_, ?_⟩; rotate_left; (· go_simp; try with_reducible rfl); simp only [Act.put, List.setIfInBounds_toArray, List.getElem_toArray, List.getElem_cons_succ, List.getElem_cons_zero, List.set_cons_succ, List.set_cons_zero])
          (refine HoistK.load (by rfl) (by kernel_rfl) 33 _ rfl w.heap.size 101 rfl (y1) _ (fun w' hw => (HF.out w' hw).2.1) Tryz.underlying33 rfl (by rw [L1.out]; kernel_rfl) ?_; simp only [Act.put, List.setIfInBounds_toArray, List.getElem_toArray, List.getElem_cons_succ, List.getElem_cons_zero, List.set_cons_succ, List.set_cons_zero])
          (refine HoistK.yes (by rfl) (by kernel_rfl) ⟨?_, fun w' hSw => ?_, ?_⟩; rotate_left; (· go_simp; try with_reducible rfl); simp only [Act.put, List.setIfInBounds_toArray, List.getElem_toArray, List.getElem_cons_succ, List.getElem_cons_zero, List.set_cons_succ, List.set_cons_zero])
          (refine HoistK.yes (by rfl) (by kernel_rfl) ⟨?_, fun w' hSw => ?_, ?_⟩; rotate_left; (· go_simp; try with_reducible rfl); simp only [Act.put, List.setIfInBounds_toArray, List.getElem_toArray, List.getElem_cons_succ, List.getElem_cons_zero, List.set_cons_succ, List.set_cons_zero])
          (refine HoistK.yes (by rfl) (by kernel_rfl) ⟨?_, fun w' hSw => ?_, ?_⟩; rotate_left; (· go_simp; try with_reducible rfl); simp only [Act.put, List.setIfInBounds_toArray, List.getElem_toArray, List.getElem_cons_succ, List.getElem_cons_zero, List.set_cons_succ, List.set_cons_zero])
          (refine HoistK.load (by rfl) (by kernel_rfl) 37 _ rfl w.heap.size 140 rfl (y4) _ (fun w' hw => (HF.out w' hw).2.2.2.2) Tryz.underlying37 rfl (by rw [L4.out]; kernel_rfl) ?_; simp only [Act.put, List.setIfInBounds_toArray, List.getElem_toArray, List.getElem_cons_succ, List.getElem_cons_zero, List.set_cons_succ, List.set_cons_zero])
          refine HoistK.nil_ ?_
          simp only [opsAt, List.filterMap_cons, List.filterMap_nil, List.getElem?_toArray, List.getElem?_cons_succ, List.getElem?_cons_zero]
          have g0 : Got w_3.drew w_3.drew [] [] := Got.start (Below.refl _ _)
          refine Effects.cons_ fun _ hQ1 => ?_
          go_wp2_with fail
          refine (rHeader_any _ (Sh.rep_below R0.out (hbw.trans (g0.1.mono hbw.size))) (by have h1 := HLL.out; rw [joinB_length] at h1; have h2 := joinP_mem (l := [tHeader.enc x0, tQC.enc x1, (Sh.list tCommit).enc x2, (Sh.list tTx).enc x3, tSig.enc x4]) (x := tHeader.enc x0) (by simp); omega)).mono ?_
          rintro e u1 ⟨v1, rfl, f1⟩
          have g1 := g0.step f1
          have hb1 := hb0.below f1.2 hb0.lt
          clear f1
          go_wp2_with fail
          refine hQ1 _ _ hb1 (Effects.cons_ fun _ hQ2 => ?_)
          clear hQ1 hb0 g0
          go_wp2_with fail
          refine (rQC_any _ (Sh.rep_below R1.out (hbw.trans (g1.1.mono hbw.size))) (by have h1 := HLL.out; rw [joinB_length] at h1; have h2 := joinP_mem (l := [tHeader.enc x0, tQC.enc x1, (Sh.list tCommit).enc x2, (Sh.list tTx).enc x3, tSig.enc x4]) (x := tQC.enc x1) (by simp); omega)).mono ?_
          rintro e u2 ⟨v2, rfl, f2⟩
          have g2 := g1.step f2
          have hb2 := hb1.below f2.2 hb1.lt
          clear f2
          go_wp2_with fail
          refine hQ2 _ _ hb2 (Effects.cons_ fun _ hQ3 => ?_)
          clear hQ2 hb1 g1
          go_wp2_with fail
          refine (rJoin_any _ (V2.out.drew_.below g2.1) HEK2.out (fun b hb => Nat.lt_of_lt_of_le hb g2.1.size)).mono ?_
          rintro e u3 ⟨v3, rfl, f3⟩
          rw [HRm2.out] at f3
          have f3 : Fresh _ _ _ ((Sh.list tCommit).enc x2) := f3
          have g3 := g2.step f3
          have hb3 := hb2.below f3.2 hb2.lt
          clear f3
          go_wp2_with fail
          refine hQ3 _ _ hb3 (Effects.cons_ fun _ hQ4 => ?_)
          clear hQ3 hb2 g2
          go_wp2_with fail
          refine (rJoin_any _ (V3.out.drew_.below g3.1) HEK3.out (fun b hb => Nat.lt_of_lt_of_le hb g3.1.size)).mono ?_
          rintro e u4 ⟨v4, rfl, f4⟩
          rw [HRm3.out] at f4
          have f4 : Fresh _ _ _ ((Sh.list tTx).enc x3) := f4
          have g4 := g3.step f4
          have hb4 := hb3.below f4.2 hb3.lt
          clear f4
          go_wp2_with fail
          refine hQ4 _ _ hb4 (Effects.cons_ fun _ hQ5 => ?_)
          clear hQ4 hb3 g3
          go_wp2_with fail
          refine (rSig_any _ (Sh.rep_below R4.out (hbw.trans (g4.1.mono hbw.size))) (by have h1 := HLL.out; rw [joinB_length] at h1; have h2 := joinP_mem (l := [tHeader.enc x0, tQC.enc x1, (Sh.list tCommit).enc x2, (Sh.list tTx).enc x3, tSig.enc x4]) (x := tSig.enc x4) (by simp); omega)).mono ?_
          rintro e u5 ⟨v5, rfl, f5⟩
          have g5 := g4.step f5
          have hb5 := hb4.below f5.2 hb4.lt
          clear f5
          go_wp2_with fail
          refine hQ5 _ _ hb5 (Effects.nil_ fun _ hQ6 => ?_)
          clear hQ5 hb4 g4
          have hcs : ∀ v ∈ [v1, v2, v3, v4, v5], v.cells = #[v] := fun v hv => by
            obtain ⟨i, hi, rfl⟩ := List.getElem_of_mem hv
            obtain ⟨y, _, hr⟩ := g5.2.get i hi
            obtain ⟨A, c, e⟩ := hr.form
            have e' : [v1, v2, v3, v4, v5][i] = .slice A y.length c := e
            rw [e']; rfl
          refine wpList_rows rfl 5 _ rfl [v1, v2, v3, v4, v5] rfl (by decide) (by decide) hcs (by simp [Act.eval]) ?_
          have hr : Bsr (u5.alloc (.cells [v1, v2, v3, v4, v5].toArray 50)) (fun b => b < u5.heap.size + 1) (.slice (some ⟨u5.heap.size, 0, none⟩) 5 5) [tHeader.enc x0, tQC.enc x1, (Sh.list tCommit).enc x2, (Sh.list tTx).enc x3, tSig.enc x4] := g5.row (by simp [maxLen]) 50
          have hj := rJoin_any _ hr (by have := HLL.out; omega) (fun b hb => by simpa using hb)
          have hbb : Below w.heap.size w (u5.alloc (.cells [v1, v2, v3, v4, v5].toArray 50)) := (hbw.trans (g5.1.mono hbw.size)).alloc (hbw.trans (g5.1.mono hbw.size)).size _
          have HJ := Lib.hid hj
          have HBB := Lib.hid hbb
          clear hj hbb hr g5 hcs
          go_wp2_with fail
          refine HJ.out.mono ?_
          rintro e uz ⟨vz, rfl, fz⟩
          go_wp2_with fail
          go_ret
          exact ⟨vz, rfl, fz.1.sub fun b hb _ => ⟨Nat.le_trans HBB.out.size hb.1, hb.2⟩, HBB.out.trans (fz.2.mono HBB.out.size)⟩

end Go.Proofs.YtjjgmkfkmckkoabGreatDoor

/- Codec: list[Tx]. -/
namespace Go.Proofs.YtjjgmkfkmckkoabGreatDoor
open Go.RowKit Go.Maps
attribute [-simp] Tryz.isAgg24 Tryz.typeInfo24 Tryz.isAgg27 Tryz.typeInfo27

set_option maxHeartbeats 2000000 in
set_option maxRecDepth 100000 in
theorem listTx_any (w : World) {S : Nat → Prop} {v : Value} {l : List (tTx).El} (h : (Sh.list tTx).rep w S l [v]) (hl : ((Sh.list tTx).enc l).length ≤ 1099511627776) :
    Calls Tryz.prog 38 #[v, .func (Fn.func 16) #[] #[]] w fun e w' => ∃ v', e = .returned v' ∧ Fresh w w' v' ((Sh.list tTx).enc l) := by
  obtain ⟨A, cap, rfl, hlen, hat⟩ := list_at h
  have H := Lib.hid h; clear h
  have hl' : (joinB (l.map (tTx).enc)).length ≤ 1099511627776 := hl
  have hcnt := joinP_count (l.map (tTx).enc)
  rw [joinB_length] at hl'
  rw [List.length_map] at hcnt
  have HLL := Lib.hid hl
  clear hl hat
  go_enter Tryz.func38, Tryz.ntmps38
  go_wp2_with fail
  go_loopw [5, 10] (fun a i wr => ∃ k : Nat, k ≤ l.length ∧ i = .int .i64 k ∧ Bss wr (fun b => w.heap.size ≤ b) (fun b => w.heap.size ≤ b) a ((l.take k).map (tTx).enc) ∧ Below w.heap.size w wr) (fun _ i _ => l.length - (intOf i).toNat)
  case atStart => exact ⟨0, Nat.zero_le _, rfl, Bss.nil_ _ _ _, Below.refl _ _⟩
  case round =>
    obtain ⟨k, hk, rfl, hB, hbl⟩ := hrel
    by_cases hlt : k < l.length
    · obtain ⟨R, hR⟩ : ∃ R, R = (l.take k).map (tTx).enc := ⟨_, rfl⟩
      rw [← hR] at hB
      have hRl : R.length = k := by rw [hR, List.length_map, List.length_take]; omega
      have hnext : (l.take (k + 1)).map (tTx).enc = R ++ [(tTx).enc l[k]] := by rw [List.take_succ_eq_append_getElem hlt, List.map_append, ← hR]; rfl
      obtain ⟨Aa, ca, rfl⟩ := hB.form
      obtain ⟨_, _, e, _, hat⟩ := list_at (Sh.rep_below H.out hbl)
      injection e with e1 e2 e3
      subst e1 e3
      obtain ⟨b, off, c, rfl, hca, hr, hcl, _, _⟩ := hat k hlt
      obtain ⟨x, hx⟩ : ∃ x, x = l[k] := ⟨_, rfl⟩
      rw [← hx] at hr hnext
      have hsm2 : ((tTx).enc x).length ≤ 1099511627776 := by
        have h1 := joinP_mem (List.mem_map.2 ⟨l[k], List.getElem_mem hlt, rfl⟩ : (tTx).enc l[k] ∈ l.map (tTx).enc)
        rw [hx]; omega
      have hinfo : (Tryz.prog.info? 27).map (·.size) = some c.length := by rw [hcl]; kernel_rfl
      have HC1 := Lib.hid (Sh.rep_one _ _ _ hr)
      have HCA := Lib.hid (show wr.rangeAt b (off + k * 41) c from hca)
      have HI := Lib.hid hinfo
      have HCL := Lib.hid hcl
      have HREP := Lib.hid hr
      have HSM := Lib.hid hsm2
      clear hinfo hr hsm2
      have hown : ∀ k, (Value.slice Aa R.length ca).ownBlock = some k → k < wr.heap.size := fun k hk => by obtain ⟨vs, ho, _⟩ := hB; exact own_lt ho hk
      have HB := Lib.hid hB
      have HN := Lib.hid hnext
      have HRL := Lib.hid hRl
      have HOWN := Lib.hid hown
      clear hB hca hcl hat hx hR hnext hRl hown
      go_wp2_with (first | (refine wpList_load_mid rfl 27 _ rfl b (off + k * 41) rfl c _ HCA.out Tryz.underlying27 rfl HI.out ?_) | (refine wpList_store_blk (cs0 := [.int .i64 0, .int .u64 0, .int .u64 0, .int .u64 0, .int .u64 0, .int .i64 0, .int .i64 0] ++ List.replicate 32 (.int .u8 0) ++ [.int .i64 0, .slice none 0 0]) (cs := c) rfl 27 _ _ rfl (Blk.new wr _ _) rfl rfl (by rw [HCL.out]; rfl) HI.out HC1.out ?_; intro w4 hb4 hc4; have HB4 := Lib.hid hb4; have HC4 := Lib.hid hc4; clear hb4 hc4) | (refine wpList_load_blk' rfl 27 _ rfl HB4.out rfl Tryz.underlying27 rfl HI.out ?_))
      have hbw4 : Below wr.heap.size wr w4 := ((Below.refl _ wr).alloc (Nat.le_refl _) _).trans (HC4.out.below (by simp) fun b hb => Nat.le_of_eq hb.symm)
      have hr := Sh.rep_below HREP.out hbw4
      refine (tx_any _ hr HSM.out).mono ?_
      rintro e w1 ⟨v1, rfl, f4⟩
      have f1 : Fresh wr w1 v1 _ := ⟨f4.1.sub fun b hb _ => ⟨Nat.le_trans hbw4.size hb.1, hb.2⟩, hbw4.trans (f4.2.mono hbw4.size)⟩
      clear f4 hr
      have hb1 := hbl.trans (f1.2.mono hbl.size)
      obtain ⟨y, hy⟩ : ∃ y, y = (tTx).enc x := ⟨_, rfl⟩
      have f1 : Fresh wr w1 v1 y := hy ▸ f1
      rw [← hy] at HN
      obtain ⟨A1, c1, rfl⟩ := f1.1.form
      obtain ⟨vs, ho, hS, hr⟩ := HB.out.below f1.2
      have hsz1 := f1.2.size
      have hal : Below w1.heap.size w1 (w1.alloc (.cells #[.slice A1 y.length c1] 50)) := (Below.refl _ w1).alloc (Nat.le_refl _) _
      have HAL := Lib.hid hal
      have HO := Lib.hid (show Own (w1.alloc (.cells #[.slice A1 y.length c1] 50)) _ _ _ _ _ from own_keep ho fun k hk => hal.block k (own_lt ho hk))
      have HS := Lib.hid hS
      have HR := Lib.hid (fun i x u h1 h2 => (hr i x u h1 h2).below hal)
      have HU := Lib.hid ((f1.1.1.below hal).sub (T := fun b => w.heap.size ≤ b ∧ (Value.slice Aa R.length ca).ownBlock ≠ some b) fun b hb _ => ⟨Nat.le_trans hbl.size hb.1, fun e => by have := HOWN.out b e; omega⟩)
      have HS2 := Lib.hid (Cs.of_new w1 50 (size := 1) 1 (cs := [.slice A1 y.length c1]) rfl (by simp only [maxLen]; decide))
      have H63 := Lib.hid (show R.length + 1 ≤ maxLen ∧ (R.length + 1) * 24 ≤ 140737488355328 from by have := HRL.out; refine ⟨by simp only [maxLen]; omega, by omega⟩)
      clear ho hS hr hal f1 hy
      go_wp2_with (at_builtin; refine wpList_app _ rfl _ _ _ rfl Tryz.underlying103 info_row rfl (by decide) HO.out rfl HS2.out rfl (by simp [Value.oneCell']) H63.out.1 H63.out.2 ?_; intro v3 w3 ho3 hg3 hnil3 hat3; clear hnil3; have HO3 := Lib.hid ho3; clear ho3; have HG3 := Lib.hid hg3; clear hg3; have HAT3 := Lib.hid hat3; clear hat3)
      have hpush := Bss.push HO.out HS.out HR.out HU.out HO3.out HG3.out HAT3.out (by have := hb1.size; have := HAL.out.size; omega)
      rw [← HN.out] at hpush
      refine ⟨⟨k + 1, by omega, by push_cast; rfl, hpush, (hb1.trans (HAL.out.mono hb1.size)).trans (HG3.out.below (Nat.le_trans hb1.size HAL.out.size) fun b h => HS.out b h)⟩, ?_⟩
      simp only [intOf]
      omega
    · have hk' : k = l.length := by omega
      rw [hk', List.take_length] at hB
      have hsm : ∀ x ∈ l.map (tTx).enc, x.length ≤ 140737488355328 := fun x hx => by have := joinP_mem hx; omega
      have hj := join_any _ ((hB.read hsm).lt_ (T := fun b => w.heap.size ≤ b) fun b h => h.elim id id) (by rw [joinB_length]; omega) fun b h => h.2
      have HJ := Lib.hid hj
      obtain ⟨R, hR⟩ : ∃ R, R = l.map (tTx).enc := ⟨_, rfl⟩
      have HR := Lib.hid hR
      rw [← hR] at hB HJ
      obtain ⟨Aa, ca, rfl⟩ := hB.form
      clear hj hB hR hsm
      go_wp2_with fail
      refine HJ.out.mono ?_
      rintro e w1 ⟨v1, rfl, f1⟩
      go_wp2_with fail
      go_ret
      refine ⟨v1, rfl, ?_, hbl.trans (f1.2.mono hbl.size)⟩
      have := f1.1.sub (T := fun b => w.heap.size ≤ b ∧ Th w1 b) fun b hb _ => ⟨Nat.le_trans hbl.size hb.1, hb.2⟩
      rw [HR.out] at this
      exact this

end Go.Proofs.YtjjgmkfkmckkoabGreatDoor

/- Codec: list[Commit]. -/
namespace Go.Proofs.YtjjgmkfkmckkoabGreatDoor
open Go.RowKit Go.Maps
attribute [-simp] Tryz.isAgg24 Tryz.typeInfo24 Tryz.isAgg56 Tryz.typeInfo56

set_option maxHeartbeats 2000000 in
set_option maxRecDepth 100000 in
theorem listCommit_any (w : World) {S : Nat → Prop} {v : Value} {l : List (tCommit).El} (h : (Sh.list tCommit).rep w S l [v]) (hl : ((Sh.list tCommit).enc l).length ≤ 1099511627776) :
    Calls Tryz.prog 36 #[v, .func (Fn.func 37) #[] #[]] w fun e w' => ∃ v', e = .returned v' ∧ Fresh w w' v' ((Sh.list tCommit).enc l) := by
  obtain ⟨A, cap, rfl, hlen, hat⟩ := list_at h
  have H := Lib.hid h; clear h
  have hl' : (joinB (l.map (tCommit).enc)).length ≤ 1099511627776 := hl
  have hcnt := joinP_count (l.map (tCommit).enc)
  rw [joinB_length] at hl'
  rw [List.length_map] at hcnt
  have HLL := Lib.hid hl
  clear hl hat
  go_enter Tryz.func36, Tryz.ntmps36
  go_wp2_with fail
  go_loopw [5, 10] (fun a i wr => ∃ k : Nat, k ≤ l.length ∧ i = .int .i64 k ∧ Bss wr (fun b => w.heap.size ≤ b) (fun b => w.heap.size ≤ b) a ((l.take k).map (tCommit).enc) ∧ Below w.heap.size w wr) (fun _ i _ => l.length - (intOf i).toNat)
  case atStart => exact ⟨0, Nat.zero_le _, rfl, Bss.nil_ _ _ _, Below.refl _ _⟩
  case round =>
    obtain ⟨k, hk, rfl, hB, hbl⟩ := hrel
    by_cases hlt : k < l.length
    · obtain ⟨R, hR⟩ : ∃ R, R = (l.take k).map (tCommit).enc := ⟨_, rfl⟩
      rw [← hR] at hB
      have hRl : R.length = k := by rw [hR, List.length_map, List.length_take]; omega
      have hnext : (l.take (k + 1)).map (tCommit).enc = R ++ [(tCommit).enc l[k]] := by rw [List.take_succ_eq_append_getElem hlt, List.map_append, ← hR]; rfl
      obtain ⟨Aa, ca, rfl⟩ := hB.form
      obtain ⟨_, _, e, _, hat⟩ := list_at (Sh.rep_below H.out hbl)
      injection e with e1 e2 e3
      subst e1 e3
      obtain ⟨b, off, c, rfl, hca, hr, hcl, _, _⟩ := hat k hlt
      obtain ⟨x, hx⟩ : ∃ x, x = l[k] := ⟨_, rfl⟩
      rw [← hx] at hr hnext
      have hsm2 : ((tCommit).enc x).length ≤ 1099511627776 := by
        have h1 := joinP_mem (List.mem_map.2 ⟨l[k], List.getElem_mem hlt, rfl⟩ : (tCommit).enc l[k] ∈ l.map (tCommit).enc)
        rw [hx]; omega
      have hinfo : (Tryz.prog.info? 56).map (·.size) = some c.length := by rw [hcl]; kernel_rfl
      have HC1 := Lib.hid (Sh.rep_one _ _ _ hr)
      have HCA := Lib.hid (show wr.rangeAt b (off + k * 38) c from hca)
      have HI := Lib.hid hinfo
      have HCL := Lib.hid hcl
      have HREP := Lib.hid hr
      have HSM := Lib.hid hsm2
      clear hinfo hr hsm2
      have hown : ∀ k, (Value.slice Aa R.length ca).ownBlock = some k → k < wr.heap.size := fun k hk => by obtain ⟨vs, ho, _⟩ := hB; exact own_lt ho hk
      have HB := Lib.hid hB
      have HN := Lib.hid hnext
      have HRL := Lib.hid hRl
      have HOWN := Lib.hid hown
      clear hB hca hcl hat hx hR hnext hRl hown
      go_wp2_with (first | (refine wpList_load_mid rfl 56 _ rfl b (off + k * 38) rfl c _ HCA.out Tryz.underlying56 rfl HI.out ?_) | (refine wpList_store_blk (cs0 := [.slice none 0 0] ++ ([.int .i64 0, .int .i64 0, .int .i64 0] ++ List.replicate 32 (.int .u8 0) ++ [.slice none 0 0, .slice none 0 0])) (cs := c) rfl 56 _ _ rfl (Blk.new wr _ _) rfl rfl (by rw [HCL.out]; rfl) HI.out HC1.out ?_; intro w4 hb4 hc4; have HB4 := Lib.hid hb4; have HC4 := Lib.hid hc4; clear hb4 hc4) | (refine wpList_load_blk' rfl 56 _ rfl HB4.out rfl Tryz.underlying56 rfl HI.out ?_))
      have hbw4 : Below wr.heap.size wr w4 := ((Below.refl _ wr).alloc (Nat.le_refl _) _).trans (HC4.out.below (by simp) fun b hb => Nat.le_of_eq hb.symm)
      have hr := Sh.rep_below HREP.out hbw4
      refine (commit_any _ hr HSM.out).mono ?_
      rintro e w1 ⟨v1, rfl, f4⟩
      have f1 : Fresh wr w1 v1 _ := ⟨f4.1.sub fun b hb _ => ⟨Nat.le_trans hbw4.size hb.1, hb.2⟩, hbw4.trans (f4.2.mono hbw4.size)⟩
      clear f4 hr
      have hb1 := hbl.trans (f1.2.mono hbl.size)
      obtain ⟨y, hy⟩ : ∃ y, y = (tCommit).enc x := ⟨_, rfl⟩
      have f1 : Fresh wr w1 v1 y := hy ▸ f1
      rw [← hy] at HN
      obtain ⟨A1, c1, rfl⟩ := f1.1.form
      obtain ⟨vs, ho, hS, hr⟩ := HB.out.below f1.2
      have hsz1 := f1.2.size
      have hal : Below w1.heap.size w1 (w1.alloc (.cells #[.slice A1 y.length c1] 50)) := (Below.refl _ w1).alloc (Nat.le_refl _) _
      have HAL := Lib.hid hal
      have HO := Lib.hid (show Own (w1.alloc (.cells #[.slice A1 y.length c1] 50)) _ _ _ _ _ from own_keep ho fun k hk => hal.block k (own_lt ho hk))
      have HS := Lib.hid hS
      have HR := Lib.hid (fun i x u h1 h2 => (hr i x u h1 h2).below hal)
      have HU := Lib.hid ((f1.1.1.below hal).sub (T := fun b => w.heap.size ≤ b ∧ (Value.slice Aa R.length ca).ownBlock ≠ some b) fun b hb _ => ⟨Nat.le_trans hbl.size hb.1, fun e => by have := HOWN.out b e; omega⟩)
      have HS2 := Lib.hid (Cs.of_new w1 50 (size := 1) 1 (cs := [.slice A1 y.length c1]) rfl (by simp only [maxLen]; decide))
      have H63 := Lib.hid (show R.length + 1 ≤ maxLen ∧ (R.length + 1) * 24 ≤ 140737488355328 from by have := HRL.out; refine ⟨by simp only [maxLen]; omega, by omega⟩)
      clear ho hS hr hal f1 hy
      go_wp2_with (at_builtin; refine wpList_app _ rfl _ _ _ rfl Tryz.underlying103 info_row rfl (by decide) HO.out rfl HS2.out rfl (by simp [Value.oneCell']) H63.out.1 H63.out.2 ?_; intro v3 w3 ho3 hg3 hnil3 hat3; clear hnil3; have HO3 := Lib.hid ho3; clear ho3; have HG3 := Lib.hid hg3; clear hg3; have HAT3 := Lib.hid hat3; clear hat3)
      have hpush := Bss.push HO.out HS.out HR.out HU.out HO3.out HG3.out HAT3.out (by have := hb1.size; have := HAL.out.size; omega)
      rw [← HN.out] at hpush
      refine ⟨⟨k + 1, by omega, by push_cast; rfl, hpush, (hb1.trans (HAL.out.mono hb1.size)).trans (HG3.out.below (Nat.le_trans hb1.size HAL.out.size) fun b h => HS.out b h)⟩, ?_⟩
      simp only [intOf]
      omega
    · have hk' : k = l.length := by omega
      rw [hk', List.take_length] at hB
      have hsm : ∀ x ∈ l.map (tCommit).enc, x.length ≤ 140737488355328 := fun x hx => by have := joinP_mem hx; omega
      have hj := join_any _ ((hB.read hsm).lt_ (T := fun b => w.heap.size ≤ b) fun b h => h.elim id id) (by rw [joinB_length]; omega) fun b h => h.2
      have HJ := Lib.hid hj
      obtain ⟨R, hR⟩ : ∃ R, R = l.map (tCommit).enc := ⟨_, rfl⟩
      have HR := Lib.hid hR
      rw [← hR] at hB HJ
      obtain ⟨Aa, ca, rfl⟩ := hB.form
      clear hj hB hR hsm
      go_wp2_with fail
      refine HJ.out.mono ?_
      rintro e w1 ⟨v1, rfl, f1⟩
      go_wp2_with fail
      go_ret
      refine ⟨v1, rfl, ?_, hbl.trans (f1.2.mono hbl.size)⟩
      have := f1.1.sub (T := fun b => w.heap.size ≤ b ∧ Th w1 b) fun b hb _ => ⟨Nat.le_trans hbl.size hb.1, hb.2⟩
      rw [HR.out] at this
      exact this

end Go.Proofs.YtjjgmkfkmckkoabGreatDoor

/- Codec: a block. -/
namespace Go.Proofs.YtjjgmkfkmckkoabGreatDoor
open Go.RowKit Go.Maps
attribute [-simp] Tryz.isAgg24 Tryz.typeInfo24 Tryz.isAgg29 Tryz.typeInfo29 Tryz.isAgg33 Tryz.typeInfo33 Tryz.isAgg37 Tryz.typeInfo37

set_option maxHeartbeats 4000000 in
set_option maxRecDepth 100000 in
theorem block_any (w : World) {S : Nat → Prop} {x : tBlock.El} {cs : List Value} (h : tBlock.rep w S x cs) (hl : (tBlock.enc x).length ≤ 1099511627776) :
    Calls Tryz.prog 19 #[.agg cs.toArray] w fun e w' => ∃ v', e = .returned v' ∧ Fresh w w' v' (tBlock.enc x) := by
  obtain ⟨x0, x1, x2, x3, x4, _⟩ := x
  obtain ⟨c0, _, rfl, r0, c1, _, rfl, r1, c2, _, rfl, r2, c3, _, rfl, r3, c4, _, rfl, r4, rfl⟩ := h
  have l0 : c0.length = 101 := Sh.rep_size _ _ _ r0
  obtain ⟨y0, hy0⟩ : ∃ y, y = c0 := ⟨_, rfl⟩
  subst hy0
  have l1 : c1.length = 37 := Sh.rep_size _ _ _ r1
  obtain ⟨y1, hy1⟩ : ∃ y, y = c1 := ⟨_, rfl⟩
  subst hy1
  obtain ⟨y2, rfl⟩ : ∃ y, c2 = [y] := by obtain ⟨v, _, e, _⟩ := r2; exact ⟨v, e⟩
  obtain ⟨y3, rfl⟩ : ∃ y, c3 = [y] := by obtain ⟨v, _, e, _⟩ := r3; exact ⟨v, e⟩
  have l4 : c4.length = 33 := Sh.rep_size _ _ _ r4
  obtain ⟨y4, hy4⟩ : ∃ y, y = c4 := ⟨_, rfl⟩
  subst hy4
  have R0 := Lib.hid r0; clear r0
  have R1 := Lib.hid r1; clear r1
  have R2 := Lib.hid r2; clear r2
  have R3 := Lib.hid r3; clear r3
  have R4 := Lib.hid r4; clear r4
  obtain ⟨C, hC⟩ : ∃ C, C = y0 ++ (y1 ++ ([y2] ++ ([y3] ++ (y4 ++ ([]))))) := ⟨_, rfl⟩
  rw [← hC]
  have hf : ∀ w', Blk w' w.heap.size 39 C.toArray → w'.rangeAt w.heap.size 0 y0 ∧ w'.rangeAt w.heap.size 101 y1 ∧ w'.cell? ⟨w.heap.size, 138, none⟩ = some y2 ∧ w'.cell? ⟨w.heap.size, 139, none⟩ = some y3 ∧ w'.rangeAt w.heap.size 140 y4 := fun w' hb => by
    have := hb.lies [y0, y1, [y2], [y3], y4] [] (by rw [hC]; simp)
    simp only [Lies, l0, l1, List.length_cons, List.length_nil] at this
    obtain ⟨s0, s1, s2, s3, s4, _⟩ := this
    exact ⟨s0, s1, Lies.one s2, Lies.one s3, s4⟩
  have HF := Lib.hid hf
  clear hf hC
  have hrows : tBlock.enc (x0, x1, x2, x3, x4, ()) = joinB [tHeader.enc x0, tQC.enc x1, (Sh.list tCommit).enc x2, (Sh.list tTx).enc x3, tSig.enc x4] := rfl
  have hl' : (joinB [tHeader.enc x0, tQC.enc x1, (Sh.list tCommit).enc x2, (Sh.list tTx).enc x3, tSig.enc x4]).length ≤ 1099511627776 := hl
  have HLL := Lib.hid hl'
  clear hl hl'
  go_enter Tryz.func19, Tryz.ntmps19
  go_wp2_with fail
  have hsz : w.heap.size < w.heap.size + 1 := by omega
  refine wp_region_hoist [0, 1, 3, 4, 6, 7, 9, 10, 12, 13] [2, 5, 8, 11, 14] [15, 16, 17] (fun w' => Blk w' w.heap.size 39 C.toArray)
    (by kernel_rfl) (by kernel_rfl) (by kernel_rfl) (by kernel_rfl) (by kernel_rfl) (by kernel_rfl) (Blk.new w _ _).drew ?_
  (refine HoistK.yes (by rfl) (by kernel_rfl) ⟨?_, fun w' hSw => ?_, ?_⟩; rotate_left; (· go_simp; try with_reducible rfl); simp only [Act.put, List.setIfInBounds_toArray, List.getElem_toArray, List.getElem_cons_zero, List.set_cons_succ, List.set_cons_zero])
  (refine HoistK.load (by rfl) (by kernel_rfl) 29 _ rfl w.heap.size 0 rfl (y0) _ (fun w' hw => (HF.out w' hw).1) Tryz.underlying29 rfl (by rw [l0]; kernel_rfl) ?_; simp only [Act.put, List.setIfInBounds_toArray, List.getElem_toArray, List.getElem_cons_succ, List.getElem_cons_zero, List.set_cons_succ, List.set_cons_zero])
  (refine HoistK.yes (by rfl) (by kernel_rfl) ⟨?_, fun w' hSw => ?_, ?_⟩; rotate_left; (· go_simp; try with_reducible rfl); simp only [Act.put, List.setIfInBounds_toArray, List.getElem_toArray, List.getElem_cons_succ, List.getElem_cons_zero, List.set_cons_succ, List.set_cons_zero])
  (refine HoistK.load (by rfl) (by kernel_rfl) 33 _ rfl w.heap.size 101 rfl (y1) _ (fun w' hw => (HF.out w' hw).2.1) Tryz.underlying33 rfl (by rw [l1]; kernel_rfl) ?_; simp only [Act.put, List.setIfInBounds_toArray, List.getElem_toArray, List.getElem_cons_succ, List.getElem_cons_zero, List.set_cons_succ, List.set_cons_zero])
  (refine HoistK.yes (by rfl) (by kernel_rfl) ⟨?_, fun w' hSw => ?_, ?_⟩; rotate_left; (· go_simp; try with_reducible rfl); simp only [Act.put, List.setIfInBounds_toArray, List.getElem_toArray, List.getElem_cons_succ, List.getElem_cons_zero, List.set_cons_succ, List.set_cons_zero])
  (refine HoistK.yes (by rfl) (by kernel_rfl) ⟨?_, fun w' hSw => ?_, ?_⟩; rotate_left; (· obtain ⟨s0, s1, s2, s3, s4⟩ := HF.out _ hSw; go_simp; try with_reducible rfl); simp only [Act.put, List.setIfInBounds_toArray, List.getElem_toArray, List.getElem_cons_succ, List.getElem_cons_zero, List.set_cons_succ, List.set_cons_zero])
  (refine HoistK.yes (by rfl) (by kernel_rfl) ⟨?_, fun w' hSw => ?_, ?_⟩; rotate_left; (· go_simp; try with_reducible rfl); simp only [Act.put, List.setIfInBounds_toArray, List.getElem_toArray, List.getElem_cons_succ, List.getElem_cons_zero, List.set_cons_succ, List.set_cons_zero])
  (refine HoistK.yes (by rfl) (by kernel_rfl) ⟨?_, fun w' hSw => ?_, ?_⟩; rotate_left; (· obtain ⟨s0, s1, s2, s3, s4⟩ := HF.out _ hSw; go_simp; try with_reducible rfl); simp only [Act.put, List.setIfInBounds_toArray, List.getElem_toArray, List.getElem_cons_succ, List.getElem_cons_zero, List.set_cons_succ, List.set_cons_zero])
  (refine HoistK.yes (by rfl) (by kernel_rfl) ⟨?_, fun w' hSw => ?_, ?_⟩; rotate_left; (· go_simp; try with_reducible rfl); simp only [Act.put, List.setIfInBounds_toArray, List.getElem_toArray, List.getElem_cons_succ, List.getElem_cons_zero, List.set_cons_succ, List.set_cons_zero])
  (refine HoistK.load (by rfl) (by kernel_rfl) 37 _ rfl w.heap.size 140 rfl (y4) _ (fun w' hw => (HF.out w' hw).2.2.2.2) Tryz.underlying37 rfl (by rw [l4]; kernel_rfl) ?_; simp only [Act.put, List.setIfInBounds_toArray, List.getElem_toArray, List.getElem_cons_succ, List.getElem_cons_zero, List.set_cons_succ, List.set_cons_zero])
  refine HoistK.nil_ ?_
  simp only [opsAt, List.filterMap_cons, List.filterMap_nil, List.getElem?_toArray, List.getElem?_cons_succ, List.getElem?_cons_zero]
  have hb0 : Blk (w.alloc (.cells C.toArray 39)).drew w.heap.size 39 C.toArray := (Blk.new w _ _).drew
  have g0 : Got w (w.alloc (.cells C.toArray 39)).drew [] [] := Got.start ((Below.refl _ w).alloc (Nat.le_refl _) _).drew
  refine Effects.cons_ fun _ hQ1 => ?_
  go_wp2_with fail
  refine (header_any _ (Sh.rep_below R0.out g0.1)).mono ?_
  rintro e w1 ⟨v1, rfl, f1⟩
  have g1 := g0.step f1
  have hb1 := hb0.below f1.2 hb0.lt
  clear f1
  go_wp2_with fail
  refine hQ1 _ _ hb1 (Effects.cons_ fun _ hQ2 => ?_)
  clear hQ1 hb0 g0
  go_wp2_with fail
  refine (qc_any _ (Sh.rep_below R1.out g1.1) (by have h1 := HLL.out; rw [joinB_length] at h1; have h2 := joinP_mem (l := [tHeader.enc x0, tQC.enc x1, (Sh.list tCommit).enc x2, (Sh.list tTx).enc x3, tSig.enc x4]) (x := tQC.enc x1) (by simp); omega)).mono ?_
  rintro e w2 ⟨v2, rfl, f2⟩
  have g2 := g1.step f2
  have hb2 := hb1.below f2.2 hb1.lt
  clear f2
  go_wp2_with fail
  refine hQ2 _ _ hb2 (Effects.cons_ fun _ hQ3 => ?_)
  clear hQ2 hb1 g1
  go_wp2_with fail
  refine (listCommit_any _ (Sh.rep_below R2.out g2.1) (by have h1 := HLL.out; rw [joinB_length] at h1; have h2 := joinP_mem (l := [tHeader.enc x0, tQC.enc x1, (Sh.list tCommit).enc x2, (Sh.list tTx).enc x3, tSig.enc x4]) (x := (Sh.list tCommit).enc x2) (by simp); omega)).mono ?_
  rintro e w3 ⟨v3, rfl, f3⟩
  have g3 := g2.step f3
  have hb3 := hb2.below f3.2 hb2.lt
  clear f3
  go_wp2_with fail
  refine hQ3 _ _ hb3 (Effects.cons_ fun _ hQ4 => ?_)
  clear hQ3 hb2 g2
  go_wp2_with fail
  refine (listTx_any _ (Sh.rep_below R3.out g3.1) (by have h1 := HLL.out; rw [joinB_length] at h1; have h2 := joinP_mem (l := [tHeader.enc x0, tQC.enc x1, (Sh.list tCommit).enc x2, (Sh.list tTx).enc x3, tSig.enc x4]) (x := (Sh.list tTx).enc x3) (by simp); omega)).mono ?_
  rintro e w4 ⟨v4, rfl, f4⟩
  have g4 := g3.step f4
  have hb4 := hb3.below f4.2 hb3.lt
  clear f4
  go_wp2_with fail
  refine hQ4 _ _ hb4 (Effects.cons_ fun _ hQ5 => ?_)
  clear hQ4 hb3 g3
  go_wp2_with fail
  refine (sig_any _ (Sh.rep_below R4.out g4.1) (by have h1 := HLL.out; rw [joinB_length] at h1; have h2 := joinP_mem (l := [tHeader.enc x0, tQC.enc x1, (Sh.list tCommit).enc x2, (Sh.list tTx).enc x3, tSig.enc x4]) (x := tSig.enc x4) (by simp); omega)).mono ?_
  rintro e w5 ⟨v5, rfl, f5⟩
  have g5 := g4.step f5
  have hb5 := hb4.below f5.2 hb4.lt
  clear f5
  go_wp2_with fail
  refine hQ5 _ _ hb5 (Effects.nil_ fun _ hQ6 => ?_)
  clear hQ5 hb4 g4
  have hcs : ∀ v ∈ [v1, v2, v3, v4, v5], v.cells = #[v] := fun v hv => by
    obtain ⟨i, hi, rfl⟩ := List.getElem_of_mem hv
    obtain ⟨y, _, hr⟩ := g5.2.get i hi
    obtain ⟨A, c, e⟩ := hr.form
    have e' : [v1, v2, v3, v4, v5][i] = .slice A y.length c := e
    rw [e']; rfl
  refine wpList_rows rfl 5 _ rfl [v1, v2, v3, v4, v5] rfl (by decide) (by decide) hcs (by simp [Act.eval]) ?_
  have hr : Bsr (w5.alloc (.cells [v1, v2, v3, v4, v5].toArray 50)) (fun b => b < w5.heap.size + 1) (.slice (some ⟨w5.heap.size, 0, none⟩) 5 5) [tHeader.enc x0, tQC.enc x1, (Sh.list tCommit).enc x2, (Sh.list tTx).enc x3, tSig.enc x4] := g5.row (by simp [maxLen]) 50
  have hj := join_any _ hr (by have := HLL.out; omega) (fun b hb => by simpa using hb)
  have hbb : Below w.heap.size w (w5.alloc (.cells [v1, v2, v3, v4, v5].toArray 50)) := g5.1.alloc g5.1.size _
  have HJ := Lib.hid hj
  have HBB := Lib.hid hbb
  clear hj hbb hr g5 hcs
  go_wp2_with fail
  refine HJ.out.mono ?_
  rintro e w6 ⟨v6, rfl, f6⟩
  go_wp2_with fail
  go_ret
  exact ⟨v6, rfl, f6.1.sub fun b hb _ => ⟨Nat.le_trans HBB.out.size hb.1, hb.2⟩, HBB.out.trans (f6.2.mono HBB.out.size)⟩

end Go.Proofs.YtjjgmkfkmckkoabGreatDoor

/- Codec: one[Header]. -/
namespace Go.Proofs.YtjjgmkfkmckkoabGreatDoor
open Go.RowKit Go.Maps
attribute [-simp] Tryz.isAgg24 Tryz.typeInfo24 Tryz.isAgg29 Tryz.typeInfo29

theorem size_oneHeader_any : (Tryz.prog.info? 29).map (·.size) = some 101 := by kernel_rfl
set_option maxHeartbeats 4000000 in
set_option maxRecDepth 100000 in
theorem oneHeader_any (w : World) {X : Nat → Prop} {E g : Nat} {sent : Value} {x : List UInt8} {rows : List (List UInt8)} {bad : Bool} (h : Pt w X E g sent (x :: rows) bad) (hxl : x.length ≤ 262144) :
    Calls Tryz.prog 90 #[.pointer (some ⟨g, 0, none⟩), .func (Fn.func 91) #[] #[]] w (Took tHeader w X E g sent x rows bad) := by
  have hgx := h.2.2.1
  have hgw := h.lt
  have hEw := h.2.2.2.2.1
  have hp0 := h.more ((Below.refl w.heap.size w).alloc (Nat.le_refl _) (.cells (([.int .i64 0, .int .i64 0, .int .i64 0, .int .i64 0] ++ List.replicate 96 (.int .u8 0) ++ [.int .i64 0] : List Value)).toArray 29)) (fun b => b = w.heap.size) (fun b hb => ⟨Nat.le_of_eq hb.symm, by rw [hb]; simp⟩)
  have H := Lib.hid (next_any _ hp0)
  have HN := Lib.hid (Blk.new w 29 (([.int .i64 0, .int .i64 0, .int .i64 0, .int .i64 0] ++ List.replicate 96 (.int .u8 0) ++ [.int .i64 0] : List Value)).toArray)
  have HGX := Lib.hid hgx
  have HX1 := Lib.hid (show ∀ b, X b → b < w.heap.size from h.2.2.2.1)
  clear h hp0 hgx
  go_enter Tryz.func90, Tryz.ntmps90
  go_wp2_with fail
  refine H.out.mono ?_
  rintro e w1 ⟨v1, rfl, hb1, hc1, hp1⟩
  have HK := Lib.hid (HN.out.chg hc1 (fun h => by omega))
  have hz1 : w.heap.size + 1 ≤ w1.heap.size := by simpa using hc1.size
  have HR := Lib.hid (readHeader_any w1 hb1 hxl hp1.1)
  have HC1 := Lib.hid (show Chg (fun k => k = g) w w1 from ((Chg.refl (fun k => k = g) w).alloc _).trans hc1 fun b h => .inl h)
  have HP1 := Lib.hid hp1
  obtain ⟨A1, c1, rfl⟩ := hb1.form
  clear hb1 hp1 hc1 H HN hxl
  go_wp2_with fail
  refine HR.out.mono ?_
  rintro e w2 hro
  obtain ⟨C, err, bd, rfl, h1, hl, hb2, he, ho⟩ := hro.agg (fun _ => rfl)
  have hl : C.length = 101 := hl
  have hz2 := Nat.le_trans hz1 hb2.size
  have HI := Lib.hid (show (Tryz.prog.info? 29).map (·.size) = some C.length from by rw [hl]; exact size_oneHeader_any)
  have H1 := Lib.hid h1
  have HL := Lib.hid hl
  have HP2 := Lib.hid (HP1.out.below hb2)
  have HK2 := Lib.hid (HK.out.below hb2 HK.out.lt)
  have HC2 := Lib.hid (HC1.out.trans (Chg.of_below hb2 fun k => k = g) fun b h => .inl h)
  have HO := Lib.hid (ho.or_ bad)
  clear hro h1 hl hb2 ho HR HP1 HK HC1
  rcases he with ⟨rfl, rfl⟩ | ⟨rfl, hch⟩
  · go_wp2_with (first
      | (refine wpList_store_blk (cs0 := ([.int .i64 0, .int .i64 0, .int .i64 0, .int .i64 0] ++ List.replicate 96 (.int .u8 0) ++ [.int .i64 0] : List Value)) (cs := C) rfl 29 _ _ rfl (Blk.new w2 _ _) rfl rfl (by rw [HL.out]; rfl) HI.out H1.out ?_; intro w3 hb3 hc3; have HB3 := Lib.hid hb3
         have HC3 := Lib.hid (show Chg (fun _ => False) w2 w3 from ((Chg.refl _ w2).alloc _).trans hc3 fun b h => .inr (Nat.le_of_eq h.symm)); clear hb3 hc3
         have HK3 := Lib.hid (HK2.out.chg HC3.out id))
      | (refine wpList_load_blk' rfl 29 _ rfl HB3.out rfl Tryz.underlying29 rfl HI.out ?_)
      | (refine wpList_store_blk (cs0 := ([.int .i64 0, .int .i64 0, .int .i64 0, .int .i64 0] ++ List.replicate 96 (.int .u8 0) ++ [.int .i64 0] : List Value)) (cs := C) rfl 29 _ _ rfl HK3.out rfl rfl (by rw [HL.out]; rfl) HI.out H1.out ?_; intro w9 hb9 hc9; have HB9 := Lib.hid hb9; have HC9 := Lib.hid hc9; clear hb9 hc9))
    have hld := run_loadVar_mid (P := Tryz.prog) w9 w.heap.size 0 29 C _ HB9.out.range Tryz.underlying29 rfl HI.out
    refine bodyPost_ret (v := .agg C.toArray) (by simp [results, Tryz.results90, asAddr, hld, Act.put]) rfl ?_
    have hp9 := (HP2.out.chg HC3.out fun b h => h.elim).chg HC9.out fun b h => ⟨.inr h, fun e => by omega⟩
    have ho9 := HO.out.to (w' := w9) (S' := fun b => w.heap.size ≤ b) (fun b hb hlt => ⟨Nat.lt_of_lt_of_le hlt (Nat.le_trans HC3.out.size HC9.out.size), (HC9.out.block b (Nat.lt_of_lt_of_le hlt HC3.out.size) (fun e => by omega)).trans (HC3.out.block b hlt id)⟩) fun b hb _ => by omega
    rw [Bool.or_false] at ho9
    exact ⟨C, bad, rfl, (HC2.out.trans (HC3.out.mono (M' := fun k => k = g) fun _ h => h.elim) fun b h => .inl h).trans HC9.out fun b h => .inr (Nat.le_of_eq h.symm), hp9.less (fun b h => .inl h) HGX.out, ho9⟩
  · obtain ⟨gw, rfl⟩ := hch.form
    have HCH := Lib.hid hch; clear hch
    go_wp2_with (first
      | (refine wpList_store_blk (cs0 := ([.int .i64 0, .int .i64 0, .int .i64 0, .int .i64 0] ++ List.replicate 96 (.int .u8 0) ++ [.int .i64 0] : List Value)) (cs := C) rfl 29 _ _ rfl (Blk.new w2 _ _) rfl rfl (by rw [HL.out]; rfl) HI.out H1.out ?_; intro w3 hb3 hc3; have HB3 := Lib.hid hb3
         have HC3 := Lib.hid (show Chg (fun _ => False) w2 w3 from ((Chg.refl _ w2).alloc _).trans hc3 fun b h => .inr (Nat.le_of_eq h.symm)); clear hb3 hc3
         have HK3 := Lib.hid (HK2.out.chg HC3.out id)))
    have hp3 := (HP2.out.chg HC3.out fun b h => h.elim)
    have hlx := hp3.2.2.2.1
    have hz3 := Nat.le_trans hz2 HC3.out.size
    have hal := (Below.refl w3.heap.size w3).alloc (Nat.le_refl _) (.cells #[.string ⟨#[119, 105, 116, 104, 105, 110]⟩, .iface 113 (.pointer (some ⟨gw, 0, none⟩))] 117)
    have hch3 := (HCH.out.to (w' := w3) (S' := fun b => ¬ (X b ∨ b = w.heap.size) ∧ E ≤ b) (fun b hb hlt => ⟨Nat.lt_of_lt_of_le hlt HC3.out.size, HC3.out.block b hlt id⟩) fun b hb hlt => ⟨fun h => h.elim (fun h => by have := HP2.out.2.2.2.1 b (.inl h); have := HX1.out b h; omega) fun h => by omega, by omega⟩)
    have HBAD := Lib.hid (bad_any _ (hp3.below hal) (hch3.freshMore _ ⟨fun h => absurd (hlx _ h) (Nat.lt_irrefl _), by omega⟩))
    clear hp3 hlx hal hch3
    refine HBAD.out.mono ?_
    rintro e w4 ⟨rfl, hc4, hp4⟩
    have HC4 := Lib.hid hc4
    have HP4 := Lib.hid hp4
    have hgg : ¬ w.heap.size = g := by omega
    have HK4 := Lib.hid ((HK3.out.alloc _).chg hc4 (fun h => hgg h))
    have HB4 := Lib.hid ((HB3.out.alloc _).chg hc4 (fun h => by omega))
    clear hc4 hp4 HBAD
    go_wp2_with (first
      | (refine wpList_load_blk' rfl 29 _ rfl HB4.out rfl Tryz.underlying29 rfl HI.out ?_)
      | (refine wpList_store_blk (cs0 := ([.int .i64 0, .int .i64 0, .int .i64 0, .int .i64 0] ++ List.replicate 96 (.int .u8 0) ++ [.int .i64 0] : List Value)) (cs := C) rfl 29 _ _ rfl HK4.out rfl rfl (by rw [HL.out]; rfl) HI.out H1.out ?_; intro w9 hb9 hc9; have HB9 := Lib.hid hb9; have HC9 := Lib.hid hc9; clear hb9 hc9))
    have hld := run_loadVar_mid (P := Tryz.prog) w9 w.heap.size 0 29 C _ HB9.out.range Tryz.underlying29 rfl HI.out
    refine bodyPost_ret (v := .agg C.toArray) (by simp [results, Tryz.results90, asAddr, hld, Act.put]) rfl ?_
    have hc34 : Chg (fun k => k = g) w2 w4 := ((HC3.out.mono (M' := fun k => k = g) fun _ h => h.elim).alloc _).trans HC4.out fun b h => .inl h
    have hp9 := HP4.out.chg HC9.out fun b h => ⟨.inr h, fun e => by omega⟩
    have ho9 := HO.out.to (w' := w9) (S' := fun b => w.heap.size ≤ b) (fun b hb hlt => ⟨Nat.lt_of_lt_of_le hlt (Nat.le_trans hc34.size HC9.out.size), (HC9.out.block b (Nat.lt_of_lt_of_le hlt hc34.size) (fun e => by omega)).trans (hc34.block b hlt (fun e => by omega))⟩) fun b hb _ => by omega
    rw [Bool.or_true] at ho9
    exact ⟨C, true, rfl, (HC2.out.trans hc34 fun b h => .inl h).trans HC9.out fun b h => .inr (Nat.le_of_eq h.symm), hp9.less (fun b h => .inl h) HGX.out, ho9⟩

end Go.Proofs.YtjjgmkfkmckkoabGreatDoor

/- Codec: all[Commit]. -/
namespace Go.Proofs.YtjjgmkfkmckkoabGreatDoor
open Go.RowKit Go.Maps
attribute [-simp] Tryz.isAgg24 Tryz.typeInfo24 Tryz.isAgg56 Tryz.typeInfo56

theorem size_allCommit_any : (Tryz.prog.info? 56).map (·.size) = some 38 := by kernel_rfl
theorem sizes_allCommit_any : (Tryz.prog.info? 56).map (fun i => (i.zero.map (fun z => z.cells.size), i.size)) = some (some 38, 38) := by kernel_rfl
theorem info_allCommit_any : (Tryz.prog.info? 56).map (fun i => (i.zero, i.size, i.bytes)) = some (some (.agg (([.slice none 0 0] ++ ([.int .i64 0, .int .i64 0, .int .i64 0] ++ List.replicate 32 (.int .u8 0) ++ [.slice none 0 0, .slice none 0 0]) : List Value)).toArray), 38, 128) := by kernel_rfl
set_option maxHeartbeats 8000000 in
set_option maxRecDepth 100000 in
theorem allCommit_any (w : World) {X : Nat → Prop} {E g : Nat} {sent : Value} {x : List UInt8} {rows : List (List UInt8)} {bad : Bool} (h : Pt w X E g sent (x :: rows) bad) (hxl : x.length ≤ 262144) :
    Calls Tryz.prog 72 #[.pointer (some ⟨g, 0, none⟩), .func (Fn.func 73) #[] #[]] w (Took (.list tCommit) w X E g sent x rows bad) := by
  have hgx := h.2.2.1
  have hgw := h.lt
  have hEw := h.2.2.2.2.1
  have HGX := Lib.hid hgx
  have HX1 := Lib.hid (show ∀ b, X b → b < w.heap.size from h.2.2.2.1)
  have H := Lib.hid (next_any _ h)
  clear h hgx
  go_enter Tryz.func72, Tryz.ntmps72
  go_wp2_with fail
  refine H.out.mono ?_
  rintro e w1 ⟨v1, rfl, hb1, hc1, hp1⟩
  have HSP := Lib.hid (split_any w1 hb1 (by omega))
  have hz1 := hc1.size
  have HP1 := Lib.hid hp1
  have HC1 := Lib.hid hc1
  obtain ⟨A1, c1, rfl⟩ := hb1.form
  clear hb1 hp1 hc1 H
  go_wp2_with fail
  refine HSP.out.mono ?_
  rintro e w2 ⟨hb2, ⟨hno, rfl⟩ | ⟨v2, l, hsp, rfl, hbss⟩⟩
  · have HNO := Lib.hid hno; clear hno
    have hp2 := HP1.out.below hb2
    obtain ⟨⟨sa, rfl⟩, hgl⟩ := hp2.1
    have hgl : w2.cell? ⟨gF, 0, none⟩ = some _ := hgl
    unfold gF at hgl
    have hlx := hp2.2.2.2.1
    have hE2 := hp2.2.2.2.2.1
    have hal := (Below.refl w2.heap.size w2).alloc (Nat.le_refl _) (.cells #[.string ⟨#[97, 32, 108, 105, 115, 116]⟩, .iface 205 (.pointer (some sa))] 117)
    have HBAD := Lib.hid (bad_any _ (hp2.below hal) (Chain.fresh _ ⟨fun h => absurd (hlx _ h) (Nat.lt_irrefl _), hE2⟩))
    have HC2 := Lib.hid (HC1.out.trans (Chg.of_below hb2 fun k => k = g) fun b h => .inl h)
    clear hp2 hlx hal hE2 hb2 HP1 HC1 HSP
    go_wp2_with fail
    refine HBAD.out.mono ?_
    rintro e w3 ⟨rfl, hc3, hp3⟩
    have HP3 := Lib.hid hp3
    have HC3 := Lib.hid hc3
    clear hp3 hc3 HBAD
    go_wp2_with fail
    refine wp_loop_rounds 1 ?_
    rw [rounds_succ]
    go_wp2
    go_ret
    exact ⟨[.slice none 0 0], true, rfl, (HC2.out.alloc _).trans HC3.out fun b h => .inl h, HP3.out, SOut.noList HNO.out rfl⟩
  · have hrl : ∀ y ∈ l, y.length ≤ 262144 := fun y hy => Nat.le_trans (joinP_mem_le hsp y hy) hxl
    have hll : l.length ≤ 32768 := by
      have h1 := splitB_back hsp
      have h2 := joinP_count l
      rw [← h1, joinB_length] at hxl
      omega
    obtain ⟨A2, c2, rfl⟩ := hbss.form
    have HROWS := Lib.hid (((hbss.read fun y hy => by have := hrl y hy; omega).lt_ (T := fun b => w1.heap.size ≤ b) fun b h => h.elim id id).subs (T := fun b => b ≠ g) fun b hb _ => by have := hb.1; omega)
    have HP2 := Lib.hid (HP1.out.below hb2)
    have HC2 := Lib.hid (HC1.out.trans (Chg.of_below hb2 fun k => k = g) fun b h => .inl h)
    have HSPL := Lib.hid hsp
    have HRL := Lib.hid hrl
    have hwS : w.heap.size ≤ w2.heap.size := Nat.le_trans hz1 hb2.size
    clear hbss hsp hrl hb2 HP1 HC1 HSP hxl
    go_wp2_with fail
    go_loopw [7, 28] (fun o i wr => ∃ k : Nat, k ≤ l.length ∧ i = .int .i64 k ∧ AllI 56 38 tCommit w w2 X E g sent rows bad l o k wr) (fun _ i _ => l.length - (intOf i).toNat)
    case atStart => exact ⟨0, Nat.zero_le _, rfl, AllI.start HP2.out⟩
    case round =>
      obtain ⟨k, hk, rfl, hI⟩ := hrel
      by_cases hlt : k < l.length
      · obtain ⟨css, bk, hown, hob, hlo, hpt, hch⟩ := hI
        obtain ⟨ba, oa, ua, rfl, hca, hua, _, hSb⟩ := (HROWS.out.chg hch (fun b hb h => hb h)).at_ hlt
        have htk : l.take (k + 1) = l.take k ++ [l[k]] := List.take_succ_eq_append_getElem hlt
        have hyl := HRL.out l[k] (List.getElem_mem hlt)
        obtain ⟨y, hy⟩ : ∃ y, y = l[k] := ⟨_, rfl⟩
        rw [← hy] at hua htk hyl
        have HR := Lib.hid (readCommit_any wr hua hyl hpt.1)
        obtain ⟨Ay, cy, rfl⟩ := hua.form
        obtain ⟨Ao, co, rfl⟩ := hown.form
        have HOWN := Lib.hid hown
        have HOB := Lib.hid hob
        have HLO := Lib.hid hlo
        have HPT := Lib.hid hpt
        have HCH := Lib.hid hch
        have HTK := Lib.hid htk
        have H63 := Lib.hid (show k + 1 ≤ maxLen ∧ (k + 1) * 128 ≤ 140737488355328 from ⟨by simp only [maxLen]; omega, by omega⟩)
        have hzr := hch.size
        clear hown hob hlo hpt hch htk hy hua hyl
        go_wp2_with fail
        refine HR.out.mono ?_
        rintro e w3 hro
        obtain ⟨C, err, bd, rfl, h1, hl, hb3, he, ho⟩ := hro.agg (fun _ => rfl)
        have hl : C.length = 38 := hl
        have HL := Lib.hid hl
        have HI := Lib.hid (show (Tryz.prog.info? 56).map (·.size) = some C.length from by rw [hl]; exact size_allCommit_any)
        have HI2 := Lib.hid (show (Tryz.prog.info? 56).map (fun i => (i.zero.map (fun z => z.cells.size), i.size)) = some (some C.length, C.length) from by rw [hl]; exact sizes_allCommit_any)
        have H1 := Lib.hid h1
        clear h1 hl
        have HB3 := Lib.hid hb3
        have HP3 := Lib.hid (HPT.out.below hb3)
        have HO := Lib.hid (ho.or_ bk)
        clear hro hb3 ho HR
        rcases he with ⟨rfl, rfl⟩ | ⟨rfl, hcn⟩
        · skip
          go_wp2_with (first
            | (refine wpList_store_blk (cs0 := ([.slice none 0 0] ++ ([.int .i64 0, .int .i64 0, .int .i64 0] ++ List.replicate 32 (.int .u8 0) ++ [.slice none 0 0, .slice none 0 0]) : List Value)) (cs := C) rfl 56 _ _ rfl (Blk.new w3 _ _) rfl rfl (by rw [HL.out]; rfl) HI.out H1.out ?_; intro w4 hb4 hc4; have HB4 := Lib.hid hb4; have HC4 := Lib.hid (show Chg (fun _ => False) w3 w4 from ((Chg.refl _ w3).alloc _).trans hc4 fun b h => .inr (Nat.le_of_eq h.symm)); clear hb4 hc4; have HO2 := Lib.hid (show ∀ ob, Own (w4.alloc ob) 56 38 (.slice Ao k co) k css.flatten from fun ob => own_keep HOWN.out fun b hb => (by have h1 := own_lt HOWN.out hb; have h2 := HOB.out b hb; have h3 := HB3.out.size; exact (Below.heap_alloc w4 ob b (Nat.lt_of_lt_of_le (Nat.lt_of_lt_of_le h1 h3) HC4.out.size)).trans ((HC4.out.block b (Nat.lt_of_lt_of_le h1 h3) id).trans (HB3.out.block b h1)))); have HS2 := Lib.hid (Cs.of_new w4 56 (size := 38) 1 (cs := C) (by rw [HL.out]) (by simp only [maxLen]; decide)))
            | (refine wpList_load_blk' rfl 56 _ rfl HB4.out rfl Tryz.underlying56 rfl HI.out ?_)
            | (refine wpList_row1 rfl 34 56 _ rfl Tryz.underlying34 (.agg C.toArray) rfl C rfl HI2.out (by rw [HL.out]; decide) (by rw [HL.out]; decide) ?_)
            | (at_builtin; refine wpList_app _ rfl _ _ _ rfl Tryz.underlying34 info_allCommit_any rfl (by decide) (HO2.out _) rfl HS2.out rfl H1.out H63.out.1 H63.out.2 ?_; intro v6 w6 ho6 hc6 hnil6 hat6; clear hnil6; have HO6 := Lib.hid ho6; clear ho6; have HC6 := Lib.hid hc6; clear hc6; have HAT6 := Lib.hid hat6; clear hat6))
          refine ⟨⟨k + 1, by omega, by push_cast; rfl, AllI.step hgw hwS HOWN.out HOB.out HLO.out HCH.out HB3.out (by have := HO.out; rw [Bool.or_false] at this; exact this) (HC4.out.mono (M' := fun b => b = g) fun _ h => h.elim) (HP3.out.chg HC4.out fun b h => h.elim) HTK.out HO6.out HC6.out HAT6.out⟩, ?_⟩
          simp only [intOf]; omega
        · skip
          obtain ⟨gw, rfl⟩ := hcn.form
          have HCN := Lib.hid hcn; clear hcn
          go_wp2_with (refine wpList_store_blk (cs0 := ([.slice none 0 0] ++ ([.int .i64 0, .int .i64 0, .int .i64 0] ++ List.replicate 32 (.int .u8 0) ++ [.slice none 0 0, .slice none 0 0]) : List Value)) (cs := C) rfl 56 _ _ rfl (Blk.new w3 _ _) rfl rfl (by rw [HL.out]; rfl) HI.out H1.out ?_; intro w4 hb4 hc4; have HB4 := Lib.hid hb4; have HC4 := Lib.hid (show Chg (fun _ => False) w3 w4 from ((Chg.refl _ w3).alloc _).trans hc4 fun b h => .inr (Nat.le_of_eq h.symm)); clear hb4 hc4)
          have hp4 := (HP3.out.chg HC4.out fun b h => h.elim)
          have hlx := hp4.2.2.2.1
          have hE4 := hp4.2.2.2.2.1
          have hz4 := HC4.out.size
          have hz3 := HB3.out.size
          have hal := (Below.refl w4.heap.size w4).alloc (Nat.le_refl _) (.cells #[.string ⟨#[105, 110, 32, 97, 32, 108, 105, 115, 116]⟩, .iface 113 (.pointer (some ⟨gw, 0, none⟩))] 117)
          have hcn4 := (HCN.out.to (w' := w4) (S' := fun b => ¬ (X b ∨ (Value.slice Ao k co).ownBlock = some b) ∧ E ≤ b) (fun b hb hlt => ⟨Nat.lt_of_lt_of_le hlt HC4.out.size, HC4.out.block b hlt id⟩) fun b hb hlt => ⟨fun h => h.elim (fun h => by have := HX1.out b h; omega) fun h => by have := own_lt HOWN.out h; omega, by omega⟩)
          have HBAD := Lib.hid (bad_any _ (hp4.below hal) (hcn4.freshMore _ ⟨fun h => absurd (hlx _ h) (Nat.lt_irrefl _), hE4⟩))
          clear hp4 hlx hal hcn4 hE4
          refine HBAD.out.mono ?_
          rintro e w5 ⟨rfl, hc5, hp5⟩
          have HP5 := Lib.hid hp5
          have HC35 := Lib.hid (show Chg (fun b => b = g) w3 w5 from ((HC4.out.mono (M' := fun b => b = g) fun _ h => h.elim).alloc _).trans hc5 fun b h => .inl h)
          have HB5 := Lib.hid ((HB4.out.alloc _).chg hc5 (fun h => by omega))
          clear hc5 hp5 HBAD
          have HO2 := Lib.hid (show ∀ ob, Own (w5.alloc ob) 56 38 (.slice Ao k co) k css.flatten from fun ob => own_keep HOWN.out fun b hb => (by have h1 := own_lt HOWN.out hb; have h2 := HOB.out b hb; have h3 := HB3.out.size; exact (Below.heap_alloc w5 ob b (Nat.lt_of_lt_of_le (Nat.lt_of_lt_of_le h1 h3) HC35.out.size)).trans ((HC35.out.block b (Nat.lt_of_lt_of_le h1 h3) (fun e => by omega)).trans (HB3.out.block b h1))))
          have HS2 := Lib.hid (Cs.of_new w5 56 (size := 38) 1 (cs := C) (by rw [HL.out]) (by simp only [maxLen]; decide))
          go_wp2_with (first
            | (refine wpList_load_blk' rfl 56 _ rfl HB5.out rfl Tryz.underlying56 rfl HI.out ?_)
            | (refine wpList_row1 rfl 34 56 _ rfl Tryz.underlying34 (.agg C.toArray) rfl C rfl HI2.out (by rw [HL.out]; decide) (by rw [HL.out]; decide) ?_)
            | (at_builtin; refine wpList_app _ rfl _ _ _ rfl Tryz.underlying34 info_allCommit_any rfl (by decide) (HO2.out _) rfl HS2.out rfl H1.out H63.out.1 H63.out.2 ?_; intro v6 w6 ho6 hc6 hnil6 hat6; clear hnil6; have HO6 := Lib.hid ho6; clear ho6; have HC6 := Lib.hid hc6; clear hc6; have HAT6 := Lib.hid hat6; clear hat6))
          refine ⟨⟨k + 1, by omega, by push_cast; rfl, AllI.step hgw hwS HOWN.out HOB.out HLO.out HCH.out HB3.out (by have := HO.out; rw [Bool.or_true] at this; exact this) HC35.out HP5.out HTK.out HO6.out HC6.out HAT6.out⟩, ?_⟩
          simp only [intOf]; omega
      · have hk' : k = l.length := by omega
        subst hk'
        have HI := Lib.hid hI
        clear hI
        go_wp2_with fail
        go_ret
        exact HI.out.out rfl HSPL.out (fun _ => rfl) HGX.out HC2.out

end Go.Proofs.YtjjgmkfkmckkoabGreatDoor

/- Codec: all[Tx]. -/
namespace Go.Proofs.YtjjgmkfkmckkoabGreatDoor
open Go.RowKit Go.Maps
attribute [-simp] Tryz.isAgg24 Tryz.typeInfo24 Tryz.isAgg27 Tryz.typeInfo27

theorem size_allTx_any : (Tryz.prog.info? 27).map (·.size) = some 41 := by kernel_rfl
theorem sizes_allTx_any : (Tryz.prog.info? 27).map (fun i => (i.zero.map (fun z => z.cells.size), i.size)) = some (some 41, 41) := by kernel_rfl
theorem info_allTx_any : (Tryz.prog.info? 27).map (fun i => (i.zero, i.size, i.bytes)) = some (some (.agg (([.int .i64 0, .int .u64 0, .int .u64 0, .int .u64 0, .int .u64 0, .int .i64 0, .int .i64 0] ++ List.replicate 32 (.int .u8 0) ++ [.int .i64 0, .slice none 0 0] : List Value)).toArray), 41, 120) := by kernel_rfl
set_option maxHeartbeats 8000000 in
set_option maxRecDepth 100000 in
theorem allTx_any (w : World) {X : Nat → Prop} {E g : Nat} {sent : Value} {x : List UInt8} {rows : List (List UInt8)} {bad : Bool} (h : Pt w X E g sent (x :: rows) bad) (hxl : x.length ≤ 262144) :
    Calls Tryz.prog 74 #[.pointer (some ⟨g, 0, none⟩), .func (Fn.func 50) #[] #[]] w (Took (.list tTx) w X E g sent x rows bad) := by
  have hgx := h.2.2.1
  have hgw := h.lt
  have hEw := h.2.2.2.2.1
  have HGX := Lib.hid hgx
  have HX1 := Lib.hid (show ∀ b, X b → b < w.heap.size from h.2.2.2.1)
  have H := Lib.hid (next_any _ h)
  clear h hgx
  go_enter Tryz.func74, Tryz.ntmps74
  go_wp2_with fail
  refine H.out.mono ?_
  rintro e w1 ⟨v1, rfl, hb1, hc1, hp1⟩
  have HSP := Lib.hid (split_any w1 hb1 (by omega))
  have hz1 := hc1.size
  have HP1 := Lib.hid hp1
  have HC1 := Lib.hid hc1
  obtain ⟨A1, c1, rfl⟩ := hb1.form
  clear hb1 hp1 hc1 H
  go_wp2_with fail
  refine HSP.out.mono ?_
  rintro e w2 ⟨hb2, ⟨hno, rfl⟩ | ⟨v2, l, hsp, rfl, hbss⟩⟩
  · have HNO := Lib.hid hno; clear hno
    have hp2 := HP1.out.below hb2
    obtain ⟨⟨sa, rfl⟩, hgl⟩ := hp2.1
    have hgl : w2.cell? ⟨gF, 0, none⟩ = some _ := hgl
    unfold gF at hgl
    have hlx := hp2.2.2.2.1
    have hE2 := hp2.2.2.2.2.1
    have hal := (Below.refl w2.heap.size w2).alloc (Nat.le_refl _) (.cells #[.string ⟨#[97, 32, 108, 105, 115, 116]⟩, .iface 205 (.pointer (some sa))] 117)
    have HBAD := Lib.hid (bad_any _ (hp2.below hal) (Chain.fresh _ ⟨fun h => absurd (hlx _ h) (Nat.lt_irrefl _), hE2⟩))
    have HC2 := Lib.hid (HC1.out.trans (Chg.of_below hb2 fun k => k = g) fun b h => .inl h)
    clear hp2 hlx hal hE2 hb2 HP1 HC1 HSP
    go_wp2_with fail
    refine HBAD.out.mono ?_
    rintro e w3 ⟨rfl, hc3, hp3⟩
    have HP3 := Lib.hid hp3
    have HC3 := Lib.hid hc3
    clear hp3 hc3 HBAD
    go_wp2_with fail
    refine wp_loop_rounds 1 ?_
    rw [rounds_succ]
    go_wp2
    go_ret
    exact ⟨[.slice none 0 0], true, rfl, (HC2.out.alloc _).trans HC3.out fun b h => .inl h, HP3.out, SOut.noList HNO.out rfl⟩
  · have hrl : ∀ y ∈ l, y.length ≤ 262144 := fun y hy => Nat.le_trans (joinP_mem_le hsp y hy) hxl
    have hll : l.length ≤ 32768 := by
      have h1 := splitB_back hsp
      have h2 := joinP_count l
      rw [← h1, joinB_length] at hxl
      omega
    obtain ⟨A2, c2, rfl⟩ := hbss.form
    have HROWS := Lib.hid (((hbss.read fun y hy => by have := hrl y hy; omega).lt_ (T := fun b => w1.heap.size ≤ b) fun b h => h.elim id id).subs (T := fun b => b ≠ g) fun b hb _ => by have := hb.1; omega)
    have HP2 := Lib.hid (HP1.out.below hb2)
    have HC2 := Lib.hid (HC1.out.trans (Chg.of_below hb2 fun k => k = g) fun b h => .inl h)
    have HSPL := Lib.hid hsp
    have HRL := Lib.hid hrl
    have hwS : w.heap.size ≤ w2.heap.size := Nat.le_trans hz1 hb2.size
    clear hbss hsp hrl hb2 HP1 HC1 HSP hxl
    go_wp2_with fail
    go_loopw [7, 28] (fun o i wr => ∃ k : Nat, k ≤ l.length ∧ i = .int .i64 k ∧ AllI 27 41 tTx w w2 X E g sent rows bad l o k wr) (fun _ i _ => l.length - (intOf i).toNat)
    case atStart => exact ⟨0, Nat.zero_le _, rfl, AllI.start HP2.out⟩
    case round =>
      obtain ⟨k, hk, rfl, hI⟩ := hrel
      by_cases hlt : k < l.length
      · obtain ⟨css, bk, hown, hob, hlo, hpt, hch⟩ := hI
        obtain ⟨ba, oa, ua, rfl, hca, hua, _, hSb⟩ := (HROWS.out.chg hch (fun b hb h => hb h)).at_ hlt
        have htk : l.take (k + 1) = l.take k ++ [l[k]] := List.take_succ_eq_append_getElem hlt
        have hyl := HRL.out l[k] (List.getElem_mem hlt)
        obtain ⟨y, hy⟩ : ∃ y, y = l[k] := ⟨_, rfl⟩
        rw [← hy] at hua htk hyl
        have HR := Lib.hid (readTx_any wr hua hyl hpt.1)
        obtain ⟨Ay, cy, rfl⟩ := hua.form
        obtain ⟨Ao, co, rfl⟩ := hown.form
        have HOWN := Lib.hid hown
        have HOB := Lib.hid hob
        have HLO := Lib.hid hlo
        have HPT := Lib.hid hpt
        have HCH := Lib.hid hch
        have HTK := Lib.hid htk
        have H63 := Lib.hid (show k + 1 ≤ maxLen ∧ (k + 1) * 120 ≤ 140737488355328 from ⟨by simp only [maxLen]; omega, by omega⟩)
        have hzr := hch.size
        clear hown hob hlo hpt hch htk hy hua hyl
        go_wp2_with fail
        refine HR.out.mono ?_
        rintro e w3 hro
        obtain ⟨C, err, bd, rfl, h1, hl, hb3, he, ho⟩ := hro.agg (fun _ => rfl)
        have hl : C.length = 41 := hl
        have HL := Lib.hid hl
        have HI := Lib.hid (show (Tryz.prog.info? 27).map (·.size) = some C.length from by rw [hl]; exact size_allTx_any)
        have HI2 := Lib.hid (show (Tryz.prog.info? 27).map (fun i => (i.zero.map (fun z => z.cells.size), i.size)) = some (some C.length, C.length) from by rw [hl]; exact sizes_allTx_any)
        have H1 := Lib.hid h1
        clear h1 hl
        have HB3 := Lib.hid hb3
        have HP3 := Lib.hid (HPT.out.below hb3)
        have HO := Lib.hid (ho.or_ bk)
        clear hro hb3 ho HR
        rcases he with ⟨rfl, rfl⟩ | ⟨rfl, hcn⟩
        · skip
          go_wp2_with (first
            | (refine wpList_store_blk (cs0 := ([.int .i64 0, .int .u64 0, .int .u64 0, .int .u64 0, .int .u64 0, .int .i64 0, .int .i64 0] ++ List.replicate 32 (.int .u8 0) ++ [.int .i64 0, .slice none 0 0] : List Value)) (cs := C) rfl 27 _ _ rfl (Blk.new w3 _ _) rfl rfl (by rw [HL.out]; rfl) HI.out H1.out ?_; intro w4 hb4 hc4; have HB4 := Lib.hid hb4; have HC4 := Lib.hid (show Chg (fun _ => False) w3 w4 from ((Chg.refl _ w3).alloc _).trans hc4 fun b h => .inr (Nat.le_of_eq h.symm)); clear hb4 hc4; have HO2 := Lib.hid (show ∀ ob, Own (w4.alloc ob) 27 41 (.slice Ao k co) k css.flatten from fun ob => own_keep HOWN.out fun b hb => (by have h1 := own_lt HOWN.out hb; have h2 := HOB.out b hb; have h3 := HB3.out.size; exact (Below.heap_alloc w4 ob b (Nat.lt_of_lt_of_le (Nat.lt_of_lt_of_le h1 h3) HC4.out.size)).trans ((HC4.out.block b (Nat.lt_of_lt_of_le h1 h3) id).trans (HB3.out.block b h1)))); have HS2 := Lib.hid (Cs.of_new w4 27 (size := 41) 1 (cs := C) (by rw [HL.out]) (by simp only [maxLen]; decide)))
            | (refine wpList_load_blk' rfl 27 _ rfl HB4.out rfl Tryz.underlying27 rfl HI.out ?_)
            | (refine wpList_row1 rfl 35 27 _ rfl Tryz.underlying35 (.agg C.toArray) rfl C rfl HI2.out (by rw [HL.out]; decide) (by rw [HL.out]; decide) ?_)
            | (at_builtin; refine wpList_app _ rfl _ _ _ rfl Tryz.underlying35 info_allTx_any rfl (by decide) (HO2.out _) rfl HS2.out rfl H1.out H63.out.1 H63.out.2 ?_; intro v6 w6 ho6 hc6 hnil6 hat6; clear hnil6; have HO6 := Lib.hid ho6; clear ho6; have HC6 := Lib.hid hc6; clear hc6; have HAT6 := Lib.hid hat6; clear hat6))
          refine ⟨⟨k + 1, by omega, by push_cast; rfl, AllI.step hgw hwS HOWN.out HOB.out HLO.out HCH.out HB3.out (by have := HO.out; rw [Bool.or_false] at this; exact this) (HC4.out.mono (M' := fun b => b = g) fun _ h => h.elim) (HP3.out.chg HC4.out fun b h => h.elim) HTK.out HO6.out HC6.out HAT6.out⟩, ?_⟩
          simp only [intOf]; omega
        · skip
          obtain ⟨gw, rfl⟩ := hcn.form
          have HCN := Lib.hid hcn; clear hcn
          go_wp2_with (refine wpList_store_blk (cs0 := ([.int .i64 0, .int .u64 0, .int .u64 0, .int .u64 0, .int .u64 0, .int .i64 0, .int .i64 0] ++ List.replicate 32 (.int .u8 0) ++ [.int .i64 0, .slice none 0 0] : List Value)) (cs := C) rfl 27 _ _ rfl (Blk.new w3 _ _) rfl rfl (by rw [HL.out]; rfl) HI.out H1.out ?_; intro w4 hb4 hc4; have HB4 := Lib.hid hb4; have HC4 := Lib.hid (show Chg (fun _ => False) w3 w4 from ((Chg.refl _ w3).alloc _).trans hc4 fun b h => .inr (Nat.le_of_eq h.symm)); clear hb4 hc4)
          have hp4 := (HP3.out.chg HC4.out fun b h => h.elim)
          have hlx := hp4.2.2.2.1
          have hE4 := hp4.2.2.2.2.1
          have hz4 := HC4.out.size
          have hz3 := HB3.out.size
          have hal := (Below.refl w4.heap.size w4).alloc (Nat.le_refl _) (.cells #[.string ⟨#[105, 110, 32, 97, 32, 108, 105, 115, 116]⟩, .iface 113 (.pointer (some ⟨gw, 0, none⟩))] 117)
          have hcn4 := (HCN.out.to (w' := w4) (S' := fun b => ¬ (X b ∨ (Value.slice Ao k co).ownBlock = some b) ∧ E ≤ b) (fun b hb hlt => ⟨Nat.lt_of_lt_of_le hlt HC4.out.size, HC4.out.block b hlt id⟩) fun b hb hlt => ⟨fun h => h.elim (fun h => by have := HX1.out b h; omega) fun h => by have := own_lt HOWN.out h; omega, by omega⟩)
          have HBAD := Lib.hid (bad_any _ (hp4.below hal) (hcn4.freshMore _ ⟨fun h => absurd (hlx _ h) (Nat.lt_irrefl _), hE4⟩))
          clear hp4 hlx hal hcn4 hE4
          refine HBAD.out.mono ?_
          rintro e w5 ⟨rfl, hc5, hp5⟩
          have HP5 := Lib.hid hp5
          have HC35 := Lib.hid (show Chg (fun b => b = g) w3 w5 from ((HC4.out.mono (M' := fun b => b = g) fun _ h => h.elim).alloc _).trans hc5 fun b h => .inl h)
          have HB5 := Lib.hid ((HB4.out.alloc _).chg hc5 (fun h => by omega))
          clear hc5 hp5 HBAD
          have HO2 := Lib.hid (show ∀ ob, Own (w5.alloc ob) 27 41 (.slice Ao k co) k css.flatten from fun ob => own_keep HOWN.out fun b hb => (by have h1 := own_lt HOWN.out hb; have h2 := HOB.out b hb; have h3 := HB3.out.size; exact (Below.heap_alloc w5 ob b (Nat.lt_of_lt_of_le (Nat.lt_of_lt_of_le h1 h3) HC35.out.size)).trans ((HC35.out.block b (Nat.lt_of_lt_of_le h1 h3) (fun e => by omega)).trans (HB3.out.block b h1))))
          have HS2 := Lib.hid (Cs.of_new w5 27 (size := 41) 1 (cs := C) (by rw [HL.out]) (by simp only [maxLen]; decide))
          go_wp2_with (first
            | (refine wpList_load_blk' rfl 27 _ rfl HB5.out rfl Tryz.underlying27 rfl HI.out ?_)
            | (refine wpList_row1 rfl 35 27 _ rfl Tryz.underlying35 (.agg C.toArray) rfl C rfl HI2.out (by rw [HL.out]; decide) (by rw [HL.out]; decide) ?_)
            | (at_builtin; refine wpList_app _ rfl _ _ _ rfl Tryz.underlying35 info_allTx_any rfl (by decide) (HO2.out _) rfl HS2.out rfl H1.out H63.out.1 H63.out.2 ?_; intro v6 w6 ho6 hc6 hnil6 hat6; clear hnil6; have HO6 := Lib.hid ho6; clear ho6; have HC6 := Lib.hid hc6; clear hc6; have HAT6 := Lib.hid hat6; clear hat6))
          refine ⟨⟨k + 1, by omega, by push_cast; rfl, AllI.step hgw hwS HOWN.out HOB.out HLO.out HCH.out HB3.out (by have := HO.out; rw [Bool.or_true] at this; exact this) HC35.out HP5.out HTK.out HO6.out HC6.out HAT6.out⟩, ?_⟩
          simp only [intOf]; omega
      · have hk' : k = l.length := by omega
        subst hk'
        have HI := Lib.hid hI
        clear hI
        go_wp2_with fail
        go_ret
        exact HI.out.out rfl HSPL.out (fun _ => rfl) HGX.out HC2.out

end Go.Proofs.YtjjgmkfkmckkoabGreatDoor

/- Codec: one[Sig]. -/
namespace Go.Proofs.YtjjgmkfkmckkoabGreatDoor
open Go.RowKit Go.Maps
attribute [-simp] Tryz.isAgg24 Tryz.typeInfo24 Tryz.isAgg37 Tryz.typeInfo37

theorem size_oneSig_any : (Tryz.prog.info? 37).map (·.size) = some 33 := by kernel_rfl
set_option maxHeartbeats 4000000 in
set_option maxRecDepth 100000 in
theorem oneSig_any (w : World) {X : Nat → Prop} {E g : Nat} {sent : Value} {x : List UInt8} {rows : List (List UInt8)} {bad : Bool} (h : Pt w X E g sent (x :: rows) bad) (hxl : x.length ≤ 262144) :
    Calls Tryz.prog 94 #[.pointer (some ⟨g, 0, none⟩), .func (Fn.func 95) #[] #[]] w (Took tSig w X E g sent x rows bad) := by
  have hgx := h.2.2.1
  have hgw := h.lt
  have hEw := h.2.2.2.2.1
  have hp0 := h.more ((Below.refl w.heap.size w).alloc (Nat.le_refl _) (.cells (([.int .i64 0] ++ List.replicate 32 (.int .u8 0) : List Value)).toArray 37)) (fun b => b = w.heap.size) (fun b hb => ⟨Nat.le_of_eq hb.symm, by rw [hb]; simp⟩)
  have H := Lib.hid (next_any _ hp0)
  have HN := Lib.hid (Blk.new w 37 (([.int .i64 0] ++ List.replicate 32 (.int .u8 0) : List Value)).toArray)
  have HGX := Lib.hid hgx
  have HX1 := Lib.hid (show ∀ b, X b → b < w.heap.size from h.2.2.2.1)
  clear h hp0 hgx
  go_enter Tryz.func94, Tryz.ntmps94
  go_wp2_with fail
  refine H.out.mono ?_
  rintro e w1 ⟨v1, rfl, hb1, hc1, hp1⟩
  have HK := Lib.hid (HN.out.chg hc1 (fun h => by omega))
  have hz1 : w.heap.size + 1 ≤ w1.heap.size := by simpa using hc1.size
  have HR := Lib.hid (readSig_any w1 hb1 hxl hp1.1)
  have HC1 := Lib.hid (show Chg (fun k => k = g) w w1 from ((Chg.refl (fun k => k = g) w).alloc _).trans hc1 fun b h => .inl h)
  have HP1 := Lib.hid hp1
  obtain ⟨A1, c1, rfl⟩ := hb1.form
  clear hb1 hp1 hc1 H HN hxl
  go_wp2_with fail
  refine HR.out.mono ?_
  rintro e w2 hro
  obtain ⟨C, err, bd, rfl, h1, hl, hb2, he, ho⟩ := hro.agg (fun _ => rfl)
  have hl : C.length = 33 := hl
  have hz2 := Nat.le_trans hz1 hb2.size
  have HI := Lib.hid (show (Tryz.prog.info? 37).map (·.size) = some C.length from by rw [hl]; exact size_oneSig_any)
  have H1 := Lib.hid h1
  have HL := Lib.hid hl
  have HP2 := Lib.hid (HP1.out.below hb2)
  have HK2 := Lib.hid (HK.out.below hb2 HK.out.lt)
  have HC2 := Lib.hid (HC1.out.trans (Chg.of_below hb2 fun k => k = g) fun b h => .inl h)
  have HO := Lib.hid (ho.or_ bad)
  clear hro h1 hl hb2 ho HR HP1 HK HC1
  rcases he with ⟨rfl, rfl⟩ | ⟨rfl, hch⟩
  · go_wp2_with (first
      | (refine wpList_store_blk (cs0 := ([.int .i64 0] ++ List.replicate 32 (.int .u8 0) : List Value)) (cs := C) rfl 37 _ _ rfl (Blk.new w2 _ _) rfl rfl (by rw [HL.out]; rfl) HI.out H1.out ?_; intro w3 hb3 hc3; have HB3 := Lib.hid hb3
         have HC3 := Lib.hid (show Chg (fun _ => False) w2 w3 from ((Chg.refl _ w2).alloc _).trans hc3 fun b h => .inr (Nat.le_of_eq h.symm)); clear hb3 hc3
         have HK3 := Lib.hid (HK2.out.chg HC3.out id))
      | (refine wpList_load_blk' rfl 37 _ rfl HB3.out rfl Tryz.underlying37 rfl HI.out ?_)
      | (refine wpList_store_blk (cs0 := ([.int .i64 0] ++ List.replicate 32 (.int .u8 0) : List Value)) (cs := C) rfl 37 _ _ rfl HK3.out rfl rfl (by rw [HL.out]; rfl) HI.out H1.out ?_; intro w9 hb9 hc9; have HB9 := Lib.hid hb9; have HC9 := Lib.hid hc9; clear hb9 hc9))
    have hld := run_loadVar_mid (P := Tryz.prog) w9 w.heap.size 0 37 C _ HB9.out.range Tryz.underlying37 rfl HI.out
    refine bodyPost_ret (v := .agg C.toArray) (by simp [results, Tryz.results94, asAddr, hld, Act.put]) rfl ?_
    have hp9 := (HP2.out.chg HC3.out fun b h => h.elim).chg HC9.out fun b h => ⟨.inr h, fun e => by omega⟩
    have ho9 := HO.out.to (w' := w9) (S' := fun b => w.heap.size ≤ b) (fun b hb hlt => ⟨Nat.lt_of_lt_of_le hlt (Nat.le_trans HC3.out.size HC9.out.size), (HC9.out.block b (Nat.lt_of_lt_of_le hlt HC3.out.size) (fun e => by omega)).trans (HC3.out.block b hlt id)⟩) fun b hb _ => by omega
    rw [Bool.or_false] at ho9
    exact ⟨C, bad, rfl, (HC2.out.trans (HC3.out.mono (M' := fun k => k = g) fun _ h => h.elim) fun b h => .inl h).trans HC9.out fun b h => .inr (Nat.le_of_eq h.symm), hp9.less (fun b h => .inl h) HGX.out, ho9⟩
  · obtain ⟨gw, rfl⟩ := hch.form
    have HCH := Lib.hid hch; clear hch
    go_wp2_with (first
      | (refine wpList_store_blk (cs0 := ([.int .i64 0] ++ List.replicate 32 (.int .u8 0) : List Value)) (cs := C) rfl 37 _ _ rfl (Blk.new w2 _ _) rfl rfl (by rw [HL.out]; rfl) HI.out H1.out ?_; intro w3 hb3 hc3; have HB3 := Lib.hid hb3
         have HC3 := Lib.hid (show Chg (fun _ => False) w2 w3 from ((Chg.refl _ w2).alloc _).trans hc3 fun b h => .inr (Nat.le_of_eq h.symm)); clear hb3 hc3
         have HK3 := Lib.hid (HK2.out.chg HC3.out id)))
    have hp3 := (HP2.out.chg HC3.out fun b h => h.elim)
    have hlx := hp3.2.2.2.1
    have hz3 := Nat.le_trans hz2 HC3.out.size
    have hal := (Below.refl w3.heap.size w3).alloc (Nat.le_refl _) (.cells #[.string ⟨#[119, 105, 116, 104, 105, 110]⟩, .iface 113 (.pointer (some ⟨gw, 0, none⟩))] 117)
    have hch3 := (HCH.out.to (w' := w3) (S' := fun b => ¬ (X b ∨ b = w.heap.size) ∧ E ≤ b) (fun b hb hlt => ⟨Nat.lt_of_lt_of_le hlt HC3.out.size, HC3.out.block b hlt id⟩) fun b hb hlt => ⟨fun h => h.elim (fun h => by have := HP2.out.2.2.2.1 b (.inl h); have := HX1.out b h; omega) fun h => by omega, by omega⟩)
    have HBAD := Lib.hid (bad_any _ (hp3.below hal) (hch3.freshMore _ ⟨fun h => absurd (hlx _ h) (Nat.lt_irrefl _), by omega⟩))
    clear hp3 hlx hal hch3
    refine HBAD.out.mono ?_
    rintro e w4 ⟨rfl, hc4, hp4⟩
    have HC4 := Lib.hid hc4
    have HP4 := Lib.hid hp4
    have hgg : ¬ w.heap.size = g := by omega
    have HK4 := Lib.hid ((HK3.out.alloc _).chg hc4 (fun h => hgg h))
    have HB4 := Lib.hid ((HB3.out.alloc _).chg hc4 (fun h => by omega))
    clear hc4 hp4 HBAD
    go_wp2_with (first
      | (refine wpList_load_blk' rfl 37 _ rfl HB4.out rfl Tryz.underlying37 rfl HI.out ?_)
      | (refine wpList_store_blk (cs0 := ([.int .i64 0] ++ List.replicate 32 (.int .u8 0) : List Value)) (cs := C) rfl 37 _ _ rfl HK4.out rfl rfl (by rw [HL.out]; rfl) HI.out H1.out ?_; intro w9 hb9 hc9; have HB9 := Lib.hid hb9; have HC9 := Lib.hid hc9; clear hb9 hc9))
    have hld := run_loadVar_mid (P := Tryz.prog) w9 w.heap.size 0 37 C _ HB9.out.range Tryz.underlying37 rfl HI.out
    refine bodyPost_ret (v := .agg C.toArray) (by simp [results, Tryz.results94, asAddr, hld, Act.put]) rfl ?_
    have hc34 : Chg (fun k => k = g) w2 w4 := ((HC3.out.mono (M' := fun k => k = g) fun _ h => h.elim).alloc _).trans HC4.out fun b h => .inl h
    have hp9 := HP4.out.chg HC9.out fun b h => ⟨.inr h, fun e => by omega⟩
    have ho9 := HO.out.to (w' := w9) (S' := fun b => w.heap.size ≤ b) (fun b hb hlt => ⟨Nat.lt_of_lt_of_le hlt (Nat.le_trans hc34.size HC9.out.size), (HC9.out.block b (Nat.lt_of_lt_of_le hlt hc34.size) (fun e => by omega)).trans (hc34.block b hlt (fun e => by omega))⟩) fun b hb _ => by omega
    rw [Bool.or_true] at ho9
    exact ⟨C, true, rfl, (HC2.out.trans hc34 fun b h => .inl h).trans HC9.out fun b h => .inr (Nat.le_of_eq h.symm), hp9.less (fun b h => .inl h) HGX.out, ho9⟩

end Go.Proofs.YtjjgmkfkmckkoabGreatDoor

/- Codec: a block read. -/
namespace Go.Proofs.YtjjgmkfkmckkoabGreatDoor
open Go.RowKit Go.Maps
attribute [-simp] Tryz.isAgg24 Tryz.typeInfo24 Tryz.isAgg39 Tryz.typeInfo39

theorem info_readBlock : (Tryz.prog.info? 39).map (fun i => (i.zero.map (fun z => z.cells.size))) = some (some 173) := by kernel_rfl
theorem size_readBlock : (Tryz.prog.info? 39).map (·.size) = some 173 := by kernel_rfl
theorem places_readBlock : ((match Tryz.prog.underlying 39 with | some (.struct fields) => fields.toList.mapM (fun f => (Tryz.prog.info? f.type).map fun i => (f.offset, i.size)) | _ => none)) = some [(0, 101), (101, 37), (138, 1), (139, 1), (140, 33)] := by kernel_rfl
set_option maxHeartbeats 4000000 in
set_option maxRecDepth 100000 in
theorem readBlock_any (w : World) {S : Nat → Prop} {v sent : Value} {bs : List UInt8} (h : Bs w S v bs) (hlen : bs.length ≤ 262144) (hg : Gl w sent) :
    Calls Tryz.prog 59 #[v] w (ReadOut (.tup (.cons tHeader (.cons tQC (.cons (.list tCommit) (.cons (.list tTx) (.cons tSig .nil)))))) w sent bs) := by
  have hal := (Below.refl w.heap.size w).alloc (Nat.le_refl _) (.cells ((([.int .i64 0, .int .i64 0, .int .i64 0, .int .i64 0] ++ List.replicate 96 (.int .u8 0) ++ [.int .i64 0]) ++ ([.int .i64 0, .int .i64 0, .int .i64 0] ++ List.replicate 32 (.int .u8 0) ++ [.slice none 0 0, .slice none 0 0]) ++ [.slice none 0 0, .slice none 0 0] ++ ([.int .i64 0] ++ List.replicate 32 (.int .u8 0)) : List Value)).toArray 39)
  have HS := Lib.hid (psplit_any _ (h.below hal) (by omega) (hg.below hal) 5 (by omega) ⟨#[97, 32, 98, 108, 111, 99, 107]⟩)
  have HN := Lib.hid (Blk.new w 39 ((([.int .i64 0, .int .i64 0, .int .i64 0, .int .i64 0] ++ List.replicate 96 (.int .u8 0) ++ [.int .i64 0]) ++ ([.int .i64 0, .int .i64 0, .int .i64 0] ++ List.replicate 32 (.int .u8 0) ++ [.slice none 0 0, .slice none 0 0]) ++ [.slice none 0 0, .slice none 0 0] ++ ([.int .i64 0] ++ List.replicate 32 (.int .u8 0)) : List Value)).toArray)
  have HAL := Lib.hid hal
  obtain ⟨A, cap, rfl⟩ := h.form
  clear h hg hal
  go_enter Tryz.func59, Tryz.ntmps59
  go_wp2_with fail
  refine HS.out.mono ?_
  rintro e w1 ⟨g, rows, bad, rfl, hgw, hb1, hp, hn, hrl, hs⟩
  obtain ⟨r0, r1, r2, r3, r4, rfl⟩ : ∃ r0 r1 r2 r3 r4, rows = [r0, r1, r2, r3, r4] := by
    match rows, hn with
    | [r0, r1, r2, r3, r4], _ => exact ⟨r0, r1, r2, r3, r4, rfl⟩
  have HK := Lib.hid (HN.out.below hb1 (by simp))
  have hgw' : w.heap.size + 1 ≤ g := by simpa using hgw
  have hz1 : w.heap.size + 1 ≤ w1.heap.size := by simpa using hb1.size
  have HB1 := Lib.hid (HAL.out.trans (hb1.mono (by simp)))
  have HSS := Lib.hid hs
  have HRL := Lib.hid (show ∀ x ∈ [r0, r1, r2, r3, r4], x.length ≤ 262144 from fun x hx => Nat.le_trans (hrl x hx) hlen)
  have hE : Pt w1 (fun b => b = g) (w.heap.size + 1) g sent [r0, r1, r2, r3, r4] bad := by simpa using hp
  clear HS HN HAL hgw hb1 hs hn hp hrl hlen
  have hp0 := hE
  clear hE
  go_wp2_with fail
  refine (oneHeader_any _ hp0 (HRL.out _ (by simp))).mono ?_
  rintro e w2 ht
  obtain ⟨c0, b0, rfl, h10, hl0, hc0, hp1, ho0⟩ := ht.agg (fun _ => rfl)
  have hl0 : c0.length = 101 := hl0
  have hgl0 := hp0.lt
  have hz2 := Nat.le_trans hz1 hc0.size
  have HO0 := Lib.hid ho0
  have HC0 := Lib.hid hc0
  have H10 := Lib.hid h10
  have HL0 := Lib.hid hl0
  clear hl0
  clear ht ho0 hc0 h10 hp0
  go_wp2_with fail
  refine (oneQC_any _ hp1 (HRL.out _ (by simp))).mono ?_
  rintro e w3 ht
  obtain ⟨c1, b1, rfl, h11, hl1, hc1, hp2, ho1⟩ := ht.agg (fun _ => rfl)
  have hl1 : c1.length = 37 := hl1
  have hgl1 := hp1.lt
  have hz3 := Nat.le_trans hz2 hc1.size
  have HO1 := Lib.hid ho1
  have HC1 := Lib.hid hc1
  have H11 := Lib.hid h11
  have HL1 := Lib.hid hl1
  clear hl1
  clear ht ho1 hc1 h11 hp1
  go_wp2_with fail
  refine (allCommit_any _ hp2 (HRL.out _ (by simp))).mono ?_
  rintro e w4 ht
  obtain ⟨y2, b2, rfl, h12, hc2, hp3, ho2⟩ := ht.one (fun _ => rfl) rfl
  have hgl2 := hp2.lt
  have hz4 := Nat.le_trans hz3 hc2.size
  have HO2 := Lib.hid ho2
  have HC2 := Lib.hid hc2
  have H12 := Lib.hid h12
  clear ht ho2 hc2 h12 hp2
  go_wp2_with fail
  refine (allTx_any _ hp3 (HRL.out _ (by simp))).mono ?_
  rintro e w5 ht
  obtain ⟨y3, b3, rfl, h13, hc3, hp4, ho3⟩ := ht.one (fun _ => rfl) rfl
  have hgl3 := hp3.lt
  have hz5 := Nat.le_trans hz4 hc3.size
  have HO3 := Lib.hid ho3
  have HC3 := Lib.hid hc3
  have H13 := Lib.hid h13
  clear ht ho3 hc3 h13 hp3
  go_wp2_with fail
  refine (oneSig_any _ hp4 (HRL.out _ (by simp))).mono ?_
  rintro e w6 ht
  obtain ⟨c4, b4, rfl, h14, hl4, hc4, hp5, ho4⟩ := ht.agg (fun _ => rfl)
  have hl4 : c4.length = 33 := hl4
  have hgl4 := hp4.lt
  have hz6 := Nat.le_trans hz5 hc4.size
  have HO4 := Lib.hid ho4
  have HC4 := Lib.hid hc4
  have H14 := Lib.hid h14
  have HL4 := Lib.hid hl4
  clear hl4
  clear ht ho4 hc4 h14 hp4
  have hbu := run_struct (P := Tryz.prog) (vs := [.agg c0.toArray, .agg c1.toArray, y2, y3, .agg c4.toArray]) (cs := [c0, c1, [y2], [y3], c4]) info_readBlock places_readBlock ⟨rfl, rfl, cells_one H12.out, cells_one H13.out, rfl, trivial⟩ (by simp [PlaceOk, HL0.out, HL1.out, HL4.out]) (by simp [HL0.out, HL1.out, HL4.out]) #[(0, .agg c0.toArray), (1, .agg c1.toArray), (2, y2), (3, y3), (4, .agg c4.toArray)] rfl
  have hone : ∀ v ∈ [c0, c1, [y2], [y3], c4].flatten, v.oneCell' = true := by
    intro v hv
    simp only [List.flatten_cons, List.flatten_nil, List.mem_append, List.mem_singleton, List.not_mem_nil, or_false] at hv
    rcases hv with hv | hv | rfl | rfl | hv
    · exact H10.out v hv
    · exact H11.out v hv
    · exact H12.out
    · exact H13.out
    · exact H14.out v hv
  have HOUT := Lib.hid (show Fs.Out (.cons tHeader (.cons tQC (.cons (.list tCommit) (.cons (.list tTx) (.cons tSig .nil))))) w6 (fun b => w.heap.size + 1 ≤ b) [r0, r1, r2, r3, r4] [c0, c1, [y2], [y3], c4].flatten bad b4 from by
    have := Fs.Out.step HO0.out (Fs.Out.step HO1.out (Fs.Out.step HO2.out (Fs.Out.step HO3.out (Fs.Out.step HO4.out (Fs.Out.nil_ w6 _ _) (Chg.refl _ _) hgl4 hz5) HC4.out hgl3 hz4) (HC3.out.trans HC4.out fun b h => .inl h) hgl2 hz3) ((HC2.out.trans HC3.out fun b h => .inl h).trans HC4.out fun b h => .inl h) hgl1 hz2) (((HC1.out.trans HC2.out fun b h => .inl h).trans HC3.out fun b h => .inl h).trans HC4.out fun b h => .inl h) hgl0 hz1
    simpa using this)
  have HCA := Lib.hid (show Chg (fun k => k = g) w1 w6 from ((((HC0.out.trans HC1.out fun b h => .inl h).trans HC2.out fun b h => .inl h).trans HC3.out fun b h => .inl h).trans HC4.out fun b h => .inl h))
  have hcl : [c0, c1, [y2], [y3], c4].flatten.length = 173 := by simp [HL0.out, HL1.out, HL4.out]
  obtain ⟨C, hC⟩ : ∃ C, C = [c0, c1, [y2], [y3], c4].flatten := ⟨_, rfl⟩
  rw [← hC] at hbu hone hcl HOUT
  have HBU := Lib.hid hbu
  have HONE := Lib.hid hone
  have HCL := Lib.hid hcl
  have HI := Lib.hid (show (Tryz.prog.info? 39).map (·.size) = some C.length from by rw [hcl]; exact size_readBlock)
  have HK2 := Lib.hid (HK.out.chg HCA.out (show ¬ w.heap.size = g from by omega))
  clear hbu hone hcl hC HK HO0 HC0 H10 HO1 HC1 H11 HO2 HC2 H12 HO3 HC3 H13 HO4 HC4 H14 HL0 HL1 HL4
  have HP := Lib.hid hp5
  have hgX := hp5.lt
  clear hp5
  have hbu := HBU.out w6
  have HX := Lib.hid (HP.out.parts)
  go_wp2_with (first | (refine wpList_build_ rfl 39 _ rfl #[(0, .agg c0.toArray), (1, .agg c1.toArray), (2, y2), (3, y3), (4, .agg c4.toArray)] (by simp [Act.eval]) _ hbu ?_) | (refine wpList_store_blk (cs0 := (([.int .i64 0, .int .i64 0, .int .i64 0, .int .i64 0] ++ List.replicate 96 (.int .u8 0) ++ [.int .i64 0]) ++ ([.int .i64 0, .int .i64 0, .int .i64 0] ++ List.replicate 32 (.int .u8 0) ++ [.slice none 0 0, .slice none 0 0]) ++ [.slice none 0 0, .slice none 0 0] ++ ([.int .i64 0] ++ List.replicate 32 (.int .u8 0)) : List Value)) (cs := C) rfl 39 _ _ rfl (Blk.new w6 _ _) rfl rfl (by rw [HCL.out]; rfl) HI.out HONE.out ?_; intro wx hbx hcx; have HBX := Lib.hid hbx; have HCX := Lib.hid hcx; clear hbx hcx))
  obtain ⟨vy, ey, hblk, herr⟩ := HX.out
  have HCX' := Lib.hid (show Chg (fun _ => False) w6 wx from ((Chg.refl _ w6).alloc _).trans HCX.out fun b h => .inr (Nat.le_of_eq h.symm))
  have HGX := Lib.hid (hblk.chg HCX'.out id)
  have HKX := Lib.hid (HK2.out.chg HCX'.out id)
  have HE := Lib.hid herr
  clear hbu hblk herr HX HBU
  refine wp_region_hoist [0, 1, 2, 3, 4] [5] [6] (fun w' => Blk w' w6.heap.size 39 C.toArray ∧ Blk w' g 133 #[vy, ey])
    (by kernel_rfl) (by kernel_rfl) (by kernel_rfl) (by kernel_rfl) (by kernel_rfl) (by kernel_rfl) ⟨HBX.out.drew, HGX.out.drew⟩ ?_
  (refine HoistK.load (by rfl) (by kernel_rfl) 39 _ rfl w6.heap.size 0 rfl C _ (fun w' hw => hw.1.range) Tryz.underlying39 rfl HI.out ?_; simp only [Act.put, List.setIfInBounds_toArray, List.getElem_toArray, List.getElem_cons_zero, List.set_cons_succ, List.set_cons_zero])
  (refine HoistK.yes (by rfl) (by kernel_rfl) ⟨?_, fun w' hSw => ?_, ?_⟩; rotate_left; (· go_simp; try with_reducible rfl); simp only [Act.put, List.setIfInBounds_toArray, List.getElem_toArray, List.getElem_cons_succ, List.getElem_cons_zero, List.set_cons_succ, List.set_cons_zero])
  (refine HoistK.yes (by rfl) (by kernel_rfl) ⟨?_, fun w' hSw => ?_, ?_⟩; rotate_left; (· go_simp; try with_reducible rfl); simp only [Act.put, List.setIfInBounds_toArray, List.getElem_toArray, List.getElem_cons_succ, List.getElem_cons_zero, List.set_cons_succ, List.set_cons_zero])
  (refine HoistK.yes (by rfl) (by kernel_rfl) ⟨?_, fun w' hSw => ?_, ?_⟩; rotate_left; (· go_simp; try with_reducible rfl); simp only [Act.put, List.setIfInBounds_toArray, List.getElem_toArray, List.getElem_cons_succ, List.getElem_cons_zero, List.set_cons_succ, List.set_cons_zero])
  (refine HoistK.yes (by rfl) (by kernel_rfl) ⟨?_, fun w' hSw => ?_, ?_⟩; rotate_left; (· have hcc := hSw.2.cell; go_simp; try with_reducible rfl); simp only [Act.put, List.setIfInBounds_toArray, List.getElem_toArray, List.getElem_cons_succ, List.getElem_cons_zero, List.set_cons_succ, List.set_cons_zero])
  refine HoistK.nil_ ?_
  simp only [opsAt, List.filterMap_cons, List.filterMap_nil, List.getElem?_toArray, List.getElem?_cons_succ, List.getElem?_cons_zero]
  refine Effects.cons_ fun _ hQ1 => ?_
  go_wp2_with (refine wpList_store_blk (cs0 := (([.int .i64 0, .int .i64 0, .int .i64 0, .int .i64 0] ++ List.replicate 96 (.int .u8 0) ++ [.int .i64 0]) ++ ([.int .i64 0, .int .i64 0, .int .i64 0] ++ List.replicate 32 (.int .u8 0) ++ [.slice none 0 0, .slice none 0 0]) ++ [.slice none 0 0, .slice none 0 0] ++ ([.int .i64 0] ++ List.replicate 32 (.int .u8 0)) : List Value)) (cs := C) rfl 39 _ _ rfl HKX.out.drew rfl rfl (by rw [HCL.out]; rfl) HI.out HONE.out ?_; intro wy hby hcy; have HBY := Lib.hid hby; have HCY := Lib.hid hcy; clear hby hcy)
  refine hQ1 _ _ ⟨HBX.out.drew.chg HCY.out (fun h => by omega), HGX.out.drew.chg HCY.out (fun h => by omega)⟩ (Effects.nil_ fun _ hQ2 => ?_)
  go_wp2
  have hld := run_loadVar_mid (P := Tryz.prog) wy w.heap.size 0 39 C _ HBY.out.range Tryz.underlying39 rfl HI.out
  refine bodyPost_ret (v := .tuple #[.agg C.toArray, ey]) (by simp [results, Tryz.results59, asAddr, hld]) rfl ?_
  have hcf : Chg (fun b => b = w.heap.size) w6 wy := ((HCX'.out.mono fun _ h => h.elim).drew).trans HCY.out fun b h => .inl h
  exact ReadOut.mk (n := 5) HOUT.out HSS.out rfl HE.out (HB1.out.trans (HCA.out.below HB1.out.size fun b h => by omega)) hcf

end Go.Proofs.YtjjgmkfkmckkoabGreatDoor

/- Codec: list[[]int]. -/
namespace Go.Proofs.YtjjgmkfkmckkoabGreatDoor
open Go.RowKit Go.Maps

set_option maxHeartbeats 2000000 in
set_option maxRecDepth 100000 in
theorem listNums_any (w : World) {S : Nat → Prop} {v : Value} {l : List (Sh.list i64).El} (h : (Sh.list (Sh.list i64)).rep w S l [v]) (hl : ((Sh.list (Sh.list i64)).enc l).length ≤ 1099511627776) :
    Calls Tryz.prog 41 #[v, .func (Fn.func 40) #[] #[]] w fun e w' => ∃ v', e = .returned v' ∧ Fresh w w' v' ((Sh.list (Sh.list i64)).enc l) := by
  obtain ⟨A, cap, rfl, hlen, hat⟩ := list_at h
  have H := Lib.hid h; clear h
  have hl' : (joinB (l.map (Sh.list i64).enc)).length ≤ 1099511627776 := hl
  have hcnt := joinP_count (l.map (Sh.list i64).enc)
  rw [joinB_length] at hl'
  rw [List.length_map] at hcnt
  have HLL := Lib.hid hl
  clear hl hat
  go_enter Tryz.func41, Tryz.ntmps41
  go_wp2_with fail
  go_loopw [5, 10] (fun a i wr => ∃ k : Nat, k ≤ l.length ∧ i = .int .i64 k ∧ Bss wr (fun b => w.heap.size ≤ b) (fun b => w.heap.size ≤ b) a ((l.take k).map (Sh.list i64).enc) ∧ Below w.heap.size w wr) (fun _ i _ => l.length - (intOf i).toNat)
  case atStart => exact ⟨0, Nat.zero_le _, rfl, Bss.nil_ _ _ _, Below.refl _ _⟩
  case round =>
    obtain ⟨k, hk, rfl, hB, hbl⟩ := hrel
    by_cases hlt : k < l.length
    · obtain ⟨R, hR⟩ : ∃ R, R = (l.take k).map (Sh.list i64).enc := ⟨_, rfl⟩
      rw [← hR] at hB
      have hRl : R.length = k := by rw [hR, List.length_map, List.length_take]; omega
      have hnext : (l.take (k + 1)).map (Sh.list i64).enc = R ++ [(Sh.list i64).enc l[k]] := by rw [List.take_succ_eq_append_getElem hlt, List.map_append, ← hR]; rfl
      obtain ⟨Aa, ca, rfl⟩ := hB.form
      obtain ⟨_, _, e, _, hat⟩ := list_at (Sh.rep_below H.out hbl)
      injection e with e1 e2 e3
      subst e1 e3
      obtain ⟨b, off, c, rfl, hca, hr, hcl, _, _⟩ := hat k hlt
      obtain ⟨x, hx⟩ : ∃ x, x = l[k] := ⟨_, rfl⟩
      rw [← hx] at hr hnext
      obtain ⟨u, rfl⟩ : ∃ u, c = [u] := by obtain ⟨v, _, e, _⟩ := hr; exact ⟨v, e⟩
      have hsm2 : ((Sh.list i64).enc x).length ≤ 1099511627776 := by
        have h1 := joinP_mem (List.mem_map.2 ⟨l[k], List.getElem_mem hlt, rfl⟩ : (Sh.list i64).enc l[k] ∈ l.map (Sh.list i64).enc)
        rw [hx]; omega
      have HREP := Lib.hid hr
      have HSM := Lib.hid hsm2
      clear hr hsm2
      have hcell := Lies.one hca
      have hcell : wr.cell? ⟨b, off + k, none⟩ = some (u) := by simpa [Sh.cells, nk] using hcell
      have hown : ∀ k, (Value.slice Aa R.length ca).ownBlock = some k → k < wr.heap.size := fun k hk => by obtain ⟨vs, ho, _⟩ := hB; exact own_lt ho hk
      have HB := Lib.hid hB
      have HN := Lib.hid hnext
      have HRL := Lib.hid hRl
      have HOWN := Lib.hid hown
      clear hB hca hcl hat hx hR hnext hRl hown
      go_wp2_with fail
      refine (nums_any _ HREP.out HSM.out).mono ?_
      rintro e w1 ⟨v1, rfl, f1⟩
      have hb1 := hbl.trans (f1.2.mono hbl.size)
      obtain ⟨y, hy⟩ : ∃ y, y = (Sh.list i64).enc x := ⟨_, rfl⟩
      have f1 : Fresh wr w1 v1 y := hy ▸ f1
      rw [← hy] at HN
      obtain ⟨A1, c1, rfl⟩ := f1.1.form
      obtain ⟨vs, ho, hS, hr⟩ := HB.out.below f1.2
      have hsz1 := f1.2.size
      have hal : Below w1.heap.size w1 (w1.alloc (.cells #[.slice A1 y.length c1] 50)) := (Below.refl _ w1).alloc (Nat.le_refl _) _
      have HAL := Lib.hid hal
      have HO := Lib.hid (show Own (w1.alloc (.cells #[.slice A1 y.length c1] 50)) _ _ _ _ _ from own_keep ho fun k hk => hal.block k (own_lt ho hk))
      have HS := Lib.hid hS
      have HR := Lib.hid (fun i x u h1 h2 => (hr i x u h1 h2).below hal)
      have HU := Lib.hid ((f1.1.1.below hal).sub (T := fun b => w.heap.size ≤ b ∧ (Value.slice Aa R.length ca).ownBlock ≠ some b) fun b hb _ => ⟨Nat.le_trans hbl.size hb.1, fun e => by have := HOWN.out b e; omega⟩)
      have HS2 := Lib.hid (Cs.of_new w1 50 (size := 1) 1 (cs := [.slice A1 y.length c1]) rfl (by simp only [maxLen]; decide))
      have H63 := Lib.hid (show R.length + 1 ≤ maxLen ∧ (R.length + 1) * 24 ≤ 140737488355328 from by have := HRL.out; refine ⟨by simp only [maxLen]; omega, by omega⟩)
      clear ho hS hr hal f1 hy
      go_wp2_with (at_builtin; refine wpList_app _ rfl _ _ _ rfl Tryz.underlying103 info_row rfl (by decide) HO.out rfl HS2.out rfl (by simp [Value.oneCell']) H63.out.1 H63.out.2 ?_; intro v3 w3 ho3 hg3 hnil3 hat3; clear hnil3; have HO3 := Lib.hid ho3; clear ho3; have HG3 := Lib.hid hg3; clear hg3; have HAT3 := Lib.hid hat3; clear hat3)
      have hpush := Bss.push HO.out HS.out HR.out HU.out HO3.out HG3.out HAT3.out (by have := hb1.size; have := HAL.out.size; omega)
      rw [← HN.out] at hpush
      refine ⟨⟨k + 1, by omega, by push_cast; rfl, hpush, (hb1.trans (HAL.out.mono hb1.size)).trans (HG3.out.below (Nat.le_trans hb1.size HAL.out.size) fun b h => HS.out b h)⟩, ?_⟩
      simp only [intOf]
      omega
    · have hk' : k = l.length := by omega
      rw [hk', List.take_length] at hB
      have hsm : ∀ x ∈ l.map (Sh.list i64).enc, x.length ≤ 140737488355328 := fun x hx => by have := joinP_mem hx; omega
      have hj := join_any _ ((hB.read hsm).lt_ (T := fun b => w.heap.size ≤ b) fun b h => h.elim id id) (by rw [joinB_length]; omega) fun b h => h.2
      have HJ := Lib.hid hj
      obtain ⟨R, hR⟩ : ∃ R, R = l.map (Sh.list i64).enc := ⟨_, rfl⟩
      have HR := Lib.hid hR
      rw [← hR] at hB HJ
      obtain ⟨Aa, ca, rfl⟩ := hB.form
      clear hj hB hR hsm
      go_wp2_with fail
      refine HJ.out.mono ?_
      rintro e w1 ⟨v1, rfl, f1⟩
      go_wp2_with fail
      go_ret
      refine ⟨v1, rfl, ?_, hbl.trans (f1.2.mono hbl.size)⟩
      have := f1.1.sub (T := fun b => w.heap.size ≤ b ∧ Th w1 b) fun b hb _ => ⟨Nat.le_trans hbl.size hb.1, hb.2⟩
      rw [HR.out] at this
      exact this

end Go.Proofs.YtjjgmkfkmckkoabGreatDoor

/- Codec: a record. -/
namespace Go.Proofs.YtjjgmkfkmckkoabGreatDoor
open Go.RowKit Go.Maps
attribute [-simp] Tryz.isAgg24 Tryz.typeInfo24

set_option maxHeartbeats 4000000 in
set_option maxRecDepth 100000 in
theorem record_any (w : World) {S : Nat → Prop} {x : tRecord.El} {cs : List Value} (h : tRecord.rep w S x cs) (hl : (tRecord.enc x).length ≤ 1099511627776) :
    Calls Tryz.prog 14 #[.agg cs.toArray] w fun e w' => ∃ v', e = .returned v' ∧ Fresh w w' v' (tRecord.enc x) := by
  obtain ⟨x0, x1, x2, _⟩ := x
  obtain ⟨c0, _, rfl, ⟨rfl, _⟩, c1, _, rfl, r1, c2, _, rfl, r2, rfl⟩ := h
  obtain ⟨y1, rfl⟩ : ∃ y, c1 = [y] := by obtain ⟨v, _, e, _⟩ := r1; exact ⟨v, e⟩
  obtain ⟨y2, rfl⟩ : ∃ y, c2 = [y] := by obtain ⟨v, _, e, _⟩ := r2; exact ⟨v, e⟩
  have R1 := Lib.hid r1; clear r1
  have R2 := Lib.hid r2; clear r2
  simp only [nk_t]
  obtain ⟨C, hC⟩ : ∃ C, C = [Value.int .i64 x0] ++ ([y1] ++ ([y2] ++ ([]))) := ⟨_, rfl⟩
  rw [← hC]
  have hf : ∀ w', Blk w' w.heap.size 67 C.toArray → w'.cell? ⟨w.heap.size, 0, none⟩ = some (.int .i64 x0) ∧ w'.cell? ⟨w.heap.size, 1, none⟩ = some y1 ∧ w'.cell? ⟨w.heap.size, 2, none⟩ = some y2 := fun w' hb => by
    have := hb.lies [[Value.int .i64 x0], [y1], [y2]] [] (by rw [hC]; simp)
    simp only [Lies, List.length_cons, List.length_nil] at this
    obtain ⟨s0, s1, s2, _⟩ := this
    exact ⟨Lies.one s0, Lies.one s1, Lies.one s2⟩
  have HF := Lib.hid hf
  clear hf hC
  have hrows : tRecord.enc (x0, x1, x2, ()) = joinB [numB x0, (Sh.list i64).enc x1, (Sh.list (Sh.list i64)).enc x2] := rfl
  have hl' : (joinB [numB x0, (Sh.list i64).enc x1, (Sh.list (Sh.list i64)).enc x2]).length ≤ 1099511627776 := hl
  have HLL := Lib.hid hl'
  clear hl hl'
  go_enter Tryz.func14, Tryz.ntmps14
  go_wp2_with fail
  have hsz : w.heap.size < w.heap.size + 1 := by omega
  refine wp_region_hoist [0, 1, 3, 4, 6, 7] [2, 5, 8] [9, 10, 11] (fun w' => Blk w' w.heap.size 67 C.toArray)
    (by kernel_rfl) (by kernel_rfl) (by kernel_rfl) (by kernel_rfl) (by kernel_rfl) (by kernel_rfl) (Blk.new w _ _).drew ?_
  (refine HoistK.yes (by rfl) (by kernel_rfl) ⟨?_, fun w' hSw => ?_, ?_⟩; rotate_left; (· go_simp; try with_reducible rfl); simp only [Act.put, List.setIfInBounds_toArray, List.getElem_toArray, List.getElem_cons_zero, List.set_cons_succ, List.set_cons_zero])
  (refine HoistK.yes (by rfl) (by kernel_rfl) ⟨?_, fun w' hSw => ?_, ?_⟩; rotate_left; (· obtain ⟨s0, s1, s2⟩ := HF.out _ hSw; go_simp; try with_reducible rfl); simp only [Act.put, List.setIfInBounds_toArray, List.getElem_toArray, List.getElem_cons_succ, List.getElem_cons_zero, List.set_cons_succ, List.set_cons_zero])
  (refine HoistK.yes (by rfl) (by kernel_rfl) ⟨?_, fun w' hSw => ?_, ?_⟩; rotate_left; (· go_simp; try with_reducible rfl); simp only [Act.put, List.setIfInBounds_toArray, List.getElem_toArray, List.getElem_cons_succ, List.getElem_cons_zero, List.set_cons_succ, List.set_cons_zero])
  (refine HoistK.yes (by rfl) (by kernel_rfl) ⟨?_, fun w' hSw => ?_, ?_⟩; rotate_left; (· obtain ⟨s0, s1, s2⟩ := HF.out _ hSw; go_simp; try with_reducible rfl); simp only [Act.put, List.setIfInBounds_toArray, List.getElem_toArray, List.getElem_cons_succ, List.getElem_cons_zero, List.set_cons_succ, List.set_cons_zero])
  (refine HoistK.yes (by rfl) (by kernel_rfl) ⟨?_, fun w' hSw => ?_, ?_⟩; rotate_left; (· go_simp; try with_reducible rfl); simp only [Act.put, List.setIfInBounds_toArray, List.getElem_toArray, List.getElem_cons_succ, List.getElem_cons_zero, List.set_cons_succ, List.set_cons_zero])
  (refine HoistK.yes (by rfl) (by kernel_rfl) ⟨?_, fun w' hSw => ?_, ?_⟩; rotate_left; (· obtain ⟨s0, s1, s2⟩ := HF.out _ hSw; go_simp; try with_reducible rfl); simp only [Act.put, List.setIfInBounds_toArray, List.getElem_toArray, List.getElem_cons_succ, List.getElem_cons_zero, List.set_cons_succ, List.set_cons_zero])
  refine HoistK.nil_ ?_
  simp only [opsAt, List.filterMap_cons, List.filterMap_nil, List.getElem?_toArray, List.getElem?_cons_succ, List.getElem?_cons_zero]
  have hb0 : Blk (w.alloc (.cells C.toArray 67)).drew w.heap.size 67 C.toArray := (Blk.new w _ _).drew
  have g0 : Got w (w.alloc (.cells C.toArray 67)).drew [] [] := Got.start ((Below.refl _ w).alloc (Nat.le_refl _) _).drew
  refine Effects.cons_ fun _ hQ1 => ?_
  go_wp2_with fail
  refine (numInt_any _ _).mono ?_
  rintro e w1 ⟨v1, rfl, f1⟩
  have g1 := g0.step f1
  have hb1 := hb0.below f1.2 hb0.lt
  clear f1
  go_wp2_with fail
  refine hQ1 _ _ hb1 (Effects.cons_ fun _ hQ2 => ?_)
  clear hQ1 hb0 g0
  go_wp2_with fail
  refine (nums_any _ (Sh.rep_below R1.out g1.1) (by have h1 := HLL.out; rw [joinB_length] at h1; have h2 := joinP_mem (l := [numB x0, (Sh.list i64).enc x1, (Sh.list (Sh.list i64)).enc x2]) (x := (Sh.list i64).enc x1) (by simp); omega)).mono ?_
  rintro e w2 ⟨v2, rfl, f2⟩
  have g2 := g1.step f2
  have hb2 := hb1.below f2.2 hb1.lt
  clear f2
  go_wp2_with fail
  refine hQ2 _ _ hb2 (Effects.cons_ fun _ hQ3 => ?_)
  clear hQ2 hb1 g1
  go_wp2_with fail
  refine (listNums_any _ (Sh.rep_below R2.out g2.1) (by have h1 := HLL.out; rw [joinB_length] at h1; have h2 := joinP_mem (l := [numB x0, (Sh.list i64).enc x1, (Sh.list (Sh.list i64)).enc x2]) (x := (Sh.list (Sh.list i64)).enc x2) (by simp); omega)).mono ?_
  rintro e w3 ⟨v3, rfl, f3⟩
  have g3 := g2.step f3
  have hb3 := hb2.below f3.2 hb2.lt
  clear f3
  go_wp2_with fail
  refine hQ3 _ _ hb3 (Effects.nil_ fun _ hQ4 => ?_)
  clear hQ3 hb2 g2
  have hcs : ∀ v ∈ [v1, v2, v3], v.cells = #[v] := fun v hv => by
    obtain ⟨i, hi, rfl⟩ := List.getElem_of_mem hv
    obtain ⟨y, _, hr⟩ := g3.2.get i hi
    obtain ⟨A, c, e⟩ := hr.form
    have e' : [v1, v2, v3][i] = .slice A y.length c := e
    rw [e']; rfl
  refine wpList_rows rfl 3 _ rfl [v1, v2, v3] rfl (by decide) (by decide) hcs (by simp [Act.eval]) ?_
  have hr : Bsr (w3.alloc (.cells [v1, v2, v3].toArray 50)) (fun b => b < w3.heap.size + 1) (.slice (some ⟨w3.heap.size, 0, none⟩) 3 3) [numB x0, (Sh.list i64).enc x1, (Sh.list (Sh.list i64)).enc x2] := g3.row (by simp [maxLen]) 50
  have hj := join_any _ hr (by have := HLL.out; omega) (fun b hb => by simpa using hb)
  have hbb : Below w.heap.size w (w3.alloc (.cells [v1, v2, v3].toArray 50)) := g3.1.alloc g3.1.size _
  have HJ := Lib.hid hj
  have HBB := Lib.hid hbb
  clear hj hbb hr g3 hcs
  go_wp2_with fail
  refine HJ.out.mono ?_
  rintro e w4 ⟨v4, rfl, f4⟩
  go_wp2_with fail
  go_ret
  exact ⟨v4, rfl, f4.1.sub fun b hb _ => ⟨Nat.le_trans HBB.out.size hb.1, hb.2⟩, HBB.out.trans (f4.2.mono HBB.out.size)⟩

end Go.Proofs.YtjjgmkfkmckkoabGreatDoor

/- Codec: all[[]int]. -/
namespace Go.Proofs.YtjjgmkfkmckkoabGreatDoor
open Go.RowKit Go.Maps

theorem size_allNums_any : (Tryz.prog.info? 30).map (·.size) = some 1 := by kernel_rfl
theorem sizes_allNums_any : (Tryz.prog.info? 30).map (fun i => (i.zero.map (fun z => z.cells.size), i.size)) = some (some 1, 1) := by kernel_rfl
theorem info_allNums_any : (Tryz.prog.info? 30).map (fun i => (i.zero, i.size, i.bytes)) = some (some (.slice none 0 0), 1, 24) := by kernel_rfl
set_option maxHeartbeats 8000000 in
set_option maxRecDepth 100000 in
theorem allNums_any (w : World) {X : Nat → Prop} {E g : Nat} {sent : Value} {x : List UInt8} {rows : List (List UInt8)} {bad : Bool} (h : Pt w X E g sent (x :: rows) bad) (hxl : x.length ≤ 262144) :
    Calls Tryz.prog 83 #[.pointer (some ⟨g, 0, none⟩), .func (Fn.func 84) #[] #[]] w (Took (.list (.list i64)) w X E g sent x rows bad) := by
  have hgx := h.2.2.1
  have hgw := h.lt
  have hEw := h.2.2.2.2.1
  have HGX := Lib.hid hgx
  have HX1 := Lib.hid (show ∀ b, X b → b < w.heap.size from h.2.2.2.1)
  have H := Lib.hid (next_any _ h)
  clear h hgx
  go_enter Tryz.func83, Tryz.ntmps83
  go_wp2_with fail
  refine H.out.mono ?_
  rintro e w1 ⟨v1, rfl, hb1, hc1, hp1⟩
  have HSP := Lib.hid (split_any w1 hb1 (by omega))
  have hz1 := hc1.size
  have HP1 := Lib.hid hp1
  have HC1 := Lib.hid hc1
  obtain ⟨A1, c1, rfl⟩ := hb1.form
  clear hb1 hp1 hc1 H
  go_wp2_with fail
  refine HSP.out.mono ?_
  rintro e w2 ⟨hb2, ⟨hno, rfl⟩ | ⟨v2, l, hsp, rfl, hbss⟩⟩
  · have HNO := Lib.hid hno; clear hno
    have hp2 := HP1.out.below hb2
    obtain ⟨⟨sa, rfl⟩, hgl⟩ := hp2.1
    have hgl : w2.cell? ⟨gF, 0, none⟩ = some _ := hgl
    unfold gF at hgl
    have hlx := hp2.2.2.2.1
    have hE2 := hp2.2.2.2.2.1
    have hal := (Below.refl w2.heap.size w2).alloc (Nat.le_refl _) (.cells #[.string ⟨#[97, 32, 108, 105, 115, 116]⟩, .iface 205 (.pointer (some sa))] 117)
    have HBAD := Lib.hid (bad_any _ (hp2.below hal) (Chain.fresh _ ⟨fun h => absurd (hlx _ h) (Nat.lt_irrefl _), hE2⟩))
    have HC2 := Lib.hid (HC1.out.trans (Chg.of_below hb2 fun k => k = g) fun b h => .inl h)
    clear hp2 hlx hal hE2 hb2 HP1 HC1 HSP
    go_wp2_with fail
    refine HBAD.out.mono ?_
    rintro e w3 ⟨rfl, hc3, hp3⟩
    have HP3 := Lib.hid hp3
    have HC3 := Lib.hid hc3
    clear hp3 hc3 HBAD
    go_wp2_with fail
    refine wp_loop_rounds 1 ?_
    rw [rounds_succ]
    go_wp2
    go_ret
    exact ⟨[.slice none 0 0], true, rfl, (HC2.out.alloc _).trans HC3.out fun b h => .inl h, HP3.out, SOut.noList HNO.out rfl⟩
  · have hrl : ∀ y ∈ l, y.length ≤ 262144 := fun y hy => Nat.le_trans (joinP_mem_le hsp y hy) hxl
    have hll : l.length ≤ 32768 := by
      have h1 := splitB_back hsp
      have h2 := joinP_count l
      rw [← h1, joinB_length] at hxl
      omega
    obtain ⟨A2, c2, rfl⟩ := hbss.form
    have HROWS := Lib.hid (((hbss.read fun y hy => by have := hrl y hy; omega).lt_ (T := fun b => w1.heap.size ≤ b) fun b h => h.elim id id).subs (T := fun b => b ≠ g) fun b hb _ => by have := hb.1; omega)
    have HP2 := Lib.hid (HP1.out.below hb2)
    have HC2 := Lib.hid (HC1.out.trans (Chg.of_below hb2 fun k => k = g) fun b h => .inl h)
    have HSPL := Lib.hid hsp
    have HRL := Lib.hid hrl
    have hwS : w.heap.size ≤ w2.heap.size := Nat.le_trans hz1 hb2.size
    clear hbss hsp hrl hb2 HP1 HC1 HSP hxl
    go_wp2_with fail
    go_loopw [7, 28] (fun o i wr => ∃ k : Nat, k ≤ l.length ∧ i = .int .i64 k ∧ AllI 30 1 (.list i64) w w2 X E g sent rows bad l o k wr) (fun _ i _ => l.length - (intOf i).toNat)
    case atStart => exact ⟨0, Nat.zero_le _, rfl, AllI.start HP2.out⟩
    case round =>
      obtain ⟨k, hk, rfl, hI⟩ := hrel
      by_cases hlt : k < l.length
      · obtain ⟨css, bk, hown, hob, hlo, hpt, hch⟩ := hI
        obtain ⟨ba, oa, ua, rfl, hca, hua, _, hSb⟩ := (HROWS.out.chg hch (fun b hb h => hb h)).at_ hlt
        have htk : l.take (k + 1) = l.take k ++ [l[k]] := List.take_succ_eq_append_getElem hlt
        have hyl := HRL.out l[k] (List.getElem_mem hlt)
        obtain ⟨y, hy⟩ : ∃ y, y = l[k] := ⟨_, rfl⟩
        rw [← hy] at hua htk hyl
        have HR := Lib.hid (readNums_any wr hua hyl hpt.1)
        obtain ⟨Ay, cy, rfl⟩ := hua.form
        obtain ⟨Ao, co, rfl⟩ := hown.form
        have HOWN := Lib.hid hown
        have HOB := Lib.hid hob
        have HLO := Lib.hid hlo
        have HPT := Lib.hid hpt
        have HCH := Lib.hid hch
        have HTK := Lib.hid htk
        have H63 := Lib.hid (show k + 1 ≤ maxLen ∧ (k + 1) * 24 ≤ 140737488355328 from ⟨by simp only [maxLen]; omega, by omega⟩)
        have hzr := hch.size
        clear hown hob hlo hpt hch htk hy hua hyl
        go_wp2_with fail
        refine HR.out.mono ?_
        rintro e w3 hro
        obtain ⟨y0, err, bd, rfl, h1, hb3, he, ho⟩ := hro.one (fun _ => rfl) rfl
        have HY1 := Lib.hid h1
        have H1 := Lib.hid (show ∀ u ∈ [y0], u.oneCell' = true from fun u hu => by obtain rfl := List.mem_singleton.1 hu; exact h1)
        have HI2 := Lib.hid sizes_allNums_any
        clear h1
        have HB3 := Lib.hid hb3
        have HP3 := Lib.hid (HPT.out.below hb3)
        have HO := Lib.hid (ho.or_ bk)
        clear hro hb3 ho HR
        rcases he with ⟨rfl, rfl⟩ | ⟨rfl, hcn⟩
        · skip
          have HO2 := Lib.hid (show ∀ ob, Own (w3.alloc ob) 30 1 (.slice Ao k co) k css.flatten from fun ob => own_keep HOWN.out fun b hb => (by have h1 := own_lt HOWN.out hb; have h2 := HOB.out b hb; have h3 := HB3.out.size; exact (Below.heap_alloc w3 ob b (Nat.lt_of_lt_of_le h1 h3)).trans (HB3.out.block b h1)))
          have HS2 := Lib.hid (Cs.of_new w3 30 (size := 1) 1 (cs := [y0]) rfl (by simp only [maxLen]; decide))
          go_wp2_with (first
            | (refine wpList_row1 rfl 65 30 _ rfl Tryz.underlying65 y0 rfl [y0] (cells_one HY1.out) HI2.out (by simp) (by simp) ?_)
            | (at_builtin; refine wpList_app _ rfl _ _ _ rfl Tryz.underlying65 info_allNums_any rfl (by decide) (HO2.out _) rfl HS2.out rfl H1.out H63.out.1 H63.out.2 ?_; intro v6 w6 ho6 hc6 hnil6 hat6; clear hnil6; have HO6 := Lib.hid ho6; clear ho6; have HC6 := Lib.hid hc6; clear hc6; have HAT6 := Lib.hid hat6; clear hat6))
          refine ⟨⟨k + 1, by omega, by push_cast; rfl, AllI.step hgw hwS HOWN.out HOB.out HLO.out HCH.out HB3.out (by have := HO.out; rw [Bool.or_false] at this; exact this) (Chg.refl (fun b => b = g) w3) HP3.out HTK.out HO6.out HC6.out HAT6.out⟩, ?_⟩
          simp only [intOf]; omega
        · skip
          obtain ⟨gw, rfl⟩ := hcn.form
          have HCN := Lib.hid hcn; clear hcn
          have hp4 := HP3.out
          have hlx := hp4.2.2.2.1
          have hE4 := hp4.2.2.2.2.1
          have hz4 := Nat.le_refl w3.heap.size
          have hz3 := HB3.out.size
          have hal := (Below.refl w3.heap.size w3).alloc (Nat.le_refl _) (.cells #[.string ⟨#[105, 110, 32, 97, 32, 108, 105, 115, 116]⟩, .iface 113 (.pointer (some ⟨gw, 0, none⟩))] 117)
          have hcn4 := (HCN.out.to (w' := w3) (S' := fun b => ¬ (X b ∨ (Value.slice Ao k co).ownBlock = some b) ∧ E ≤ b) (fun b hb hlt => ⟨hlt, rfl⟩) fun b hb hlt => ⟨fun h => h.elim (fun h => by have := HX1.out b h; omega) fun h => by have := own_lt HOWN.out h; omega, by omega⟩)
          have HBAD := Lib.hid (bad_any _ (hp4.below hal) (hcn4.freshMore _ ⟨fun h => absurd (hlx _ h) (Nat.lt_irrefl _), hE4⟩))
          clear hp4 hlx hal hcn4 hE4
          go_wp2_with fail
          refine HBAD.out.mono ?_
          rintro e w5 ⟨rfl, hc5, hp5⟩
          have HP5 := Lib.hid hp5
          have HC35 := Lib.hid (show Chg (fun b => b = g) w3 w5 from ((Chg.refl (fun b => b = g) w3).alloc _).trans hc5 fun b h => .inl h)
          clear hc5 hp5 HBAD
          have HO2 := Lib.hid (show ∀ ob, Own (w5.alloc ob) 30 1 (.slice Ao k co) k css.flatten from fun ob => own_keep HOWN.out fun b hb => (by have h1 := own_lt HOWN.out hb; have h2 := HOB.out b hb; have h3 := HB3.out.size; exact (Below.heap_alloc w5 ob b (Nat.lt_of_lt_of_le (Nat.lt_of_lt_of_le h1 h3) HC35.out.size)).trans ((HC35.out.block b (Nat.lt_of_lt_of_le h1 h3) (fun e => by omega)).trans (HB3.out.block b h1))))
          have HS2 := Lib.hid (Cs.of_new w5 30 (size := 1) 1 (cs := [y0]) rfl (by simp only [maxLen]; decide))
          go_wp2_with (first
            | (refine wpList_row1 rfl 65 30 _ rfl Tryz.underlying65 y0 rfl [y0] (cells_one HY1.out) HI2.out (by simp) (by simp) ?_)
            | (at_builtin; refine wpList_app _ rfl _ _ _ rfl Tryz.underlying65 info_allNums_any rfl (by decide) (HO2.out _) rfl HS2.out rfl H1.out H63.out.1 H63.out.2 ?_; intro v6 w6 ho6 hc6 hnil6 hat6; clear hnil6; have HO6 := Lib.hid ho6; clear ho6; have HC6 := Lib.hid hc6; clear hc6; have HAT6 := Lib.hid hat6; clear hat6))
          refine ⟨⟨k + 1, by omega, by push_cast; rfl, AllI.step hgw hwS HOWN.out HOB.out HLO.out HCH.out HB3.out (by have := HO.out; rw [Bool.or_true] at this; exact this) HC35.out HP5.out HTK.out HO6.out HC6.out HAT6.out⟩, ?_⟩
          simp only [intOf]; omega
      · have hk' : k = l.length := by omega
        subst hk'
        have HI := Lib.hid hI
        clear hI
        go_wp2_with fail
        go_ret
        exact HI.out.out rfl HSPL.out (fun _ => rfl) HGX.out HC2.out

end Go.Proofs.YtjjgmkfkmckkoabGreatDoor

/- Codec: a record read. -/
namespace Go.Proofs.YtjjgmkfkmckkoabGreatDoor
open Go.RowKit Go.Maps
attribute [-simp] Tryz.isAgg24 Tryz.typeInfo24 Tryz.isAgg67 Tryz.typeInfo67

theorem info_readRecord : (Tryz.prog.info? 67).map (fun i => (i.zero.map (fun z => z.cells.size))) = some (some 3) := by kernel_rfl
theorem size_readRecord : (Tryz.prog.info? 67).map (·.size) = some 3 := by kernel_rfl
theorem places_readRecord : ((match Tryz.prog.underlying 67 with | some (.struct fields) => fields.toList.mapM (fun f => (Tryz.prog.info? f.type).map fun i => (f.offset, i.size)) | _ => none)) = some [(0, 1), (1, 1), (2, 1)] := by kernel_rfl
set_option maxHeartbeats 4000000 in
set_option maxRecDepth 100000 in
theorem readRecord_any (w : World) {S : Nat → Prop} {v sent : Value} {bs : List UInt8} (h : Bs w S v bs) (hlen : bs.length ≤ 262144) (hg : Gl w sent) :
    Calls Tryz.prog 43 #[v] w (ReadOut (.tup (.cons i64 (.cons (.list i64) (.cons (.list (.list i64)) .nil)))) w sent bs) := by
  have hal := (Below.refl w.heap.size w).alloc (Nat.le_refl _) (.cells (([.int .i64 0, .slice none 0 0, .slice none 0 0] : List Value)).toArray 67)
  have HS := Lib.hid (psplit_any _ (h.below hal) (by omega) (hg.below hal) 3 (by omega) ⟨#[97, 32, 114, 101, 99, 111, 114, 100]⟩)
  have HN := Lib.hid (Blk.new w 67 (([.int .i64 0, .slice none 0 0, .slice none 0 0] : List Value)).toArray)
  have HAL := Lib.hid hal
  obtain ⟨A, cap, rfl⟩ := h.form
  clear h hg hal
  go_enter Tryz.func43, Tryz.ntmps43
  go_wp2_with fail
  refine HS.out.mono ?_
  rintro e w1 ⟨g, rows, bad, rfl, hgw, hb1, hp, hn, hrl, hs⟩
  obtain ⟨r0, r1, r2, rfl⟩ : ∃ r0 r1 r2, rows = [r0, r1, r2] := by
    match rows, hn with
    | [r0, r1, r2], _ => exact ⟨r0, r1, r2, rfl⟩
  have HK := Lib.hid (HN.out.below hb1 (by simp))
  have hgw' : w.heap.size + 1 ≤ g := by simpa using hgw
  have hz1 : w.heap.size + 1 ≤ w1.heap.size := by simpa using hb1.size
  have HB1 := Lib.hid (HAL.out.trans (hb1.mono (by simp)))
  have HSS := Lib.hid hs
  have HRL := Lib.hid (show ∀ x ∈ [r0, r1, r2], x.length ≤ 262144 from fun x hx => Nat.le_trans (hrl x hx) hlen)
  have hE : Pt w1 (fun b => b = g) (w.heap.size + 1) g sent [r0, r1, r2] bad := by simpa using hp
  clear HS HN HAL hgw hb1 hs hn hp hrl hlen
  have hp0 := hE
  clear hE
  go_wp2_with fail
  refine (int_any _ hp0).mono ?_
  rintro e w2 ht
  obtain ⟨y0, b0, rfl, h10, hc0, hp1, ho0⟩ := ht.one (fun _ => rfl) rfl
  have hgl0 := hp0.lt
  have hz2 := Nat.le_trans hz1 hc0.size
  have HO0 := Lib.hid ho0
  have HC0 := Lib.hid hc0
  have H10 := Lib.hid h10
  clear ht ho0 hc0 h10 hp0
  go_wp2_with fail
  refine (allInt_any _ hp1 (HRL.out _ (by simp))).mono ?_
  rintro e w3 ht
  obtain ⟨y1, b1, rfl, h11, hc1, hp2, ho1⟩ := ht.one (fun _ => rfl) rfl
  have hgl1 := hp1.lt
  have hz3 := Nat.le_trans hz2 hc1.size
  have HO1 := Lib.hid ho1
  have HC1 := Lib.hid hc1
  have H11 := Lib.hid h11
  clear ht ho1 hc1 h11 hp1
  go_wp2_with fail
  refine (allNums_any _ hp2 (HRL.out _ (by simp))).mono ?_
  rintro e w4 ht
  obtain ⟨y2, b2, rfl, h12, hc2, hp3, ho2⟩ := ht.one (fun _ => rfl) rfl
  have hgl2 := hp2.lt
  have hz4 := Nat.le_trans hz3 hc2.size
  have HO2 := Lib.hid ho2
  have HC2 := Lib.hid hc2
  have H12 := Lib.hid h12
  clear ht ho2 hc2 h12 hp2
  have hbu := run_struct (P := Tryz.prog) (vs := [y0, y1, y2]) (cs := [[y0], [y1], [y2]]) info_readRecord places_readRecord ⟨cells_one H10.out, cells_one H11.out, cells_one H12.out, trivial⟩ (by simp [PlaceOk]) (by simp) #[(0, y0), (1, y1), (2, y2)] rfl
  have hone : ∀ v ∈ [[y0], [y1], [y2]].flatten, v.oneCell' = true := by
    intro v hv
    simp only [List.flatten_cons, List.flatten_nil, List.mem_append, List.mem_singleton, List.not_mem_nil, or_false] at hv
    rcases hv with rfl | rfl | rfl
    · exact H10.out
    · exact H11.out
    · exact H12.out
  have HOUT := Lib.hid (show Fs.Out (.cons i64 (.cons (.list i64) (.cons (.list (.list i64)) .nil))) w4 (fun b => w.heap.size + 1 ≤ b) [r0, r1, r2] [[y0], [y1], [y2]].flatten bad b2 from by
    have := Fs.Out.step HO0.out (Fs.Out.step HO1.out (Fs.Out.step HO2.out (Fs.Out.nil_ w4 _ _) (Chg.refl _ _) hgl2 hz3) HC2.out hgl1 hz2) (HC1.out.trans HC2.out fun b h => .inl h) hgl0 hz1
    simpa using this)
  have HCA := Lib.hid (show Chg (fun k => k = g) w1 w4 from ((HC0.out.trans HC1.out fun b h => .inl h).trans HC2.out fun b h => .inl h))
  have hcl : [[y0], [y1], [y2]].flatten.length = 3 := by simp
  obtain ⟨C, hC⟩ : ∃ C, C = [[y0], [y1], [y2]].flatten := ⟨_, rfl⟩
  rw [← hC] at hbu hone hcl HOUT
  have HBU := Lib.hid hbu
  have HONE := Lib.hid hone
  have HCL := Lib.hid hcl
  have HI := Lib.hid (show (Tryz.prog.info? 67).map (·.size) = some C.length from by rw [hcl]; exact size_readRecord)
  have HK2 := Lib.hid (HK.out.chg HCA.out (show ¬ w.heap.size = g from by omega))
  clear hbu hone hcl hC HK HO0 HC0 H10 HO1 HC1 H11 HO2 HC2 H12 
  have HP := Lib.hid hp3
  have hgX := hp3.lt
  clear hp3
  have hbu := HBU.out w4
  have HX := Lib.hid (HP.out.parts)
  go_wp2_with (first | (refine wpList_build_ rfl 67 _ rfl #[(0, y0), (1, y1), (2, y2)] (by simp [Act.eval]) _ hbu ?_) | (refine wpList_store_blk (cs0 := ([.int .i64 0, .slice none 0 0, .slice none 0 0] : List Value)) (cs := C) rfl 67 _ _ rfl (Blk.new w4 _ _) rfl rfl (by rw [HCL.out]; rfl) HI.out HONE.out ?_; intro wx hbx hcx; have HBX := Lib.hid hbx; have HCX := Lib.hid hcx; clear hbx hcx))
  obtain ⟨vy, ey, hblk, herr⟩ := HX.out
  have HCX' := Lib.hid (show Chg (fun _ => False) w4 wx from ((Chg.refl _ w4).alloc _).trans HCX.out fun b h => .inr (Nat.le_of_eq h.symm))
  have HGX := Lib.hid (hblk.chg HCX'.out id)
  have HKX := Lib.hid (HK2.out.chg HCX'.out id)
  have HE := Lib.hid herr
  clear hbu hblk herr HX HBU
  refine wp_region_hoist [0, 1, 2, 3, 4] [5] [6] (fun w' => Blk w' w4.heap.size 67 C.toArray ∧ Blk w' g 133 #[vy, ey])
    (by kernel_rfl) (by kernel_rfl) (by kernel_rfl) (by kernel_rfl) (by kernel_rfl) (by kernel_rfl) ⟨HBX.out.drew, HGX.out.drew⟩ ?_
  (refine HoistK.load (by rfl) (by kernel_rfl) 67 _ rfl w4.heap.size 0 rfl C _ (fun w' hw => hw.1.range) Tryz.underlying67 rfl HI.out ?_; simp only [Act.put, List.setIfInBounds_toArray, List.getElem_toArray, List.getElem_cons_zero, List.set_cons_succ, List.set_cons_zero])
  (refine HoistK.yes (by rfl) (by kernel_rfl) ⟨?_, fun w' hSw => ?_, ?_⟩; rotate_left; (· go_simp; try with_reducible rfl); simp only [Act.put, List.setIfInBounds_toArray, List.getElem_toArray, List.getElem_cons_succ, List.getElem_cons_zero, List.set_cons_succ, List.set_cons_zero])
  (refine HoistK.yes (by rfl) (by kernel_rfl) ⟨?_, fun w' hSw => ?_, ?_⟩; rotate_left; (· go_simp; try with_reducible rfl); simp only [Act.put, List.setIfInBounds_toArray, List.getElem_toArray, List.getElem_cons_succ, List.getElem_cons_zero, List.set_cons_succ, List.set_cons_zero])
  (refine HoistK.yes (by rfl) (by kernel_rfl) ⟨?_, fun w' hSw => ?_, ?_⟩; rotate_left; (· go_simp; try with_reducible rfl); simp only [Act.put, List.setIfInBounds_toArray, List.getElem_toArray, List.getElem_cons_succ, List.getElem_cons_zero, List.set_cons_succ, List.set_cons_zero])
  (refine HoistK.yes (by rfl) (by kernel_rfl) ⟨?_, fun w' hSw => ?_, ?_⟩; rotate_left; (· have hcc := hSw.2.cell; go_simp; try with_reducible rfl); simp only [Act.put, List.setIfInBounds_toArray, List.getElem_toArray, List.getElem_cons_succ, List.getElem_cons_zero, List.set_cons_succ, List.set_cons_zero])
  refine HoistK.nil_ ?_
  simp only [opsAt, List.filterMap_cons, List.filterMap_nil, List.getElem?_toArray, List.getElem?_cons_succ, List.getElem?_cons_zero]
  refine Effects.cons_ fun _ hQ1 => ?_
  go_wp2_with (refine wpList_store_blk (cs0 := ([.int .i64 0, .slice none 0 0, .slice none 0 0] : List Value)) (cs := C) rfl 67 _ _ rfl HKX.out.drew rfl rfl (by rw [HCL.out]; rfl) HI.out HONE.out ?_; intro wy hby hcy; have HBY := Lib.hid hby; have HCY := Lib.hid hcy; clear hby hcy)
  refine hQ1 _ _ ⟨HBX.out.drew.chg HCY.out (fun h => by omega), HGX.out.drew.chg HCY.out (fun h => by omega)⟩ (Effects.nil_ fun _ hQ2 => ?_)
  go_wp2
  have hld := run_loadVar_mid (P := Tryz.prog) wy w.heap.size 0 67 C _ HBY.out.range Tryz.underlying67 rfl HI.out
  refine bodyPost_ret (v := .tuple #[.agg C.toArray, ey]) (by simp [results, Tryz.results43, asAddr, hld]) rfl ?_
  have hcf : Chg (fun b => b = w.heap.size) w4 wy := ((HCX'.out.mono fun _ h => h.elim).drew).trans HCY.out fun b h => .inl h
  exact ReadOut.mk (n := 3) HOUT.out HSS.out rfl HE.out (HB1.out.trans (HCA.out.below HB1.out.size fun b h => by omega)) hcf

end Go.Proofs.YtjjgmkfkmckkoabGreatDoor

/- Codec: face[Record], ReadRecord. -/
namespace Go.Proofs.YtjjgmkfkmckkoabGreatDoor
open Go.RowKit Go.Maps
attribute [-simp] Tryz.isAgg24 Tryz.typeInfo24 Tryz.isAgg67 Tryz.typeInfo67

def zFRecord : List Value := ([.int .i64 0, .slice none 0 0, .slice none 0 0] : List Value)
theorem one_faceRecord : ∀ v ∈ zFRecord, v.oneCell' = true := by decide
theorem len_faceRecord : zFRecord.length = 3 := by decide
theorem size_faceRecord : (Tryz.prog.info? 67).map (·.size) = some zFRecord.length := by kernel_rfl
set_option maxHeartbeats 8000000 in
set_option maxRecDepth 100000 in
theorem faceRecord_any (w : World) {S : Nat → Prop} {v sent : Value} {bs : List UInt8} (h : Bs w S v bs) (hp : Pk w sent) :
    Calls Tryz.prog 42 #[v, .func (Fn.func 43) #[] #[]] w (FaceOut tRecord w bs) := by
  obtain ⟨A, cap, rfl⟩ := h.form
  have hal1 := (Below.refl w.heap.size w).alloc (Nat.le_refl _) (.cells (zFRecord).toArray 67)
  have hal2 := hal1.alloc (by simp) (.cells (zFRecord).toArray 67)
  have hr0 := (Blk.new w 67 (zFRecord).toArray).alloc (.cells (zFRecord).toArray 67)
  have hz0 := Blk.new (w.alloc (.cells (zFRecord).toArray 67)) 67 (zFRecord).toArray
  rw [show (w.alloc (.cells (zFRecord).toArray 67)).heap.size = w.heap.size + 1 by simp] at hz0
  by_cases hbig : 262144 < bs.length
  · obtain ⟨sb, hsb⟩ : ∃ sb, w.cell? ⟨0, 0, none⟩ = some (.iface 205 (.pointer (some sb))) := by
      obtain ⟨_, _, b, _, _, _, _, _, _, _, _, h, _⟩ := hp
      exact ⟨b, h⟩
    have hgb : ∀ {W : World}, Below w.heap.size w W → W.cell? ⟨0, 0, none⟩ = some (.iface 205 (.pointer (some sb))) := fun hb => cell_low hsb hb
    clear h
    go_enter Tryz.func42, Tryz.ntmps42
    go_wp2_with fail
    have hb := hal2.drew
    have hr : Blk _ _ _ _ := hr0.drew
    have hz : Blk _ _ _ _ := hz0.drew
    clear hal1 hal2 hz0 hsb
    refine wp_region_hoist [0, 1, 2] [3, 4, 5] [6, 7] (fun w' => Blk w' (w.heap.size + 1) 67 (zFRecord).toArray ∧ w'.cell? ⟨0, 0, none⟩ = some (.iface 205 (.pointer (some sb)))) (by kernel_rfl) (by kernel_rfl) (by kernel_rfl) (by kernel_rfl) (by kernel_rfl) (by kernel_rfl) ⟨hz, hgb hb⟩ ?_
    (refine HoistK.load (by rfl) (by kernel_rfl) 67 _ rfl (w.heap.size + 1) 0 rfl zFRecord _ (fun w' hw => hw.1.range) Tryz.underlying67 rfl size_faceRecord ?_; simp only [Act.put, List.setIfInBounds_toArray, List.getElem_toArray, List.getElem_cons_zero, List.set_cons_succ, List.set_cons_zero])
    (refine HoistK.yes (by rfl) (by kernel_rfl) ⟨?_, fun w' hSw => ?_, ?_⟩; rotate_left; (· have hcc := hSw.2; go_simp; try with_reducible rfl); simp only [Act.put, List.setIfInBounds_toArray, List.getElem_toArray, List.getElem_cons_succ, List.getElem_cons_zero, List.set_cons_succ, List.set_cons_zero])
    (refine HoistK.yes (by rfl) (by kernel_rfl) ⟨?_, fun w' hSw => ?_, ?_⟩; rotate_left; (· go_simp; try with_reducible rfl); simp only [Act.put, List.setIfInBounds_toArray, List.getElem_toArray, List.getElem_cons_succ, List.getElem_cons_zero, List.set_cons_succ, List.set_cons_zero])
    refine HoistK.nil_ ?_
    simp only [opsAt, List.filterMap_cons, List.filterMap_nil, List.getElem?_toArray, List.getElem?_cons_succ, List.getElem?_cons_zero]
    refine Effects.world (F := fun W => Below w.heap.size w W ∧ Blk W w.heap.size 67 (zFRecord).toArray ∧ Blk W (w.heap.size + 1) 67 (zFRecord).toArray) (fun W hF => ?_) ⟨hb, hr, hz⟩
    clear hb hr hz hr0
    obtain ⟨hb, hr, hz⟩ := hF
    refine Effects.cons_ fun _ hQ => ?_
    have hzl := hz.lt
    go_wp2_with fail
    have hk := Blk.new W 117 #[.string ⟨#[97, 108, 108]⟩, .iface 205 (.pointer (some sb))]
    replace hb := hb.alloc hb.size (.cells #[.string ⟨#[97, 108, 108]⟩, .iface 205 (.pointer (some sb))] 117)
    replace hr := hr.alloc (.cells #[.string ⟨#[97, 108, 108]⟩, .iface 205 (.pointer (some sb))] 117)
    replace hz := hz.alloc (.cells #[.string ⟨#[97, 108, 108]⟩, .iface 205 (.pointer (some sb))] 117)
    obtain ⟨gg, hgg⟩ : ∃ gg, gg = W.heap.size := ⟨_, rfl⟩
    have hgn : gg ≠ w.heap.size := by omega
    rw [← hgg] at hk ⊢
    have HGG := Lib.hid hgg; clear hgg
    generalize W.alloc (.cells #[.string ⟨#[97, 108, 108]⟩, .iface 205 (.pointer (some sb))] 117) = W1 at *
    refine hQ _ _ ⟨hz, hgb hb⟩ (Effects.cons_ fun _ hQ => ?_)
    go_wp2_with fail
    refine hQ _ _ ⟨hz, hgb hb⟩ (Effects.cons_ fun _ hQ => ?_)
    go_wp2_with fail
    refine (told_any (r := true) _ (hp.below hb) ⟨gg, 1, _, rfl, .more hk .last, hgb hb⟩).mono ?_
    rintro e W2 ⟨rfl, hb2⟩
    replace hb := hb.trans (hb2.mono hb.size)
    replace hr := hr.below hb2 hr.lt
    replace hz := hz.below hb2 hz.lt
    replace hk := hk.below hb2 hk.lt
    go_wp2_with fail
    refine hQ _ _ ⟨hz, hgb hb⟩ (Effects.nil_ fun _ hQ => ?_)
    refine wpList_store_blk (cs0 := zFRecord) (cs := zFRecord) rfl 67 _ _ rfl hr rfl rfl rfl size_faceRecord one_faceRecord ?_
    intro W3 hr3 hc3
    go_wp2_with fail
    replace hb := hb.trans (hc3.below hb.size fun b h => Nat.le_of_eq h.symm)
    have hld := run_loadVar_mid (P := Tryz.prog) _ w.heap.size 0 67 zFRecord _ hr3.range Tryz.underlying67 rfl size_faceRecord
    exact bodyPost_ret (v := .tuple #[.agg (zFRecord).toArray, .int .i64 4]) (by simp [results, Tryz.results42, asAddr, hld]) rfl ⟨hb, _, 4, rfl, len_faceRecord, one_faceRecord, .inl ⟨hbig, rfl⟩⟩
  · have hlen : bs.length ≤ 262144 := by omega
    have HR := Lib.hid (readRecord_any _ (h.below hal2) hlen (hp.1.below hal2))
    have HA := Lib.hid hal2
    have HR0 := Lib.hid hr0
    have HZ0 := Lib.hid hz0
    clear h hal1 hal2 hr0 hz0
    go_enter Tryz.func42, Tryz.ntmps42
    go_wp2_with fail
    refine HR.out.mono ?_
    rintro e w2 hro
    obtain ⟨C, err, bd, rfl, h1, hl, hb2, he, ho⟩ := hro.agg (fun _ => rfl)
    have hl : C.length = 3 := hl
    have HL := Lib.hid hl
    have HI := Lib.hid (show (Tryz.prog.info? 67).map (·.size) = some C.length from by rw [hl]; rw [size_faceRecord, len_faceRecord])
    have H1 := Lib.hid h1
    have HK := Lib.hid (HR0.out.below hb2 HR0.out.lt)
    have HZ := Lib.hid (HZ0.out.below hb2 HZ0.out.lt)
    have hz2 : w.heap.size + 2 ≤ w2.heap.size := by have := hb2.size; simpa using this
    have HB2 := Lib.hid (HA.out.trans (hb2.mono HA.out.size))
    have HO := Lib.hid (show SOut tRecord w2 (fun b => w.heap.size + 2 ≤ b) bs C false bd from ho.to (fun b _ hlt => ⟨hlt, rfl⟩) fun b hb _ => by simpa using hb)
    have he := he.to (w' := w2) (S' := fun b => w.heap.size + 2 ≤ b) (fun b _ hlt => ⟨hlt, rfl⟩) fun b hb _ => by simpa using hb
    clear hro h1 hl hb2 ho HR HA HR0 HZ0
    rcases he with ⟨rfl, rfl⟩ | ⟨rfl, hch⟩
    · go_wp2_with (first
        | (refine wpList_store_blk (cs0 := zFRecord) (cs := C) rfl 67 _ _ rfl (Blk.new w2 _ _) rfl rfl (by rw [HL.out]; exact len_faceRecord) HI.out H1.out ?_; intro w3 hb3 hc3; have HB3 := Lib.hid hb3
           have HC3 := Lib.hid (show Chg (fun _ => False) w2 w3 from ((Chg.refl _ w2).alloc _).trans hc3 fun b h => .inr (Nat.le_of_eq h.symm)); clear hb3 hc3
           have HK3 := Lib.hid (HK.out.chg HC3.out id))
        | (refine wpList_load_blk' rfl 67 _ rfl HB3.out rfl Tryz.underlying67 rfl HI.out ?_)
        | (refine wpList_store_blk (cs0 := zFRecord) (cs := C) rfl 67 _ _ rfl HK3.out rfl rfl (by rw [HL.out]; exact len_faceRecord) HI.out H1.out ?_; intro w9 hb9 hc9; have HB9 := Lib.hid hb9; have HC9 := Lib.hid hc9; clear hb9 hc9))
      have hld := run_loadVar_mid (P := Tryz.prog) w9 w.heap.size 0 67 C _ HB9.out.range Tryz.underlying67 rfl HI.out
      refine bodyPost_ret (v := .tuple #[.agg C.toArray, .int .i64 0]) (by simp [results, Tryz.results42, asAddr, hld]) rfl ?_
      obtain ⟨o1, o2, o3⟩ := HO.out
      have hc29 : Chg (fun b => b = w.heap.size) w2 w9 := (HC3.out.mono (M' := fun b => b = w.heap.size) fun _ h => h.elim).trans HC9.out fun b h => .inl h
      refine ⟨HB2.out.trans (hc29.below HB2.out.size fun b h => Nat.le_of_eq h.symm), C, 0, rfl, o1, o2, .inr ⟨hlen, .inl ?_⟩⟩
      rcases o3 with ⟨x, e1, _, e3⟩ | ⟨_, e2⟩
      · exact ⟨x, e1, rfl, Sh.rep_to (fun b hb hlt => ⟨Nat.lt_of_lt_of_le hlt hc29.size, hc29.block b hlt fun e => by omega⟩) (fun b hb _ => by omega) _ _ _ e3⟩
      · cases e2
    · obtain ⟨gw, rfl⟩ := hch.form
      have HCH := Lib.hid hch; clear hch
      have hno : Sh.dec tRecord bs = none := by
        obtain ⟨_, _, o3⟩ := HO.out
        rcases o3 with ⟨x, _, e2, _⟩ | ⟨e1, _⟩
        · cases e2
        · exact e1
      have HNO := Lib.hid hno; clear hno
      go_wp2_with (refine wpList_store_blk (cs0 := zFRecord) (cs := C) rfl 67 _ _ rfl (Blk.new w2 _ _) rfl rfl (by rw [HL.out]; exact len_faceRecord) HI.out H1.out ?_; intro w3 hb3 hc3; have HC3 := Lib.hid (show Chg (fun _ => False) w2 w3 from ((Chg.refl _ w2).alloc _).trans hc3 fun b h => .inr (Nat.le_of_eq h.symm)); clear hb3 hc3)
      have hr : Blk _ _ _ _ := (HK.out.chg HC3.out id).drew
      have hz : Blk _ _ _ _ := (HZ.out.chg HC3.out id).drew
      have hb := (HB2.out.trans (HC3.out.below HB2.out.size fun b h => h.elim)).drew
      have hch3 := HCH.out.to (w' := w3.drew) (S' := fun b => w.heap.size + 2 ≤ b) (fun b hb hlt => ⟨Nat.lt_of_lt_of_le hlt HC3.out.size, HC3.out.block b hlt id⟩) fun b hb _ => hb
      have hz3 : w.heap.size + 2 ≤ w3.drew.heap.size := Nat.le_trans hz2 HC3.out.size
      refine wp_region_hoist [0, 1] [2] [3, 4] (fun w' => Blk w' (w.heap.size + 1) 67 (zFRecord).toArray) (by kernel_rfl) (by kernel_rfl) (by kernel_rfl) (by kernel_rfl) (by kernel_rfl) (by kernel_rfl) hz ?_
      (refine HoistK.load (by rfl) (by kernel_rfl) 67 _ rfl (w.heap.size + 1) 0 rfl zFRecord _ (fun w' hw => hw.range) Tryz.underlying67 rfl size_faceRecord ?_; simp only [Act.put, List.setIfInBounds_toArray, List.getElem_toArray, List.getElem_cons_zero, List.set_cons_succ, List.set_cons_zero])
      (refine HoistK.yes (by rfl) (by kernel_rfl) ⟨?_, fun w' hSw => ?_, ?_⟩; rotate_left; (· go_simp; try with_reducible rfl); simp only [Act.put, List.setIfInBounds_toArray, List.getElem_toArray, List.getElem_cons_succ, List.getElem_cons_zero, List.set_cons_succ, List.set_cons_zero])
      refine HoistK.nil_ ?_
      simp only [opsAt, List.filterMap_cons, List.filterMap_nil, List.getElem?_toArray, List.getElem?_cons_succ, List.getElem?_cons_zero]
      refine Effects.world (F := fun W => Below w.heap.size w W ∧ Blk W w.heap.size 67 (zFRecord).toArray ∧ Blk W (w.heap.size + 1) 67 (zFRecord).toArray ∧ Chain W (fun b => w.heap.size + 2 ≤ b) sent (.iface 113 (.pointer (some ⟨gw, 0, none⟩)))) (fun W hF => ?_) ⟨hb, hr, hz, hch3⟩
      clear hb hr hz hch3 hz3
      obtain ⟨hb, hr, hz, hch⟩ := hF
      refine Effects.cons_ fun _ hQ => ?_
      go_wp2_with fail
      refine (told_any (r := false) _ (hp.below hb) (Wr.of_chain hch)).mono ?_
      rintro e W2 ⟨rfl, hb2⟩
      replace hb := hb.trans (hb2.mono hb.size)
      replace hr := hr.below hb2 hr.lt
      replace hz := hz.below hb2 hz.lt
      go_wp2_with fail
      refine hQ _ _ hz (Effects.nil_ fun _ hQ => ?_)
      refine wpList_store_blk (cs0 := zFRecord) (cs := zFRecord) rfl 67 _ _ rfl hr rfl rfl rfl size_faceRecord one_faceRecord ?_
      intro W3 hr3 hc3
      go_wp2_with fail
      replace hb := hb.trans (hc3.below hb.size fun b h => Nat.le_of_eq h.symm)
      have hld := run_loadVar_mid (P := Tryz.prog) _ w.heap.size 0 67 zFRecord _ hr3.range Tryz.underlying67 rfl size_faceRecord
      exact bodyPost_ret (v := .tuple #[.agg (zFRecord).toArray, .int .i64 5]) (by simp [results, Tryz.results42, asAddr, hld]) rfl ⟨hb, _, 5, rfl, len_faceRecord, one_faceRecord, .inr ⟨hlen, .inr ⟨HNO.out, rfl⟩⟩⟩

set_option maxHeartbeats 4000000 in
set_option maxRecDepth 100000 in
theorem ReadRecord_any (w : World) {S : Nat → Prop} {v sent : Value} {bs : List UInt8} (h : Bs w S v bs) (hp : Pk w sent) :
    Calls Tryz.prog 15 #[v] w (FaceOut tRecord w bs) := by
  have hal1 := (Below.refl w.heap.size w).alloc (Nat.le_refl _) (.cells (zFRecord).toArray 67)
  have HF := Lib.hid (faceRecord_any _ (h.below hal1) (hp.below hal1))
  have HR := Lib.hid (Blk.new w 67 (zFRecord).toArray)
  have HA := Lib.hid hal1
  obtain ⟨A, cap, rfl⟩ := h.form
  clear h hp hal1
  go_enter Tryz.func15, Tryz.ntmps15
  go_wp2_with fail
  refine HF.out.mono ?_
  rintro e w1 ⟨hb, C, n, rfl, hl, h1, hn⟩
  have hl : C.length = 3 := hl
  have HL := Lib.hid hl
  have HI := Lib.hid (show (Tryz.prog.info? 67).map (·.size) = some C.length from by rw [hl]; rw [size_faceRecord, len_faceRecord])
  have H1 := Lib.hid h1
  have hlz : (zFRecord).length = C.length := by rw [hl, len_faceRecord]
  have HLZ := Lib.hid hlz
  have HK := Lib.hid (HR.out.below hb (by simp))
  have HB := Lib.hid hb
  have HN := Lib.hid hn
  have hz1 : w.heap.size + 1 ≤ w1.heap.size := by have := hb.size; simpa using this
  clear hl h1 hlz hb hn HF HR
  go_wp2_with (refine wpList_store_blk (cs0 := zFRecord) (cs := C) rfl 67 _ _ rfl HK.out rfl rfl HLZ.out HI.out H1.out ?_; intro w9 hb9 hc9; have HB9 := Lib.hid hb9; have HC9 := Lib.hid hc9; clear hb9 hc9)
  have hld := run_loadVar_mid (P := Tryz.prog) w9 w.heap.size 0 67 C _ HB9.out.range Tryz.underlying67 rfl HI.out
  refine bodyPost_ret (v := .tuple #[.agg C.toArray, .int .i64 n]) (by simp [results, Tryz.results15, asAddr, hld]) rfl ?_
  have hbw := HA.out.trans (HB.out.mono HA.out.size)
  refine ⟨hbw.trans (HC9.out.below hbw.size fun b h => Nat.le_of_eq h.symm), C, n, rfl, HL.out, H1.out, HN.out.imp id fun ⟨q1, q2⟩ => ⟨q1, q2.imp (fun ⟨x, e1, e2, e3⟩ => ⟨x, e1, e2, ?_⟩) id⟩⟩
  exact Sh.rep_to (fun b hb hlt => ⟨Nat.lt_of_lt_of_le hlt HC9.out.size, HC9.out.block b hlt fun e => by simp at hb; omega⟩) (fun b hb _ => by simp at hb; omega) _ _ _ e3

end Go.Proofs.YtjjgmkfkmckkoabGreatDoor

/- Codec's laws: calls whose answers the document fixes (awake). -/
namespace Go.Proofs.YtjjgmkfkmckkoabGreatDoor
open Go.RowKit Go.Maps

theorem u8s_at {w : World} {S : Nat → Prop} {A : Option Addr} {n cap : Nat} {bs : List UInt8} (h : Cs w S 1 (.slice A n cap) n (u8s bs)) (i : Nat) (hi : i < bs.length) (hn : n = bs.length) : ∃ b off, A = some ⟨b, off, none⟩ ∧ S b ∧ b < w.heap.size ∧ w.cell? ⟨b, off + i, none⟩ = some (.int .u8 (bs[i]'hi).toNat) := by
  obtain ⟨_, A', cap', e, _, _, hp⟩ := h
  injection e with e1 _ e3
  subst e1 e3
  obtain ⟨b, off, rfl, hS, hlt, hc⟩ := hp (by omega)
  exact ⟨b, off, rfl, hS, hlt, hc i _ (u8s_get bs i hi)⟩
/-- The empty record's bytes. -/
def rec0 : List UInt8 := tRecord.enc ((0 : Int), [], [], ())
theorem rec0_len : rec0.length = 56 := by decide
theorem rec0_7 : (rec0[7]'(by rw [rec0_len]; decide)).toNat = 3 := by decide
theorem rec0_rep (w : World) : tRecord.rep w (fun _ => False) ((0 : Int), [], [], ()) [.int .i64 0, .slice none 0 0, .slice none 0 0] :=
  ⟨[.int .i64 0], [.slice none 0 0, .slice none 0 0], rfl, ⟨rfl, by decide⟩, [.slice none 0 0], [.slice none 0 0], rfl, ⟨_, [], rfl, Cs.nil_ _ _ _, .nil⟩, [.slice none 0 0], [], rfl, ⟨_, [], rfl, Cs.nil_ _ _ _, .nil⟩, rfl⟩
theorem rec0_dec (w : World) : tRecord.dec rec0 = some ((0 : Int), [], [], ()) := Sh.dec_enc tRecord ((0 : Int), [], [], ()) (Sh.rep_wf tRecord _ _ (rec0_rep w)) (by show rec0.length < _; rw [rec0_len]; decide)
theorem tup_dec (fs : Fs) (b : List UInt8) : (Sh.tup fs).dec b = match splitB b with | none => none | some l => fs.decs l := rfl
theorem noughts_dec : tRecord.dec (List.replicate 8 0) = none := by
  rw [tup_dec, show splitB (List.replicate 8 0) = some [] by decide]
  rfl

set_option maxHeartbeats 4000000 in
set_option maxRecDepth 100000 in
theorem awake_any (w : World) {sent : Value} (hp : Pk w sent) : Calls Tryz.prog 6 #[] w fun e w' => e = .returned (.bool true) ∧ Below w.heap.size w w' := by
  obtain ⟨Y, hY⟩ : ∃ Y : List UInt8, Y = List.replicate 8 0 := ⟨_, rfl⟩
  have hYl : Y.length = 8 := by rw [hY, List.length_replicate]
  have hYd : tRecord.dec Y = none := by rw [hY]; exact noughts_dec
  have hmk8 : ∀ u, (Instr.makeSlice 50 (.int .i64 8) (.int .i64 8)).run Tryz.prog u = .ok (.slice (some ⟨u.heap.size, 0, none⟩) 8 8) (u.alloc (.cells (u8s Y).toArray 5)) := fun u => by rw [hY]; exact run_make_bytes 8 (by decide) u
  have HYL := Lib.hid hYl
  have HYD := Lib.hid hYd
  obtain ⟨Z, hZ⟩ : ∃ Z : List UInt8, Z = List.replicate 262145 0 := ⟨_, rfl⟩
  have hZl : Z.length = 262145 := by rw [hZ, List.length_replicate]
  have hmkZ : ∀ u, (Instr.makeSlice 50 (.int .i64 262145) (.int .i64 262145)).run Tryz.prog u = .ok (.slice (some ⟨u.heap.size, 0, none⟩) 262145 262145) (u.alloc (.cells (u8s Z).toArray 5)) := fun u => by rw [hZ]; exact run_make_bytes 262145 (by decide) u
  have HMK8 := Lib.hid hmk8
  have HMKZ := Lib.hid hmkZ
  have HZL := Lib.hid hZl
  clear hmk8 hZ hmkZ hZl hY hYl hYd
  have HR := Lib.hid (record_any w (rec0_rep w) (by show rec0.length ≤ _; rw [rec0_len]; decide))
  go_enter Tryz.func6, Tryz.ntmps6
  go_wp2_with fail
  refine HR.out.mono ?_
  rintro e w1 ⟨v1, rfl, f1⟩
  have f1 : Fresh w w1 v1 rec0 := f1
  have HP1 := Lib.hid (hp.below f1.2)
  have HRD := Lib.hid (ReadRecord_any w1 f1.1 HP1.out)
  have HB1 := Lib.hid f1.2
  have HF1 := Lib.hid f1.1
  obtain ⟨A1, c1, rfl⟩ := f1.1.form
  rw [rec0_len] at HRD
  simp only [rec0_len]
  clear f1 HR
  go_wp2_with fail
  refine HRD.out.mono ?_
  rintro e w2 ⟨hb2, C, n, rfl, hl, h1, hn⟩
  obtain ⟨e0, hx, rfl⟩ : ∃ e0 : Unit, tRecord.rep w2 (fun b => w1.heap.size ≤ b) ((0 : Int), [], [], ()) C ∧ n = 0 := by
    rcases hn with ⟨h1, _⟩ | ⟨_, ⟨x, hd, h2, h3⟩ | ⟨hd, _⟩⟩
    · rw [rec0_len] at h1; omega
    · rw [rec0_dec w] at hd; injection hd with hd; subst hd; exact ⟨(), h3, h2⟩
    · rw [rec0_dec w] at hd; cases hd
  obtain ⟨_, _, rfl, ⟨rfl, _⟩, _, _, rfl, ⟨q1, _, rfl, hq1, _⟩, _, _, rfl, ⟨q2, _, rfl, hq2, _⟩, rfl⟩ := hx
  obtain ⟨A2, c2, e2⟩ : ∃ A c, q1 = .slice A 0 c := hq1.form
  obtain ⟨A3, c3, e3⟩ : ∃ A c, q2 = .slice A 0 c := hq2.form
  subst e2 e3
  simp only [nk_t, List.cons_append, List.nil_append, List.append_nil]
  have HB2 := Lib.hid (HB1.out.trans (hb2.mono HB1.out.size))
  have hx7 := u8s_at (HF1.out.below hb2).1 7 (by rw [rec0_len]; decide) rfl
  obtain ⟨b7, o7, rfl, hS7, hlt7, hc7⟩ := hx7
  have hs12 := hb2.size
  have hal3 := (Below.refl w2.heap.size w2).alloc (Nat.le_refl _) (.cells #[.int .i64 0, .slice A2 0 c2, .slice A3 0 c3] 67)
  have h8 := Bs.of_new (w2.alloc (.cells #[.int .i64 0, .slice A2 0 c2, .slice A3 0 c3] 67)) 5 Y (by rw [HYL.out]; decide) (0, 0)
  rw [HYL.out, show (w2.alloc (.cells #[.int .i64 0, .slice A2 0 c2, .slice A3 0 c3] 67)).heap.size = w2.heap.size + 1 by simp] at h8
  have hal4 := hal3.alloc (by simp) (.cells (u8s Y).toArray 5)
  have HRD8 := Lib.hid (ReadRecord_any _ h8 ((HP1.out.below hb2).below hal4))
  have HX := Lib.hid ((Blk.new w2 67 #[.int .i64 0, .slice A2 0 c2, .slice A3 0 c3]).alloc (.cells (u8s Y).toArray 5))
  have HAL4 := Lib.hid hal4
  have hb2' := hb2
  have hmk8 := HMK8.out
  have HC7 := Lib.hid hc7
  clear h8 hal3 hal4 hb2 hq1 hq2 HRD hl h1 hn hc7
  go_wp2_with fail
  refine HRD8.out.mono ?_
  rintro e w3 ⟨hb3, C, n, rfl, hl, h1, hn⟩
  obtain rfl : n = 5 := by
    rcases hn with ⟨h1, _⟩ | ⟨_, ⟨x, hd, _⟩ | ⟨_, h2⟩⟩
    · rw [HYL.out] at h1; omega
    · rw [HYD.out] at hd; cases hd
    · exact h2
  have hl : C.length = 3 := hl
  have HL := Lib.hid hl
  have HI := Lib.hid (show (Tryz.prog.info? 67).map (·.size) = some C.length from by rw [hl]; kernel_rfl)
  have H1 := Lib.hid h1
  have HX3 := Lib.hid (HX.out.below hb3 HX.out.lt)
  have HB3 := Lib.hid ((HB2.out.trans (HAL4.out.mono HB2.out.size)).trans (hb3.mono (HB2.out.trans (HAL4.out.mono HB2.out.size)).size))
  have HC73 := Lib.hid ((World.cell?_of_block (a := ⟨b7, o7 + 7, none⟩) (hb3.block b7 (Nat.lt_of_lt_of_le hlt7 HAL4.out.size))).trans ((World.cell?_of_block (a := ⟨b7, o7 + 7, none⟩) (HAL4.out.block b7 hlt7)).trans HC7.out))
  have hb73 : b7 < w3.heap.size := Nat.lt_of_lt_of_le hlt7 (Nat.le_trans HAL4.out.size hb3.size)
  have HP3 := Lib.hid ((((HP1.out.below hb2').below HAL4.out)).below hb3)
  have hmkZ := HMKZ.out
  clear hmk8 hb3 HRD8 hl h1 hn HX
  go_wp2_with (refine wpList_store_blk (cs0 := [.int .i64 0, .slice none 0 0, .slice none 0 0]) (cs := C) rfl 67 _ _ rfl (Blk.new w3 _ _) rfl rfl (by rw [HL.out]; rfl) HI.out H1.out ?_; intro w4 hb4 hc4; have HC4 := Lib.hid (show Chg (fun _ => False) w3 w4 from ((Chg.refl _ w3).alloc _).trans hc4 fun b h => .inr (Nat.le_of_eq h.symm)); clear hb4 hc4)
  have hb34 := HC4.out.below (Nat.le_refl _) fun b h => h.elim
  have hZ8 := Bs.of_new w4 5 Z (by rw [HZL.out]; decide) (0, 0)
  rw [HZL.out] at hZ8
  have hal6 := (Below.refl w4.heap.size w4).alloc (Nat.le_refl _) (.cells (u8s Z).toArray 5)
  have HRD9 := Lib.hid (ReadRecord_any _ hZ8 ((HP3.out.below hb34).below hal6))
  have HX4 := Lib.hid (HX3.out.below hb34 HX3.out.lt)
  have HC74 := Lib.hid ((World.cell?_of_block (a := ⟨b7, o7 + 7, none⟩) (hb34.block b7 hb73)).trans HC73.out)
  have hb74 := Nat.lt_of_lt_of_le hb73 hb34.size
  have HB4 := Lib.hid (HB3.out.trans (hb34.mono HB3.out.size))
  have HAL6 := Lib.hid hal6
  clear hZ8 hal6 hb34 HX3 HC73 HB3 HP3
  refine HRD9.out.mono ?_
  rintro e w5 ⟨hb5, C', n, rfl, hl, h1, hn⟩
  obtain rfl : n = 4 := by
    rcases hn with ⟨_, h1⟩ | ⟨h1, _⟩
    · exact h1
    · rw [HZL.out] at h1; omega
  have hl : C'.length = 3 := hl
  have HL' := Lib.hid hl
  have HI' := Lib.hid (show (Tryz.prog.info? 67).map (·.size) = some C'.length from by rw [hl]; kernel_rfl)
  have H1' := Lib.hid h1
  have hbx : Below w4.heap.size w4 w5 := HAL6.out.trans (hb5.mono HAL6.out.size)
  have hx5 := (HX4.out.below hbx HX4.out.lt)
  have hxc := hx5.cell
  have hc5 := (World.cell?_of_block (a := ⟨b7, o7 + 7, none⟩) (hbx.block b7 hb74)).trans HC74.out
  rw [show ((rec0[7]'(by rw [rec0_len]; decide)).toNat : Int) = 3 from by rw [rec0_7]; rfl] at hc5
  have HB5 := Lib.hid (HB4.out.trans (hbx.mono HB4.out.size))
  have hb75 := Nat.lt_of_lt_of_le hb74 hbx.size
  have hx5l := hx5.lt
  have HXC := Lib.hid hxc
  have HC5 := Lib.hid hc5
  clear hl h1 hn hbx hx5 HC74 HX4 HB4 hb5 hmkZ hxc hc5
  go_wp2_with (refine wpList_store_blk (cs0 := [.int .i64 0, .slice none 0 0, .slice none 0 0]) (cs := C') rfl 67 _ _ rfl (Blk.new w5 _ _) rfl rfl (by rw [HL'.out]; rfl) HI'.out H1'.out ?_; intro w6 hb6 hc6; have HC6 := Lib.hid (show Chg (fun _ => False) w5 w6 from ((Chg.refl _ w5).alloc _).trans hc6 fun b h => .inr (Nat.le_of_eq h.symm)); clear hb6 hc6; have hxc : ∀ i, w6.cell? ⟨w2.heap.size, i, none⟩ = _ := fun i => (World.cell?_of_block (a := ⟨w2.heap.size, i, none⟩) (HC6.out.block w2.heap.size hx5l id)).trans (HXC.out i); have hc7 : w6.cell? ⟨b7, o7 + 7, none⟩ = some (.int .u8 3) := (World.cell?_of_block (a := ⟨b7, o7 + 7, none⟩) (HC6.out.block b7 hb75 id)).trans HC5.out)
  go_ret
  exact ⟨rfl, HB5.out.trans (HC6.out.below HB5.out.size fun b h => h.elim)⟩

end Go.Proofs.YtjjgmkfkmckkoabGreatDoor

/- How a law is closed: a walk that answers true and leaves what was there as it was gives the row. Says nothing of the program. -/
namespace Go.Proofs.YtjjgmkfkmckkoabGreatDoor
open Go.ChangeShapes Go.WideShapes Go.ChangeAt Go.RowKit Go.Deep

section
variable {H : Type} {enc : TypeId × Value → H} {P : Program}

theorem trodAll_stays (hl : laidOutB P = true) {W W' : World} {sp : Nat → Bool} : ∀ (ts : List TypeId) (vs : List Value) (ds : List (DataW H)) (ps : List MemPlace),
    ts.all (fun t => P.readableRec t && decide (t < P.types.size)) = true → DataW.TrodAll enc P W 0 (fun _ => true) true ts vs ds ps → (∀ p ∈ ps, W.sameAt W' p) → (∀ p ∈ ps, sp p.block = true) →
    DataW.TrodAll enc P W' 0 sp true ts vs ds ps
  | [], vs, ds, ps, _, h, _, _ => by
    cases vs <;> cases ds <;> simp_all [DataW.TrodAll]
  | t :: ts, [], ds, ps, _, h, _, _ => by cases ds <;> simp [DataW.TrodAll] at h
  | t :: ts, v :: vs, [], ps, _, h, _, _ => by simp [DataW.TrodAll] at h
  | t :: ts, v :: vs, d :: ds, ps, hok, h, hsame, hsp => by
    obtain ⟨p, q, h1, h2, rfl⟩ := h
    simp only [List.all_cons, Bool.and_eq_true, decide_eq_true_eq] at hok
    exact ⟨p, q, WideElems.Trod_stays hl hok.1.1 hok.1.2 h1 (fun x hx => hsame x (by simp [hx])) (fun x hx => hsp x (by simp [hx])),
      trodAll_stays hl ts vs ds q hok.2 h2 (fun x hx => hsame x (by simp [hx])) (fun x hx => hsp x (by simp [hx])), rfl⟩

theorem trodAll_length {W : World} {base : Nat} {sp : Nat → Bool} {hd : Bool} : ∀ (ts : List TypeId) (vs : List Value) (ds : List (DataW H)) (ps : List MemPlace), DataW.TrodAll enc P W base sp hd ts vs ds ps → ds.length = ts.length
  | [], vs, ds, ps, h => by cases vs <;> cases ds <;> simp_all [DataW.TrodAll]
  | t :: ts, [], ds, ps, h => by cases ds <;> simp [DataW.TrodAll] at h
  | t :: ts, v :: vs, [], ps, h => by simp [DataW.TrodAll] at h
  | t :: ts, v :: vs, d :: ds, ps, h => by
    obtain ⟨p, q, _, h2, _⟩ := h
    simp [trodAll_length ts vs ds q h2]

/-- The row's last step: true, and nothing that was there has turned. -/
theorem law_post {f : Func} {s : ChangeSpec} {W W' : World} {args : Array Value} {ds gs : List (DataW H)} {before : List MemPlace} {tb : TypeId} (hl : laidOutB P = true)
    (hok : f.params.toList.all (fun t => P.readableRec t && decide (t < P.types.size)) = true) (hr : f.resultTypes = #[tb]) (htb : P.underlying tb = some .bool)
    (hvars : s.vars = []) (hspec : ∀ ds : List (DataW H), ds.length = f.params.size → s.fn H ds = { results := [.lit (.bool true)], args := ds })
    (hW : DataW.Whole enc P f.params.toList s.vars false W args.toList ds gs before) (hb : Below W.heap.size W W') :
    s.post enc P f false true false false W args (.bool true) W' := by
  have hlt : ∀ p ∈ before, p.block < W.heap.size := fun p hp => hW.lt p hp
  have hW0 := hW
  obtain ⟨p, q, hA, hV, rfl, _, _⟩ := hW0
  rw [hvars] at hV
  obtain ⟨rfl, rfl⟩ := trodVars_none hV
  have hlen : ds.length = f.params.size := by rw [trodAll_length _ _ _ _ hA, Array.length_toList]
  have hfn := hspec ds hlen
  have hfr : f.resultTypes.toList = [tb] := by rw [hr]
  have hrl : (Value.bool true).resultList f.resultTypes.size = [.bool true] := by rw [hr]; rfl
  refine ⟨ds, [], p ++ [], [], p, [], hW, ?_, ?_, ?_, World.keptBut_mono (fun x hx => ⟨hx, ?_⟩) (hb.frame (· ∈ p ++ [])), fun h => by cases h⟩
  · rw [List.append_nil, hfn, hfr, hrl]
    exact trodAll_mk1 (shut_bool htb _)
  · rw [List.append_nil, hfn]
    exact trodAll_stays hl _ _ _ _ hok hA (fun x hx => hb.same (hlt x (by simp [hx]))) (fun x hx => by simpa using hlt x (by simp [hx]))
  · rw [List.append_nil, hfn, hvars]
    rfl
  · exact Or.inr (Or.inl (by simpa using hx))

/-- The lifted row, out of a walk. -/
theorem law_lifted {C : Checked} {os : Os} {f : FuncId} {fn : Func} {s : ChangeSpec} {tb : TypeId} (own : ownKnob C.prog.godebug = none) (hl : laidOutB C.prog = true) (started : os.Started)
    (noInit : C.prog.inits.idxOf? f = none) (hfn : C.prog.funcs[f]? = some fn)
    (witness : ∃ (w : World) (tape : Tape) (i : Input), w.os = os ∧ (w.forCall tape i).Shaped C.prog ∧ i.vars = [] ∧ Input.okWide C.prog (w.forCall tape i) .any w.heap.size f i ∧
      s.pre6 enc C.prog fn [] false (w.forCall tape i).memory i.args ∧ ({} : Assume).holds C.prog (lone (Frame.enter C.prog f i.args .normal) [] (w.forCall tape i)))
    (hok : fn.params.toList.all (fun t => C.prog.readableRec t && decide (t < C.prog.types.size)) = true) (hr : fn.resultTypes = #[tb]) (htb : C.prog.underlying tb = some .bool)
    (hvars : s.vars = []) (hspec : ∀ ds : List (DataW H), ds.length = fn.params.size → s.fn H ds = { results := [.lit (.bool true)], args := ds })
    (walk : ∀ (W : World) (base : Nat) (args : Array Value) (ds : List (DataW H)) (ps : List MemPlace),
      (∀ (j : Nat) t v, fn.params[j]? = some t → args[j]? = some v → Value.okWide C.prog W .any base t v) →
      DataW.TrodAll enc C.prog W 0 (fun _ => true) true fn.params.toList args.toList ds ps → (∀ p ∈ ps, p.block < W.heap.size) →
      (DataW.weightsEach C.prog fn.params.toList ds).all (· ≤ reachBytes) = true →
      Calls C.prog f args W fun e W' => e = .returned (.bool true) ∧ Below W.heap.size W W') :
    ReturnsInHanded {} C os f .any (s.pre6 enc C.prog fn [] false) (s.post enc C.prog fn false true false false) := by
  refine returnsInHanded_of_change_sized own started noInit hfn witness ?_
  intro W base args ds gs before hval hW _ hsz _
  have hlt : ∀ p ∈ before, p.block < W.heap.size := fun p hp => hW.lt p hp
  have hW0 := hW
  obtain ⟨p, q, hA, hV, rfl, _, _⟩ := hW0
  rw [hvars] at hV
  obtain ⟨rfl, rfl⟩ := trodVars_none hV
  have hvt : s.plain.varTypes C.prog = [] := by simp [DataSpec.varTypes, ChangeSpec.plain, hvars]
  rw [hvt, List.append_nil, List.append_nil] at hsz
  refine (walk W base args ds p hval hA (fun x hx => hlt x (by simp [hx])) hsz).mono fun e W' ⟨he, hb⟩ => ?_
  exact ⟨_, he, law_post hl hok hr htb hvars hspec hW hb⟩
end

/-! ### Arguments opened -/
section
variable {H : Type} {enc : TypeId × Value → H} {P : Program} {w : World} {base : Nat} {spare : Nat → Bool} {held : Bool}

/-- A slice of structs of one-cell fields: each field's cell, and its own reading. (The guide's, turned to Cs.) -/
theorem open_slice_fields {t e : TypeId} {fs : Array Field} {fuel : Nat} {cs : List Value} {x : DataW H × List MemPlace} (ht : P.underlying t = some (.slice e)) (he : P.underlying e = some (.struct fs))
    (hone : oneCellFields P fs = true) (hC : P.cellsOf e = fs.size) (h : DataW.trod enc P w base spare held fuel t cs = some x) :
    (cs = [.slice none 0 0] ∧ x = (.nil, [])) ∨
    ∃ (a : Addr) (len cap m : Nat) (D : Nat → DataW H) (Pl : Nat → List MemPlace), cs = [.slice (some a) len cap] ∧ base ≤ a.block ∧ len ≤ cap ∧ cap ≤ maxLen ∧ m = (if spare a.block then cap else len) ∧
      x = (.slice ((List.range len).map D) ((List.range (m - len)).map fun j => D (len + j)), MemPlace.row a (m * fs.size) ++ (List.range m).flatMap Pl) ∧
      ∀ i, i < m → ∃ (ys : List (DataW H × List MemPlace)) (n : Nat), D i = .agg (ys.map (·.1)) ∧ Pl i = ys.flatMap (·.2) ∧ ys.length = fs.size ∧
        ∀ (j : Nat) (f : Field), fs[j]? = some f → ∃ (v : Value) (y : DataW H × List MemPlace), w.cell? (a.add (i * fs.size + j)) = some v ∧ ys[j]? = some y ∧ DataW.trod enc P w base spare held n f.type [v] = some y := by
  rcases open_slice ht h with h0 | ⟨a, len, cap, m, n, D, Pl, hcs, hb, hl, hm, hmm, hx, hi⟩
  · exact .inl h0
  · refine .inr ⟨a, len, cap, m, D, Pl, hcs, hb, hl, hm, hmm, by rw [hC] at hx; exact hx, fun i him => ?_⟩
    obtain ⟨cs', hc, ht'⟩ := hi i him
    rw [hC] at hc
    obtain ⟨ys, n', hn', hy, hlen, hyl, hf⟩ := DataW.trod_struct he ht'
    obtain ⟨_, hcl, hat⟩ := World.cells?_some hc
    simp only [Prod.mk.injEq] at hy
    refine ⟨ys, n', hy.1, hy.2, hyl, fun j f hj => ?_⟩
    obtain ⟨ho, hk⟩ := hone_of hone j f hj
    have hjl : j < fs.size := (Array.getElem?_eq_some_iff.1 hj).1
    have hcell := hat j hjl
    have hv : cs'[j]? = some (cs'[j]'(by omega)) := List.getElem?_eq_getElem (by omega)
    have h1 := hf j f hj
    rw [ho, hk] at h1
    have hone' : (cs'.drop j).take 1 = [cs'[j]'(by omega)] := by
      rw [List.drop_eq_getElem_cons (by omega)]
      rfl
    rw [hone'] at h1
    have hys : ys[j]? = some (ys[j]'(by omega)) := List.getElem?_eq_getElem (by omega)
    refine ⟨_, _, ?_, hys, h1.trans hys⟩
    rw [← Go.Deep.add_add, hcell, hv]

/-- A slice of bytes that came in. -/
theorem open_bytes {t e : TypeId} {fuel : Nat} {v : Value} {x : DataW H × List MemPlace} (ht : P.underlying t = some (.slice e)) (he : P.underlying e = some (.int .u8)) (hc : P.cellsOf e = 1)
    (h : DataW.trod enc P w base (fun _ => true) held fuel t [v] = some x) :
    ∃ bs : List UInt8, (∀ n ∈ x.1.weights P t, n ≤ reachBytes) → P.bytesOf e = 1 → Bs w (fun b => b < w.heap.size) v bs := by
  rcases open_ints ht he hc h with ⟨hcs, hx⟩ | ⟨a, len, cap, zs, hcs, _, hl, hm, hz, hx, hcell, hwz⟩
  · obtain rfl : v = .slice none 0 0 := by simpa using hcs
    exact ⟨[], fun _ _ => Bs.nil_ _ _⟩
  · obtain rfl : v = .slice (some a) len cap := by simpa using hcs
    simp only [if_true] at hz
    have hbyte : ∀ z ∈ zs, (z.toNat : Int) = z ∧ z.toNat < 256 := fun z hzm => by
      have := hwz z hzm
      simp only [Lit.wf, IntKind.min, IntKind.max, IntKind.signed, IntKind.bits, Bool.and_eq_true] at this
      simp at this
      omega
    refine ⟨(zs.take len).map fun z => UInt8.ofNat z.toNat, fun hw hb1 => ?_⟩
    have hlen : ((zs.take len).map fun z => UInt8.ofNat z.toNat).length = len := by simp; omega
    have hsz : cap ≤ reachBytes := by
      have := hw (((lits (H := H) .u8 (zs.take len)).length + (lits (H := H) .u8 (zs.drop len)).length) * P.bytesOf e) (by rw [hx]; simp [DataW.weights, ht])
      rw [hb1] at this
      simp only [lits, List.length_map, List.length_take, List.length_drop] at this
      omega
    refine ⟨⟨by rw [u8s_length]; omega, some a, cap, by rw [hlen], by rw [hlen]; exact hl, hm, fun hpos => ?_⟩, by rw [hlen]; simp only [reachBytes] at hsz; omega⟩
    rw [hlen] at hpos
    obtain ⟨b, off, spot⟩ := a
    have hc0 := hcell 0 (by omega)
    obtain rfl : spot = none := by simpa [Addr.add] using World.cell?_spot hc0
    refine ⟨b, off, rfl, by have := World.block_lt_of_cell? _ _ hc0; simpa [Addr.add] using this, by have := World.block_lt_of_cell? _ _ hc0; simpa [Addr.add] using this, fun j u hu => ?_⟩
    have hj : j < len := by
      have := (List.getElem?_eq_some_iff.1 hu).1
      rw [u8s_length] at this; omega
    have hcj := hcell j (by omega)
    rw [add_plain] at hcj
    rw [hcj]
    have hjz : j < zs.length := by omega
    simp only [u8s, List.map_map, List.getElem?_map, List.getElem?_take, if_pos hj, List.getElem?_eq_getElem hjz, Option.map_some, Function.comp_apply] at hu
    rw [← hu]
    have := hbyte zs[j] (List.getElem_mem hjz)
    simp only [List.getD, List.getElem?_eq_getElem hjz, Option.getD_some, Option.some.injEq, Value.int.injEq, true_and]
    rw [UInt8.toNat_ofNat']
    omega

/-- A slice value's form, from its well-formedness. -/
theorem weights_all {ts : List TypeId} {ds : List (DataW H)} (h : (DataW.weightsEach P ts ds).all (· ≤ reachBytes) = true) {j : Nat} {t : TypeId} {d : DataW H} (ht : ts[j]? = some t) (hd : ds[j]? = some d) : ∀ n ∈ d.weights P t, n ≤ reachBytes :=
  fun n hn => by simpa using List.all_eq_true.1 h n (DataW.weights_mem_each ht hd n hn)
theorem weights_elem {t e : TypeId} (ht : P.underlying t = some (.slice e)) {elems spare' : List (DataW H)} (h : ∀ n ∈ (DataW.slice elems spare').weights P t, n ≤ reachBytes) {d : DataW H} (hd : d ∈ elems) : ∀ n ∈ d.weights P e, n ≤ reachBytes := by
  have key : ∀ (l : List (DataW H)), d ∈ l → ∀ n ∈ d.weights P e, n ∈ DataW.weightsAll P e l := by
    intro l
    induction l with
    | nil => intro h; cases h
    | cons x r ih =>
      intro hm n hn
      simp only [DataW.weightsAll, List.mem_append]
      rcases List.mem_cons.1 hm with rfl | hm
      · exact .inl hn
      · exact .inr (ih hm n hn)
  intro n hn
  refine h n ?_
  simp only [DataW.weights, ht, List.mem_cons, List.mem_append]
  exact .inr (.inl (key elems hd n hn))
theorem weights_size {t e : TypeId} (ht : P.underlying t = some (.slice e)) {elems spare' : List (DataW H)} (h : ∀ n ∈ (DataW.slice elems spare').weights P t, n ≤ reachBytes) : elems.length * P.bytesOf e ≤ reachBytes := by
  have := h ((elems.length + spare'.length) * P.bytesOf e) (by simp [DataW.weights, ht])
  exact Nat.le_trans (Nat.mul_le_mul_right _ (by omega)) this
theorem weights_field {e : TypeId} {fs : Array Field} (he : P.underlying e = some (.struct fs)) {parts : List (DataW H)} (h : ∀ n ∈ (DataW.agg parts).weights P e, n ≤ reachBytes) {j : Nat} {f : Field} {d : DataW H} (hf : fs[j]? = some f) (hd : parts[j]? = some d) :
    ∀ n ∈ d.weights P f.type, n ≤ reachBytes := fun n hn => h n (by
  simp only [DataW.weights, he]
  exact DataW.weights_mem_each (by rw [List.getElem?_map, Array.getElem?_toList, hf]; rfl) hd n hn)
end

end Go.Proofs.YtjjgmkfkmckkoabGreatDoor

/- How a law's second form ('Upto') is closed: beside Law. Says nothing of the program. -/
namespace Go.Proofs.YtjjgmkfkmckkoabGreatDoor
open Go.ChangeShapes Go.WideShapes Go.ChangeAt Go.RowKit Go.Deep

section
variable {H : Type} {enc : TypeId × Value → H}

theorem upto_lifted {C : Checked} {os : Os} {f : FuncId} {fn : Func} {s : ChangeSpec} {tb : TypeId} {F : Stop.Interp} (own : ownKnob C.prog.godebug = none) (hl : laidOutB C.prog = true) (started : os.Started)
    (noInit : C.prog.inits.idxOf? f = none) (hfn : C.prog.funcs[f]? = some fn)
    (witness : ∃ (w : World) (tape : Tape) (i : Input), w.os = os ∧ (w.forCall tape i).Shaped C.prog ∧ i.vars = [] ∧ Input.okWide C.prog (w.forCall tape i) .any w.heap.size f i ∧
      (Rows.OpenSpec.upto s).pre6 enc C.prog fn [] false (w.forCall tape i).memory i.args ∧ ({} : Assume).holds C.prog (lone (Frame.enter C.prog f i.args .normal) [] (w.forCall tape i)))
    (hok : fn.params.toList.all (fun t => C.prog.readableRec t && decide (t < C.prog.types.size)) = true) (hr : fn.resultTypes = #[tb]) (htb : C.prog.underlying tb = some .bool)
    (hvars : s.vars = []) (hspec : ∀ ds : List (DataW H), ds.length = fn.params.size → s.fn H ds = { results := [.lit (.bool true)], args := ds })
    (walk : ∀ (W : World) (base : Nat) (args : Array Value) (ds : List (DataW H)) (ps : List MemPlace),
      (∀ (j : Nat) t v, fn.params[j]? = some t → args[j]? = some v → Value.okWide C.prog W .any base t v) →
      DataW.TrodAll enc C.prog W 0 (fun _ => true) true fn.params.toList args.toList ds ps → (∀ p ∈ ps, p.block < W.heap.size) → Rows.uptoBulkAll ds ≤ 1048576 →
      Calls C.prog f args W fun e W' => e = .returned (.bool true) ∧ Below W.heap.size W W') :
    ReturnsInHanded {} C os f .any ((Rows.OpenSpec.upto s).pre6 enc C.prog fn [] false) (((Rows.OpenSpec.upto s).at F).post enc C.prog fn false true false false) := by
  refine returnsInHanded_of_cond (C := C) (s := Rows.OpenSpec.upto s) (k := Rows.uptoSmall) rfl own started noInit hfn witness ?_
  intro W base args ds gs before hval hW _ hk _
  have hW0 : DataW.Whole enc C.prog fn.params.toList s.vars false W args.toList ds gs before := hW
  have hlt : ∀ p ∈ before, p.block < W.heap.size := fun p hp => hW0.lt p hp
  have hW1 := hW0
  obtain ⟨p, q, hA, hV, rfl, _, _⟩ := hW1
  rw [hvars] at hV
  obtain ⟨rfl, rfl⟩ := trodVars_none hV
  rw [List.append_nil] at hk
  refine (walk W base args ds p hval hA (fun x hx => hlt x (by simp [hx])) (bulks.bound hk)).mono fun e W' ⟨he, hb⟩ => ?_
  exact ⟨_, he, law_post hl hok hr htb hvars hspec hW0 hb⟩
end

end Go.Proofs.YtjjgmkfkmckkoabGreatDoor

/- Arguments opened: what reads as data is a thing of a shape. Says nothing of the program. -/
namespace Go.Proofs.YtjjgmkfkmckkoabGreatDoor
open Go.ChangeShapes Go.WideShapes Go.ChangeAt Go.RowKit Go.Deep

/-! Type t is of shape s. -/
mutual
def Sh.fits (P : Program) : Sh → TypeId → Prop
  | .num sg, t => P.underlying t = some (.int (nk sg))
  | .dig, t => ∃ e, P.underlying t = some (.array 32 e) ∧ P.underlying e = some (.int .u8) ∧ P.cellsOf e = 1 ∧ P.cellsOf t = 32
  | .byt, t => ∃ e, P.underlying t = some (.slice e) ∧ P.underlying e = some (.int .u8) ∧ P.cellsOf e = 1
  | .bool, t => P.underlying t = some .bool
  | .list s, t => ∃ e, P.underlying t = some (.slice e) ∧ s.fits P e ∧ P.cellsOf e = s.cells ∧ 0 < s.cells
  | .tup fs, t => ∃ F, P.underlying t = some (.struct F) ∧ fs.fits P F.toList 0 ∧ P.cellsOf t = fs.cells
def Fs.fits (P : Program) : Fs → List Field → Nat → Prop
  | .nil, [], _ => True
  | .cons s fs, f :: l, o => f.offset = o ∧ P.cellsOf f.type = s.cells ∧ s.fits P f.type ∧ fs.fits P l (o + s.cells)
  | _, _, _ => False
end
/-! No bytes, no lists in it. -/
mutual
def Sh.plain : Sh → Bool
  | .num _ => true
  | .dig => true
  | .byt => false
  | .bool => true
  | .list _ => false
  | .tup fs => fs.plain
def Fs.plain : Fs → Bool
  | .nil => true
  | .cons s fs => s.plain && fs.plain
end
theorem choose_list {α : Type} {p : Nat → α → Prop} : ∀ (n : Nat), (∀ i, i < n → ∃ x, p i x) → ∃ l : List α, l.length = n ∧ ∀ i x, l[i]? = some x → p i x
  | 0, _ => ⟨[], rfl, fun i x h => by simp at h⟩
  | n + 1, h => by
    obtain ⟨l, hl, hp⟩ := choose_list n fun i hi => h i (by omega)
    obtain ⟨x, hx⟩ := h n (by omega)
    refine ⟨l ++ [x], by simp [hl], fun i y hy => ?_⟩
    rcases Nat.lt_trichotomy i l.length with h1 | h1 | h1
    · rw [List.getElem?_append_left h1] at hy; exact hp i y hy
    · subst h1
      rw [List.getElem?_append_right (Nat.le_refl _), Nat.sub_self] at hy
      injection hy with hy
      subst hy
      rw [hl]; exact hx
    · rw [List.getElem?_eq_none (by simp; omega)] at hy; cases hy
theorem flatten_back {m : Nat} (hm : 0 < m) (css : List (List Value)) (hc : ∀ c ∈ css, c.length = m) {j : Nat} {u : Value} (h : css.flatten[j]? = some u) : ∃ c, css[j / m]? = some c ∧ c[j % m]? = some u := by
  have hlen : css.flatten.length = css.length * m := by
    clear h
    induction css with
    | nil => simp
    | cons c r ih => rw [List.flatten_cons, List.length_append, hc c (by simp), ih fun d hd => hc d (by simp [hd]), List.length_cons, Nat.succ_mul]; omega
  have hj : j < css.length * m := by rw [← hlen]; exact (List.getElem?_eq_some_iff.1 h).1
  have hk : j / m < css.length := Nat.div_lt_of_lt_mul (by rw [Nat.mul_comm]; exact hj)
  refine ⟨css[j / m], List.getElem?_eq_getElem hk, ?_⟩
  have := flatten_get css (j / m) css[j / m] hc (List.getElem?_eq_getElem hk) (j % m) (Nat.mod_lt _ hm)
  rw [← this, Nat.mul_comm, Nat.div_add_mod]
  exact h
theorem wf_nk (sg : Bool) (n : Int) (h : (Lit.int (nk sg) n).wf = true) : (nk sg).wrap n = n := by
  cases sg
  · simp [Lit.wf, nk, IntKind.min, IntKind.max, IntKind.signed, IntKind.bits] at h
    rw [wrap_u]; omega
  · simp [Lit.wf, nk, IntKind.min, IntKind.max, IntKind.signed, IntKind.bits] at h
    rw [wrap_s]; split <;> omega

section
variable {H : Type} {enc : TypeId × Value → H} {P : Program} {w : World} {base : Nat} {held : Bool}
theorem trod_int_open {t : TypeId} {k : IntKind} {fuel : Nat} {cs : List Value} {x : DataW H × List MemPlace} (ht : P.underlying t = some (.int k)) (h : DataW.trod enc P w base (fun _ => true) held fuel t cs = some x) : ∃ n, cs = [.int k n] ∧ (Lit.int k n).wf = true := by
  cases fuel with
  | zero => simp [DataW.trod] at h
  | succ m =>
    unfold DataW.trod at h
    rw [ht] at h
    split at h <;> simp_all
theorem trod_bool_open {t : TypeId} {fuel : Nat} {cs : List Value} {x : DataW H × List MemPlace} (ht : P.underlying t = some .bool) (h : DataW.trod enc P w base (fun _ => true) held fuel t cs = some x) : ∃ b, cs = [.bool b] := by
  cases fuel with
  | zero => simp [DataW.trod] at h
  | succ m =>
    unfold DataW.trod at h
    rw [ht] at h
    split at h <;> simp_all
theorem byte_of {z : Int} (h : (Lit.int .u8 z).wf = true) : (Value.int .u8 z) = .int .u8 ((UInt8.ofNat z.toNat).toNat : Int) := by
  simp [Lit.wf, IntKind.min, IntKind.max, IntKind.signed, IntKind.bits] at h
  congr 1
  rw [UInt8.toNat_ofNat']
  omega
theorem joinP_bulk {α : Type} (f : α → List UInt8) : ∀ (l : List α) (ds : List (DataW H)), l.length = ds.length → (∀ (i : Nat) (a : α) (d : DataW H), l[i]? = some a → ds[i]? = some d → (f a).length + 8 ≤ 24 * Rows.uptoBulk d) → (joinP (l.map f)).length ≤ 24 * Rows.uptoBulkAll ds
  | [], [], _, _ => by simp [joinP]
  | [], _ :: _, h, _ => by simp at h
  | _ :: _, [], h, _ => by simp at h
  | a :: l, d :: ds, h, hb => by
    have h1 := hb 0 a d rfl rfl
    have h2 := joinP_bulk f l ds (by simpa using h) fun i a d h3 h4 => hb (i + 1) a d h3 h4
    simp only [List.map_cons, joinP, List.length_append, be8_length, Rows.uptoBulkAll]
    omega

set_option maxHeartbeats 1000000 in
mutual
theorem Sh.open_ : ∀ (s : Sh) (t : TypeId) (n : Nat) (cs : List Value) (x : DataW H × List MemPlace), s.fits P t → (s.plain = true ∨ Rows.uptoBulk x.1 ≤ 1048576) → DataW.trod enc P w base (fun _ => true) held n t cs = some x →
    ∃ y : s.El, s.rep w (fun b => b < w.heap.size) y cs ∧ (s.enc y).length + 8 ≤ 24 * Rows.uptoBulk x.1
  | .num sg, t, n, cs, x, hf, _, h => by
    obtain ⟨z, rfl, hw⟩ := trod_int_open hf h
    refine ⟨z, ⟨rfl, wf_nk sg z hw⟩, ?_⟩
    have h1 : (numB z).length = 8 := numB_length z
    have h2 := bulks.one_le x.1
    show (numB z).length + 8 ≤ _
    omega
  | .bool, t, n, cs, x, hf, _, h => by
    obtain ⟨b, rfl⟩ := trod_bool_open hf h
    refine ⟨b, rfl, ?_⟩
    have h1 : (truthB b).length = 1 := by cases b <;> rfl
    have h2 := bulks.one_le x.1
    show (truthB b).length + 8 ≤ _
    omega
  | .dig, t, n, cs, x, ⟨e, ht, he, hce, hct⟩, _, h => by
    obtain ⟨xs, m, rfl, rfl, hl, hxl, hi⟩ := DataW.trod_array ht h
    rw [hct] at hl
    obtain ⟨l, hll, hlp⟩ := choose_list (α := UInt8) (p := fun i b => cs[i]? = some (.int .u8 b.toNat)) 32 fun i hi32 => by
      have h1 := hi i hi32
      rw [hce, Nat.mul_one] at h1
      have hx : xs[i]? = some (xs[i]'(by omega)) := List.getElem?_eq_getElem _
      rw [hx] at h1
      obtain ⟨z, hz, hw⟩ := trod_int_open he h1
      refine ⟨UInt8.ofNat z.toNat, ?_⟩
      have h2 : cs.drop i = cs[i]'(by omega) :: cs.drop (i + 1) := List.drop_eq_getElem_cons (by omega)
      rw [h2] at hz
      simp only [List.take_succ_cons, List.take_zero, List.cons.injEq, and_true] at hz
      rw [List.getElem?_eq_getElem (by omega), hz, byte_of hw]
    refine ⟨l, ⟨?_, hll⟩, ?_⟩
    · apply List.ext_getElem?
      intro i
      rcases Nat.lt_or_ge i 32 with h1 | h1
      · have h2 : l[i]? = some (l[i]'(by omega)) := List.getElem?_eq_getElem _
        rw [hlp i _ h2, u8s_get l i (by omega)]
      · rw [List.getElem?_eq_none (by omega), List.getElem?_eq_none (by rw [u8s_length]; omega)]
    · show List.length (α := UInt8) l + 8 ≤ _
      have h2 := bulks.length_le (xs.map (·.1))
      rw [List.length_map, hxl] at h2
      simp only [Rows.uptoBulk]
      omega
  | .byt, t, n, cs, x, ⟨e, ht, he, hce⟩, hB, h => by
    rcases open_ints ht he hce h with ⟨hcs, hx⟩ | ⟨a, len, cap, zs, hcs, _, hl, hm, hz, hx, hcell, hwz⟩
    · subst hcs hx
      exact ⟨[], ⟨_, rfl, Bs.nil_ _ _⟩, by simp [Sh.enc, Rows.uptoBulk]⟩
    · subst hcs hx
      simp only [if_true] at hz
      have hB : Rows.uptoBulk (DataW.slice (lits (H := H) .u8 (zs.take len)) (lits (H := H) .u8 (zs.drop len))) ≤ 1048576 := hB.elim (fun h => by cases h) id
      have hsl := bulks.slice_le (lits (H := H) .u8 (zs.take len)) (lits (H := H) .u8 (zs.drop len))
      rw [show (lits (H := H) .u8 (zs.take len)).length = len by simp [lits]; omega] at hsl
      have hlen : ((zs.take len).map fun z => UInt8.ofNat z.toNat).length = len := by simp; omega
      refine ⟨(zs.take len).map fun z => UInt8.ofNat z.toNat, ⟨_, rfl, ⟨by rw [u8s_length]; omega, some a, cap, by rw [hlen], by rw [hlen]; exact hl, hm, fun hpos => ?_⟩, ?_⟩, ?_⟩
      · rw [hlen] at hpos
        obtain ⟨b, off, spot⟩ := a
        have hc0 := hcell 0 (by omega)
        obtain rfl : spot = none := by simpa [Addr.add] using World.cell?_spot hc0
        refine ⟨b, off, rfl, by have := World.block_lt_of_cell? _ _ hc0; simpa [Addr.add] using this, by have := World.block_lt_of_cell? _ _ hc0; simpa [Addr.add] using this, fun j u hu => ?_⟩
        have hj : j < len := by have := (List.getElem?_eq_some_iff.1 hu).1; rw [u8s_length] at this; omega
        have hcj := hcell j (by omega)
        rw [add_plain] at hcj
        rw [hcj]
        have hjz : j < zs.length := by omega
        simp only [u8s, List.map_map, List.getElem?_map, List.getElem?_take, if_pos hj, List.getElem?_eq_getElem hjz, Option.map_some, Function.comp_apply] at hu
        rw [← hu]
        simp only [List.getD, List.getElem?_eq_getElem hjz, Option.getD_some]
        rw [byte_of (hwz zs[j] (List.getElem_mem hjz))]
      · rw [hlen]; omega
      · show List.length (α := UInt8) _ + 8 ≤ _
        show (List.map (fun z : Int => UInt8.ofNat z.toNat) (List.take len zs)).length + 8 ≤ _
        rw [hlen]
        show len + 8 ≤ 24 * Rows.uptoBulk (DataW.slice (lits (H := H) .u8 (zs.take len)) (lits (H := H) .u8 (zs.drop len)))
        omega
  | .list s, t, n, cs, x, ⟨e, ht, hfe, hce, h0⟩, hB, h => by
    rcases open_slice ht h with ⟨hcs, hx⟩ | ⟨a, len, cap, m, n', D, Pl, hcs, _, hl, hm, hmm, hx, hi⟩
    · subst hcs hx
      exact ⟨[], ⟨_, [], rfl, Cs.nil_ _ _ _, .nil⟩, by simp [Sh.enc, joinB_length, joinP, Rows.uptoBulk]⟩
    · subst hcs hx
      simp only [if_true] at hmm
      have hmm' := hmm.symm
      subst hmm'
      clear hmm
      have hB : Rows.uptoBulk (DataW.slice ((List.range len).map D) ((List.range (cap - len)).map fun j => D (len + j))) ≤ 1048576 := hB.elim (fun h => by cases h) id
      have hpart : ∀ i, i < len → Rows.uptoBulk (D i) ≤ 1048576 := fun i hil => by
        have := bulks.part_le (List.mem_map.2 ⟨i, List.mem_range.2 hil, rfl⟩ : D i ∈ (List.range len).map D)
        simp only [Rows.uptoBulk] at hB
        omega
      obtain ⟨l, hll, hlp⟩ := choose_list (α := s.El × List Value) (p := fun i z => (∀ j u, z.2[j]? = some u → w.cell? ((a.add (i * P.cellsOf e)).add j) = some u) ∧ s.rep w (fun b => b < w.heap.size) z.1 z.2 ∧ (s.enc z.1).length + 8 ≤ 24 * Rows.uptoBulk (D i)) len fun i hil => by
        obtain ⟨cs', hc, ht'⟩ := hi i (by omega)
        obtain ⟨y, hr, hb⟩ := Sh.open_ s e n' cs' (D i, Pl i) hfe (.inr (hpart i hil)) ht'
        obtain ⟨_, hcl, hat⟩ := World.cells?_some hc
        exact ⟨(y, cs'), fun j u hu => by have hjl : j < cs'.length := (List.getElem?_eq_some_iff.1 hu).1; rw [hat j (by omega)]; exact hu, hr, hb⟩
      have hcl : ∀ c ∈ l.map (·.2), c.length = s.cells := fun c hc => by
        obtain ⟨z, hz, rfl⟩ := List.mem_map.1 hc
        obtain ⟨i, hi, rfl⟩ := List.getElem_of_mem hz
        exact Sh.rep_size s _ _ (hlp i _ (List.getElem?_eq_getElem hi)).2.1
      have hfl : (l.map (·.2)).flatten.length = len * s.cells := by
        rw [← hll]
        clear hlp hll
        induction l with
        | nil => simp
        | cons z r ih => rw [List.map_cons, List.flatten_cons, List.length_append, hcl z.2 (by simp), ih fun c hc => hcl c (by simp at hc ⊢; exact .inr hc), List.length_cons, Nat.succ_mul]; omega
      refine ⟨l.map (·.1), ⟨_, l.map (·.2), rfl, ⟨by rw [hfl]; simp [hll], some a, cap, by simp [hll], by simpa [hll] using hl, hm, fun hpos => ?_⟩, ?_⟩, ?_⟩
      · have hpos : 0 < len := by simpa [hll] using hpos
        obtain ⟨b, off, spot⟩ := a
        have hz0 : l[0]? = some (l[0]'(by omega)) := List.getElem?_eq_getElem _
        obtain ⟨q1, q2, _⟩ := hlp 0 _ hz0
        have hsz := Sh.rep_size s _ _ q2
        have hc0 := q1 0 _ (List.getElem?_eq_getElem (by omega))
        rw [Nat.zero_mul] at hc0
        obtain rfl : spot = none := by simpa [Addr.add] using World.cell?_spot hc0
        refine ⟨b, off, rfl, by have := World.block_lt_of_cell? _ _ hc0; simpa [Addr.add] using this, by have := World.block_lt_of_cell? _ _ hc0; simpa [Addr.add] using this, fun j u hu => ?_⟩
        obtain ⟨c, hc1, hc2⟩ := flatten_back h0 _ hcl hu
        rw [List.getElem?_map] at hc1
        obtain ⟨z, hz, rfl⟩ := Option.map_eq_some_iff.1 hc1
        have := (hlp _ z hz).1 _ u hc2
        rw [add_plain, add_plain, hce, Nat.add_assoc, Nat.mul_comm, Nat.div_add_mod] at this
        exact this
      · have : ∀ (l : List (s.El × List Value)), (∀ z ∈ l, s.rep w (fun b => b < w.heap.size) z.1 z.2) → Two (s.rep w (fun b => b < w.heap.size)) (l.map (·.1)) (l.map (·.2)) := by
          intro l
          induction l with
          | nil => intro _; exact .nil
          | cons z r ih => intro hz; exact .cons (hz z (by simp)) (ih fun y hy => hz y (by simp [hy]))
        exact this l fun z hz => by obtain ⟨i, hi, rfl⟩ := List.getElem_of_mem hz; exact (hlp i _ (List.getElem?_eq_getElem hi)).2.1
      · show (joinB (List.map s.enc (l.map (·.1)))).length + 8 ≤ 24 * Rows.uptoBulk (DataW.slice ((List.range len).map D) ((List.range (cap - len)).map fun j => D (len + j)))
        have hjb := joinP_bulk s.enc (l.map (·.1)) ((List.range len).map D) (by simp [hll]) fun i a d h1 h2 => by
          rw [List.getElem?_map] at h1 h2
          obtain ⟨z, hz, rfl⟩ := Option.map_eq_some_iff.1 h1
          have hil := (List.getElem?_eq_some_iff.1 hz).1
          rw [List.getElem?_range (by omega)] at h2
          injection h2 with h2
          subst h2
          exact (hlp i z hz).2.2
        rw [joinB_length]
        have := bulks.slice_elems ((List.range len).map D) ((List.range (cap - len)).map fun j => D (len + j))
        omega
  | .tup fs, t, n, cs, x, ⟨F, ht, hf, hct⟩, hB, h => by
    obtain ⟨xs, m, rfl, rfl, hl, hxl, hi⟩ := DataW.trod_struct ht h
    obtain ⟨y, hr, hb⟩ := Fs.open_ fs F.toList 0 m cs xs hf (hB.imp id fun h => by simp only [Rows.uptoBulk] at h; omega) (fun i f hif => hi i f (by simpa using hif)) (by simpa using hxl) (by rw [Nat.zero_add, hl, hct])
    rw [List.drop_zero] at hr
    refine ⟨y, hr, ?_⟩
    show (joinB (fs.encs y)).length + 8 ≤ _
    rw [joinB_length]
    simp only [Rows.uptoBulk]
    omega
theorem Fs.open_ : ∀ (fs : Fs) (l : List Field) (o m : Nat) (cs : List Value) (xs : List (DataW H × List MemPlace)), fs.fits P l o → (fs.plain = true ∨ Rows.uptoBulkAll (xs.map (·.1)) ≤ 1048576) →
    (∀ (i : Nat) (f : Field), l[i]? = some f → DataW.trod enc P w base (fun _ => true) held m f.type ((cs.drop f.offset).take (P.cellsOf f.type)) = xs[i]?) → xs.length = l.length → o + fs.cells = cs.length →
    ∃ y : fs.El, fs.rep w (fun b => b < w.heap.size) y (cs.drop o) ∧ (joinP (fs.encs y)).length ≤ 24 * Rows.uptoBulkAll (xs.map (·.1))
  | .nil, [], o, m, cs, xs, _, _, _, _, hl => by
    have hl : o + 0 = cs.length := hl
    exact ⟨(), List.drop_eq_nil_of_le (by omega), Nat.zero_le _⟩
  | .nil, _ :: _, _, _, _, _, h, _, _, _, _ => by cases h
  | .cons _ _, [], _, _, _, _, h, _, _, _, _ => by cases h
  | .cons s fs, f :: l, o, m, cs, xs, ⟨ho, hc, hs, hfs⟩, hB, hi, hx, hl => by
    have hl : o + (s.cells + fs.cells) = cs.length := hl
    cases xs with
    | nil => simp at hx
    | cons x xs =>
      have h1 := hi 0 f rfl
      rw [ho, hc] at h1
      simp only [List.map_cons, Rows.uptoBulkAll] at hB
      obtain ⟨a, ha, hab⟩ := Sh.open_ s f.type m _ x hs (hB.imp (fun h => by have h : (s.plain && fs.plain) = true := h; simp at h; exact h.1) fun h => by omega) h1
      obtain ⟨b, hb, hbb⟩ := Fs.open_ fs l (o + s.cells) m cs xs hfs (hB.imp (fun h => by have h : (s.plain && fs.plain) = true := h; simp at h; exact h.2) fun h => by omega) (fun i g hg => hi (i + 1) g hg) (by simpa using hx) (by omega)
      refine ⟨(a, b), ⟨_, _, ?_, ha, hb⟩, ?_⟩
      · rw [← List.drop_drop, List.take_append_drop]
      · show (joinP (s.enc a :: fs.encs b)).length ≤ _
        simp only [joinP, List.length_append, be8_length, List.map_cons, Rows.uptoBulkAll]
        omega
end
end

end Go.Proofs.YtjjgmkfkmckkoabGreatDoor

/- Codec: which type is of which shape; arguments opened. Printed by genFits.py. -/
namespace Go.Proofs.YtjjgmkfkmckkoabGreatDoor
open Go.ChangeShapes Go.WideShapes Go.ChangeAt Go.RowKit

theorem fits_num {P : Program} {sg : Bool} {t : TypeId} (h : P.underlying t = some (.int (nk sg))) : (Sh.num sg).fits P t := h
theorem fits_bool {P : Program} {t : TypeId} (h : P.underlying t = some .bool) : Sh.bool.fits P t := h
theorem fitsSig : tSig.fits Tryz.prog 37 := ⟨_, Tryz.underlying37, ⟨rfl, by kernel_rfl, (fits_num (by kernel_rfl)), ⟨rfl, by kernel_rfl, ⟨5, by kernel_rfl, Tryz.underlying5, by kernel_rfl, by kernel_rfl⟩, trivial⟩⟩, by kernel_rfl⟩
theorem fitsHeader : tHeader.fits Tryz.prog 29 := ⟨_, Tryz.underlying29, ⟨rfl, by kernel_rfl, (fits_num (by kernel_rfl)), ⟨rfl, by kernel_rfl, (fits_num (by kernel_rfl)), ⟨rfl, by kernel_rfl, (fits_num (by kernel_rfl)), ⟨rfl, by kernel_rfl, (fits_num (by kernel_rfl)), ⟨rfl, by kernel_rfl, ⟨5, by kernel_rfl, Tryz.underlying5, by kernel_rfl, by kernel_rfl⟩, ⟨rfl, by kernel_rfl, ⟨5, by kernel_rfl, Tryz.underlying5, by kernel_rfl, by kernel_rfl⟩, ⟨rfl, by kernel_rfl, ⟨5, by kernel_rfl, Tryz.underlying5, by kernel_rfl, by kernel_rfl⟩, ⟨rfl, by kernel_rfl, (fits_num (by kernel_rfl)), trivial⟩⟩⟩⟩⟩⟩⟩⟩, by kernel_rfl⟩
theorem fitsQC : tQC.fits Tryz.prog 33 := ⟨_, Tryz.underlying33, ⟨rfl, by kernel_rfl, (fits_num (by kernel_rfl)), ⟨rfl, by kernel_rfl, (fits_num (by kernel_rfl)), ⟨rfl, by kernel_rfl, (fits_num (by kernel_rfl)), ⟨rfl, by kernel_rfl, ⟨5, by kernel_rfl, Tryz.underlying5, by kernel_rfl, by kernel_rfl⟩, ⟨rfl, by kernel_rfl, ⟨3, by kernel_rfl, (fits_num (by kernel_rfl)), by kernel_rfl, by decide⟩, ⟨rfl, by kernel_rfl, ⟨37, by kernel_rfl, fitsSig, by kernel_rfl, by decide⟩, trivial⟩⟩⟩⟩⟩⟩, by kernel_rfl⟩
theorem fitsCommit : tCommit.fits Tryz.prog 56 := ⟨_, Tryz.underlying56, ⟨rfl, by kernel_rfl, ⟨29, by kernel_rfl, fitsHeader, by kernel_rfl, by decide⟩, ⟨rfl, by kernel_rfl, fitsQC, trivial⟩⟩, by kernel_rfl⟩
theorem fitsFact : tFact.fits Tryz.prog 58 := ⟨_, Tryz.underlying58, ⟨rfl, by kernel_rfl, fitsCommit, ⟨rfl, by kernel_rfl, ⟨5, by kernel_rfl, Tryz.underlying5, by kernel_rfl, by kernel_rfl⟩, ⟨rfl, by kernel_rfl, ⟨5, by kernel_rfl, Tryz.underlying5, by kernel_rfl⟩, ⟨rfl, by kernel_rfl, (fits_bool (by kernel_rfl)), ⟨rfl, by kernel_rfl, ⟨5, by kernel_rfl, Tryz.underlying5, by kernel_rfl⟩, trivial⟩⟩⟩⟩⟩, by kernel_rfl⟩
theorem fitsRecord : tRecord.fits Tryz.prog 67 := ⟨_, Tryz.underlying67, ⟨rfl, by kernel_rfl, (fits_num (by kernel_rfl)), ⟨rfl, by kernel_rfl, ⟨3, by kernel_rfl, (fits_num (by kernel_rfl)), by kernel_rfl, by decide⟩, ⟨rfl, by kernel_rfl, ⟨30, by kernel_rfl, ⟨3, by kernel_rfl, (fits_num (by kernel_rfl)), by kernel_rfl, by decide⟩, by kernel_rfl, by decide⟩, trivial⟩⟩⟩, by kernel_rfl⟩
theorem fitsTx : tTx.fits Tryz.prog 27 := ⟨_, Tryz.underlying27, ⟨rfl, by kernel_rfl, (fits_num (by kernel_rfl)), ⟨rfl, by kernel_rfl, (fits_num (by kernel_rfl)), ⟨rfl, by kernel_rfl, (fits_num (by kernel_rfl)), ⟨rfl, by kernel_rfl, (fits_num (by kernel_rfl)), ⟨rfl, by kernel_rfl, (fits_num (by kernel_rfl)), ⟨rfl, by kernel_rfl, (fits_num (by kernel_rfl)), ⟨rfl, by kernel_rfl, (fits_num (by kernel_rfl)), ⟨rfl, by kernel_rfl, ⟨5, by kernel_rfl, Tryz.underlying5, by kernel_rfl, by kernel_rfl⟩, ⟨rfl, by kernel_rfl, (fits_num (by kernel_rfl)), ⟨rfl, by kernel_rfl, ⟨58, by kernel_rfl, fitsFact, by kernel_rfl, by decide⟩, trivial⟩⟩⟩⟩⟩⟩⟩⟩⟩⟩, by kernel_rfl⟩
theorem fitsVote : tVote.fits Tryz.prog 87 := ⟨_, Tryz.underlying87, ⟨rfl, by kernel_rfl, (fits_num (by kernel_rfl)), ⟨rfl, by kernel_rfl, (fits_num (by kernel_rfl)), ⟨rfl, by kernel_rfl, (fits_num (by kernel_rfl)), ⟨rfl, by kernel_rfl, ⟨5, by kernel_rfl, Tryz.underlying5, by kernel_rfl, by kernel_rfl⟩, ⟨rfl, by kernel_rfl, (fits_num (by kernel_rfl)), ⟨rfl, by kernel_rfl, fitsSig, trivial⟩⟩⟩⟩⟩⟩, by kernel_rfl⟩
theorem fitsTimeout : tTimeout.fits Tryz.prog 91 := ⟨_, Tryz.underlying91, ⟨rfl, by kernel_rfl, (fits_num (by kernel_rfl)), ⟨rfl, by kernel_rfl, (fits_num (by kernel_rfl)), ⟨rfl, by kernel_rfl, (fits_num (by kernel_rfl)), ⟨rfl, by kernel_rfl, fitsQC, ⟨rfl, by kernel_rfl, (fits_num (by kernel_rfl)), ⟨rfl, by kernel_rfl, fitsSig, trivial⟩⟩⟩⟩⟩⟩, by kernel_rfl⟩
theorem fitsBlock : tBlock.fits Tryz.prog 39 := ⟨_, Tryz.underlying39, ⟨rfl, by kernel_rfl, fitsHeader, ⟨rfl, by kernel_rfl, fitsQC, ⟨rfl, by kernel_rfl, ⟨56, by kernel_rfl, fitsCommit, by kernel_rfl, by decide⟩, ⟨rfl, by kernel_rfl, ⟨27, by kernel_rfl, fitsTx, by kernel_rfl, by decide⟩, ⟨rfl, by kernel_rfl, fitsSig, trivial⟩⟩⟩⟩⟩, by kernel_rfl⟩
theorem fitsMessage : tMessage.fits Tryz.prog 48 := ⟨_, Tryz.underlying48, ⟨rfl, by kernel_rfl, (fits_num (by kernel_rfl)), ⟨rfl, by kernel_rfl, (fits_num (by kernel_rfl)), ⟨rfl, by kernel_rfl, (fits_num (by kernel_rfl)), ⟨rfl, by kernel_rfl, ⟨5, by kernel_rfl, Tryz.underlying5, by kernel_rfl, by kernel_rfl⟩, ⟨rfl, by kernel_rfl, ⟨39, by kernel_rfl, fitsBlock, by kernel_rfl, by decide⟩, ⟨rfl, by kernel_rfl, ⟨87, by kernel_rfl, fitsVote, by kernel_rfl, by decide⟩, ⟨rfl, by kernel_rfl, ⟨91, by kernel_rfl, fitsTimeout, by kernel_rfl, by decide⟩, ⟨rfl, by kernel_rfl, ⟨56, by kernel_rfl, fitsCommit, by kernel_rfl, by decide⟩, ⟨rfl, by kernel_rfl, ⟨27, by kernel_rfl, fitsTx, by kernel_rfl, by decide⟩, trivial⟩⟩⟩⟩⟩⟩⟩⟩⟩, by kernel_rfl⟩

theorem bulk_le {n k : Nat} (h : n + 8 ≤ 24 * k) (hk : k ≤ 1048576) : n ≤ 1099511627776 := by omega
theorem open_thing {P : Program} {H : Type} {enc : TypeId × Value → H} {W : World} {base : Nat} {fs : Fs} {t : TypeId} {v : Value} {d : DataW H} {p : List MemPlace} (hf : (Sh.tup fs).fits P t) (hB : (Sh.tup fs).plain = true ∨ Rows.uptoBulk d ≤ 1048576)
    (hv : Value.okWide P W .any base t v) (h : DataW.Trod enc P W 0 (fun _ => true) true t v d p) :
    ∃ (cs : List Value) (x : (Sh.tup fs).El), v = .agg cs.toArray ∧ (Sh.tup fs).rep W (fun b => b < W.heap.size) x cs ∧ (∀ u ∈ cs, u.oneCell' = true) ∧ (Rows.uptoBulk d ≤ 1048576 → ((Sh.tup fs).enc x).length ≤ 1099511627776) := by
  obtain ⟨F, hF, hfit, hc⟩ := hf
  obtain ⟨ca, hva, _⟩ := okWide_struct hF hv
  obtain ⟨n, h⟩ := h
  obtain ⟨cs, hcs⟩ : ∃ cs, cs = ca.toList := ⟨_, rfl⟩
  have hca : ca = cs.toArray := by rw [hcs]
  rw [hva, show (Value.agg ca).cells = ca from rfl, ← hcs] at h
  obtain ⟨x, hr, hl⟩ := Sh.open_ (Sh.tup fs) t n cs (d, p) ⟨F, hF, hfit, hc⟩ hB h
  exact ⟨cs, x, by rw [hva, hca], hr, Sh.rep_one _ _ _ hr, fun hd => bulk_le hl hd⟩

/-- A load of a whole block, guarded. -/
theorem wpList_load_blk_g {P : Program} {ops : Array Oper} {rest : List Oper} {op : Oper} {a : Act} {w : World} {Q : Exit → Act → World → Prop} (hgd : Region.wanted op (yielded ops a.tmps) = true) (ty : TypeId) (x : Operand) (ho : op.op = .load ty x) {X : Nat} {t : TypeId} {cs : List Value} (hb : Blk w X t cs.toArray) (hx : a.eval x = .pointer (some ⟨X, 0, none⟩)) {d : TypeDesc} (hu : P.underlying ty = some d) (hd : d.isRow = true)
    (hi : (P.info? ty).map (·.size) = some cs.length) (h : wpList P ops Q rest (a.put op.dst (.agg cs.toArray)) w) : wpList P ops Q (op :: rest) a w := by
  unfold wpList
  rw [if_pos hgd]
  exact .inl (wp_load_mid ty x ho X 0 hx cs _ hb.range hu hd hi h)

/-! The zero of a shape. -/
mutual
def Sh.zero : Sh → List Value
  | .num sg => [.int (nk sg) 0]
  | .dig => List.replicate 32 (.int .u8 0)
  | .byt => [.slice none 0 0]
  | .bool => [.bool false]
  | .list _ => [.slice none 0 0]
  | .tup fs => fs.zero
def Fs.zero : Fs → List Value
  | .nil => []
  | .cons s fs => s.zero ++ fs.zero
end
end Go.Proofs.YtjjgmkfkmckkoabGreatDoor
