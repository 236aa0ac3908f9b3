/- Texts joined: CrO CtQ CuJ CdO CdQ CsA CsB CuK CuL Law LawUp. -/
import Derived.Test.YtjjgmkfkmckkoaaGreatDoorMf
import Derived.Test.YtjjgmkfkmckkoaaGreatDoorMg
import Derived.Test.YtjjgmkfkmckkoaaGreatDoorMa
import Derived.Test.YtjjgmkfkmckkoaaGreatDoorMd
import Derived.Test.YtjjgmkfkmckkoaaGreatDoorMe
import Derived.Test.YtjjgmkfkmckkoaaGreatDoorMb
import Derived.Test.YtjjgmkfkmckkoaaGreatDoorMc
import Derived.Stop.LaidTwo
import Derived.LaidLaws
import Derived.LaidHandle
import Derived.WalkKit
import Derived.ProofKit
import Derived.Lib.LaidTab
import Derived.Stop.Texts
import Derived.Test.YtjjgmkfkmckkoaaGreatDoorRows
import Derived.SizedLaws
import Derived.WideKeyArgs
import Derived.Below
import Derived.Carry
import Derived.Deep.Slices
import Derived.Deep.Fields
import Derived.ChangeSame
import Derived.Test.YtjjgmkfkmckkoaaGreatDoorBulk
import Derived.JoinedCond
namespace Go.Proofs.YtjjgmkfkmckkoaaGreatDoor
open List (setIfInBounds_toArray getElem_toArray getElem_cons_succ getElem_cons_zero set_cons_succ set_cons_zero filterMap_cons filterMap_nil getElem?_toArray getElem?_cons_succ getElem?_cons_zero)
section
open Go.RowKit Go.Maps
attribute [-simp] Tryz.isAgg36 Tryz.typeInfo36 Tryz.isAgg83 Tryz.typeInfo83 Tryz.isAgg90 Tryz.typeInfo90 Tryz.isAgg97 Tryz.typeInfo97 Tryz.isAgg54 Tryz.typeInfo54 Tryz.isAgg72 Tryz.typeInfo72
set_option maxHeartbeats 8000000 in
set_option maxRecDepth 100000 in
theorem rMessage_any (w : World) {S : Nat → Prop} {x : tMessage.El} {cs : List Value} (h : tMessage.rep w S x cs) (hl : (tMessage.enc x).length ≤ 1099511627776) :
    Calls Tryz.prog 36 #[.agg cs.toArray] w fun e w' => ∃ v', e = .returned v' ∧ Fresh w w' v' (tMessage.enc x) := by
  obtain ⟨x0, x1, x2, x3, x4, x5, x6, x7, x8, _⟩ := x
  obtain ⟨c0, _, rfl, ⟨rfl, _⟩, c1, _, rfl, ⟨rfl, _⟩, c2, _, rfl, ⟨rfl, _⟩, c3, _, rfl, ⟨rfl, l3⟩, c4, _, rfl, r4, c5, _, rfl, r5, c6, _, rfl, r6, c7, _, rfl, r7, c8, _, rfl, r8, rfl⟩ := h
  obtain ⟨y4, rfl⟩ : ∃ y, c4 = [y] := by obtain ⟨v, _, e, _⟩ := r4; exact ⟨v, e⟩
  obtain ⟨y5, rfl⟩ : ∃ y, c5 = [y] := by obtain ⟨v, _, e, _⟩ := r5; exact ⟨v, e⟩
  obtain ⟨y6, rfl⟩ : ∃ y, c6 = [y] := by obtain ⟨v, _, e, _⟩ := r6; exact ⟨v, e⟩
  obtain ⟨y7, rfl⟩ : ∃ y, c7 = [y] := by obtain ⟨v, _, e, _⟩ := r7; exact ⟨v, e⟩
  obtain ⟨y8, rfl⟩ : ∃ y, c8 = [y] := by obtain ⟨v, _, e, _⟩ := r8; exact ⟨v, e⟩
  obtain ⟨A4, cap4, rfl, hlen4, _⟩ := list_at r4
  obtain ⟨A5, cap5, rfl, hlen5, _⟩ := list_at r5
  obtain ⟨A6, cap6, rfl, hlen6, _⟩ := list_at r6
  obtain ⟨A7, cap7, rfl, hlen7, _⟩ := list_at r7
  obtain ⟨A8, cap8, rfl, hlen8, _⟩ := list_at r8
  have R4 := Lib.hid r4; clear r4
  have R5 := Lib.hid r5; clear r5
  have R6 := Lib.hid r6; clear r6
  have R7 := Lib.hid r7; clear r7
  have R8 := Lib.hid r8; clear r8
  simp only [nk_t]
  obtain ⟨C, hC⟩ : ∃ C, C = [Value.int .i64 x0] ++ ([Value.int .i64 x1] ++ ([Value.int .i64 x2] ++ (u8s x3 ++ ([Value.slice A4 (List.length (α := (tBlock).El) x4) cap4] ++ ([Value.slice A5 (List.length (α := (tVote).El) x5) cap5] ++ ([Value.slice A6 (List.length (α := (tTimeout).El) x6) cap6] ++ ([Value.slice A7 (List.length (α := (tCommit).El) x7) cap7] ++ ([Value.slice A8 (List.length (α := (tTx).El) x8) cap8] ++ ([]))))))))) := ⟨_, rfl⟩
  rw [← hC]
  have hf : ∀ w', Blk w' w.heap.size 107 C.toArray → w'.cell? ⟨w.heap.size, 0, none⟩ = some (.int .i64 x0) ∧ w'.cell? ⟨w.heap.size, 1, none⟩ = some (.int .i64 x1) ∧ w'.cell? ⟨w.heap.size, 2, none⟩ = some (.int .i64 x2) ∧ w'.rangeAt w.heap.size 3 (u8s x3) ∧ w'.cell? ⟨w.heap.size, 35, none⟩ = some (.slice A4 (List.length (α := (tBlock).El) x4) cap4) ∧ w'.cell? ⟨w.heap.size, 36, none⟩ = some (.slice A5 (List.length (α := (tVote).El) x5) cap5) ∧ w'.cell? ⟨w.heap.size, 37, none⟩ = some (.slice A6 (List.length (α := (tTimeout).El) x6) cap6) ∧ w'.cell? ⟨w.heap.size, 38, none⟩ = some (.slice A7 (List.length (α := (tCommit).El) x7) cap7) ∧ w'.cell? ⟨w.heap.size, 39, none⟩ = some (.slice A8 (List.length (α := (tTx).El) x8) cap8) := fun w' hb => by
    have := hb.lies [[Value.int .i64 x0], [Value.int .i64 x1], [Value.int .i64 x2], u8s x3, [Value.slice A4 (List.length (α := (tBlock).El) x4) cap4], [Value.slice A5 (List.length (α := (tVote).El) x5) cap5], [Value.slice A6 (List.length (α := (tTimeout).El) x6) cap6], [Value.slice A7 (List.length (α := (tCommit).El) x7) cap7], [Value.slice A8 (List.length (α := (tTx).El) x8) cap8]] [] (by rw [hC]; simp)
    simp only [Lies, u8s_length, l3, List.length_cons, List.length_nil] at this
    obtain ⟨s0, s1, s2, s3, s4, s5, s6, s7, s8, _⟩ := this
    exact ⟨Lies.one s0, Lies.one s1, Lies.one s2, s3, Lies.one s4, Lies.one s5, Lies.one s6, Lies.one s7, Lies.one s8⟩
  have HF := Lib.hid hf
  clear hf hC
  have L3 := Lib.hid l3; clear l3
  have hl' : (joinB [numB x0, numB x1, numB x2, x3, (Sh.list tBlock).enc x4, (Sh.list tVote).enc x5, (Sh.list tTimeout).enc x6, (Sh.list tCommit).enc x7, (Sh.list tTx).enc x8]).length ≤ 1099511627776 := hl
  have HLL := Lib.hid hl'
  clear hl hl'
  have HE4 := Lib.hid (show ((Sh.list tBlock).enc x4).length ≤ 1099511627776 from (by have h1 := HLL.out; rw [joinB_length] at h1; have h2 := joinP_mem (l := [numB x0, numB x1, numB x2, x3, (Sh.list tBlock).enc x4, (Sh.list tVote).enc x5, (Sh.list tTimeout).enc x6, (Sh.list tCommit).enc x7, (Sh.list tTx).enc x8]) (x := (Sh.list tBlock).enc x4) (by simp); omega))
  have hcn4 : (List.length (α := (tBlock).El) x4) ≤ 137438953472 := by
    have h1 := HE4.out
    have h2 := joinP_count (List.map (tBlock).enc x4)
    have h3 : ((Sh.list tBlock).enc x4).length = 8 + (joinP (List.map (tBlock).enc x4)).length := joinB_length _
    rw [List.length_map] at h2
    omega
  have HEJ4 := Lib.hid (show (joinB (List.map (tBlock).enc x4)).length ≤ 140737488355328 from by
    have h1 := HE4.out
    have h3 : ((Sh.list tBlock).enc x4).length = 8 + (joinP (List.map (tBlock).enc x4)).length := joinB_length _
    rw [joinB_length]
    omega)
  have HE5 := Lib.hid (show ((Sh.list tVote).enc x5).length ≤ 1099511627776 from (by have h1 := HLL.out; rw [joinB_length] at h1; have h2 := joinP_mem (l := [numB x0, numB x1, numB x2, x3, (Sh.list tBlock).enc x4, (Sh.list tVote).enc x5, (Sh.list tTimeout).enc x6, (Sh.list tCommit).enc x7, (Sh.list tTx).enc x8]) (x := (Sh.list tVote).enc x5) (by simp); omega))
  have hcn5 : (List.length (α := (tVote).El) x5) ≤ 137438953472 := by
    have h1 := HE5.out
    have h2 := joinP_count (List.map (tVote).enc x5)
    have h3 : ((Sh.list tVote).enc x5).length = 8 + (joinP (List.map (tVote).enc x5)).length := joinB_length _
    rw [List.length_map] at h2
    omega
  have HEJ5 := Lib.hid (show (joinB (List.map (tVote).enc x5)).length ≤ 140737488355328 from by
    have h1 := HE5.out
    have h3 : ((Sh.list tVote).enc x5).length = 8 + (joinP (List.map (tVote).enc x5)).length := joinB_length _
    rw [joinB_length]
    omega)
  have HE6 := Lib.hid (show ((Sh.list tTimeout).enc x6).length ≤ 1099511627776 from (by have h1 := HLL.out; rw [joinB_length] at h1; have h2 := joinP_mem (l := [numB x0, numB x1, numB x2, x3, (Sh.list tBlock).enc x4, (Sh.list tVote).enc x5, (Sh.list tTimeout).enc x6, (Sh.list tCommit).enc x7, (Sh.list tTx).enc x8]) (x := (Sh.list tTimeout).enc x6) (by simp); omega))
  have hcn6 : (List.length (α := (tTimeout).El) x6) ≤ 137438953472 := by
    have h1 := HE6.out
    have h2 := joinP_count (List.map (tTimeout).enc x6)
    have h3 : ((Sh.list tTimeout).enc x6).length = 8 + (joinP (List.map (tTimeout).enc x6)).length := joinB_length _
    rw [List.length_map] at h2
    omega
  have HEJ6 := Lib.hid (show (joinB (List.map (tTimeout).enc x6)).length ≤ 140737488355328 from by
    have h1 := HE6.out
    have h3 : ((Sh.list tTimeout).enc x6).length = 8 + (joinP (List.map (tTimeout).enc x6)).length := joinB_length _
    rw [joinB_length]
    omega)
  have HE7 := Lib.hid (show ((Sh.list tCommit).enc x7).length ≤ 1099511627776 from (by have h1 := HLL.out; rw [joinB_length] at h1; have h2 := joinP_mem (l := [numB x0, numB x1, numB x2, x3, (Sh.list tBlock).enc x4, (Sh.list tVote).enc x5, (Sh.list tTimeout).enc x6, (Sh.list tCommit).enc x7, (Sh.list tTx).enc x8]) (x := (Sh.list tCommit).enc x7) (by simp); omega))
  have hcn7 : (List.length (α := (tCommit).El) x7) ≤ 137438953472 := by
    have h1 := HE7.out
    have h2 := joinP_count (List.map (tCommit).enc x7)
    have h3 : ((Sh.list tCommit).enc x7).length = 8 + (joinP (List.map (tCommit).enc x7)).length := joinB_length _
    rw [List.length_map] at h2
    omega
  have HEJ7 := Lib.hid (show (joinB (List.map (tCommit).enc x7)).length ≤ 140737488355328 from by
    have h1 := HE7.out
    have h3 : ((Sh.list tCommit).enc x7).length = 8 + (joinP (List.map (tCommit).enc x7)).length := joinB_length _
    rw [joinB_length]
    omega)
  have HE8 := Lib.hid (show ((Sh.list tTx).enc x8).length ≤ 1099511627776 from (by have h1 := HLL.out; rw [joinB_length] at h1; have h2 := joinP_mem (l := [numB x0, numB x1, numB x2, x3, (Sh.list tBlock).enc x4, (Sh.list tVote).enc x5, (Sh.list tTimeout).enc x6, (Sh.list tCommit).enc x7, (Sh.list tTx).enc x8]) (x := (Sh.list tTx).enc x8) (by simp); omega))
  have hcn8 : (List.length (α := (tTx).El) x8) ≤ 137438953472 := by
    have h1 := HE8.out
    have h2 := joinP_count (List.map (tTx).enc x8)
    have h3 : ((Sh.list tTx).enc x8).length = 8 + (joinP (List.map (tTx).enc x8)).length := joinB_length _
    rw [List.length_map] at h2
    omega
  have HEJ8 := Lib.hid (show (joinB (List.map (tTx).enc x8)).length ≤ 140737488355328 from by
    have h1 := HE8.out
    have h3 : ((Sh.list tTx).enc x8).length = 8 + (joinP (List.map (tTx).enc x8)).length := joinB_length _
    rw [joinB_length]
    omega)
  go_enter Tryz.func36, Tryz.ntmps36
  go_wp2_with fail
  have hbe := (Below.refl w.heap.size w).alloc (Nat.le_refl _) (.cells C.toArray 107)
  have hal0 : Below (w.heap.size + 1) (w.alloc (.cells C.toArray 107)) ((w.alloc (.cells C.toArray 107)).alloc (.cells #[] 22)) := (Below.refl _ _).alloc (by simp) _
  have hMb : w.heap.size < w.heap.size + 1 := by omega
  go_loopw [3, 4] (fun o i wr => ∃ k : Nat, k ≤ (List.length (α := (tBlock).El) x4) ∧ i = .int .i64 k ∧ Bss wr (fun b => (w.heap.size + 1) ≤ b) (fun b => (w.heap.size + 1) ≤ b) o ((List.take k x4).map (tBlock).enc) ∧ Below w.heap.size w wr ∧ (w.heap.size + 1) ≤ wr.heap.size ∧ Blk wr w.heap.size 107 C.toArray) (fun _ i _ => (List.length (α := (tBlock).El) x4) - (intOf i).toNat)
  case atStart => exact ⟨0, Nat.zero_le _, rfl, Bss.empty1 w _, hbe.alloc (by simp) _, by simp, ((Blk.new w _ _).alloc _)⟩
  case round =>
    obtain ⟨k, hk, rfl, hB, hbl, hMz, hbox⟩ := hrel
    by_cases hlt : k < (List.length (α := (tBlock).El) x4)
    · obtain ⟨R, hR⟩ : ∃ R, R = (List.take k x4).map (tBlock).enc := ⟨_, rfl⟩
      rw [← hR] at hB
      have hRl : R.length = k := by rw [hR, List.length_map, List.length_take]; omega
      have hnext : (List.take (k + 1) x4).map (tBlock).enc = R ++ [(tBlock).enc (x4[k]'hlt)] := by rw [List.take_succ_eq_append_getElem hlt, List.map_append, ← hR]; rfl
      obtain ⟨Aa, ca, rfl⟩ := hB.form
      obtain ⟨_, _, e, _, hat⟩ := list_at (Sh.rep_below R4.out hbl)
      injection e with e1 e2 e3
      subst e1 e3
      obtain ⟨b, off, c, rfl, hca, hr, hcl, hblt, _⟩ := hat k hlt
      obtain ⟨x, hx⟩ : ∃ x, x = x4[k]'hlt := ⟨_, rfl⟩
      rw [← hx] at hr hnext
      have hsm2 : ((tBlock).enc x).length ≤ 1099511627776 := by
        have h1 := joinP_mem (List.mem_map.2 ⟨x4[k]'hlt, List.getElem_mem hlt, rfl⟩ : (tBlock).enc (x4[k]'hlt) ∈ List.map (tBlock).enc x4)
        have h2 := HE4.out
        have h3 : ((Sh.list tBlock).enc x4).length = 8 + (joinP (List.map (tBlock).enc x4)).length := joinB_length _
        rw [hx]; omega
      have hinfo : (Tryz.prog.info? 83).map (·.size) = some c.length := by rw [hcl]; kernel_rfl
      have HCA := Lib.hid (show wr.rangeAt b (off + k * 173) c from hca)
      have HI := Lib.hid hinfo
      clear hinfo
      have HREP := Lib.hid hr
      have HSM := Lib.hid hsm2
      clear hr hsm2
      have hown : ∀ k, (Value.slice Aa R.length ca).ownBlock = some k → k < wr.heap.size := fun k hk => by obtain ⟨vs, ho, _⟩ := hB; exact own_lt ho hk
      have hbc := (HF.out wr hbox).2.2.2.2.1
      have HB := Lib.hid hB
      have HN := Lib.hid hnext
      have HRL := Lib.hid hRl
      have HOWN := Lib.hid hown
      have HBOX := Lib.hid hbox
      clear hB hca hcl hat hx hR hnext hRl hown hbox
      go_wp2_with (refine wpList_load_mid rfl 83 _ rfl b (off + k * 173) rfl c _ HCA.out Tryz.underlying83 rfl HI.out ?_)
      refine (rBlock_any _ HREP.out HSM.out).mono ?_
      rintro e w1 ⟨v1, rfl, f1⟩
      have hb1 := hbl.trans (f1.2.mono hbl.size)
      obtain ⟨y, hy⟩ : ∃ y, y = (tBlock).enc x := ⟨_, rfl⟩
      have f1 : Fresh wr w1 v1 y := hy ▸ f1
      rw [← hy] at HN
      obtain ⟨A1, c1, rfl⟩ := f1.1.form
      obtain ⟨vs, ho, hS, hr⟩ := HB.out.below f1.2
      have hsz1 := f1.2.size
      have hal : Below w1.heap.size w1 (w1.alloc (.cells #[.slice A1 y.length c1] 22)) := (Below.refl _ w1).alloc (Nat.le_refl _) _
      have HAL := Lib.hid hal
      have HO := Lib.hid (show Own (w1.alloc (.cells #[.slice A1 y.length c1] 22)) _ _ _ _ _ from own_keep ho fun k hk => hal.block k (own_lt ho hk))
      have HS := Lib.hid hS
      have HR := Lib.hid (fun i x u h1 h2 => (hr i x u h1 h2).below hal)
      have HU := Lib.hid ((f1.1.1.below hal).sub (T := fun b => (w.heap.size + 1) ≤ b ∧ (Value.slice Aa R.length ca).ownBlock ≠ some b) fun b hb _ => ⟨Nat.le_trans hMz hb.1, fun e => by have := HOWN.out b e; omega⟩)
      have HS2 := Lib.hid (Cs.of_new w1 22 (size := 1) 1 (cs := [.slice A1 y.length c1]) rfl (by simp only [maxLen]; decide))
      have H63 := Lib.hid (show R.length + 1 ≤ maxLen ∧ (R.length + 1) * 24 ≤ 140737488355328 from by have := HRL.out; refine ⟨by simp only [maxLen]; omega, by omega⟩)
      have HF2 := Lib.hid f1.2
      clear ho hS hr hal f1 hy
      go_wp2_with (at_builtin; refine wpList_app _ rfl _ _ _ rfl Tryz.underlying121 info_row rfl (by decide) HO.out rfl HS2.out rfl (by simp [Value.oneCell']) H63.out.1 H63.out.2 ?_; intro v3 w3 ho3 hg3 hnil3 hat3; clear hnil3; have HO3 := Lib.hid ho3; clear ho3; have HG3 := Lib.hid hg3; clear hg3; have HAT3 := Lib.hid hat3; clear hat3)
      have hzz := HAL.out.size
      have hz3 := HG3.out.size
      have hpush := Bss.push HO.out HS.out HR.out HU.out HO3.out HG3.out HAT3.out (by have := hb1.size; omega)
      rw [← HN.out] at hpush
      have hbA : Below w.heap.size w (w1.alloc (.cells #[.slice A1 y.length c1] 22)) := hb1.trans (HAL.out.mono hb1.size)
      have hbw3 := HF2.out.trans (HAL.out.mono hsz1)
      refine ⟨⟨k + 1, by omega, by push_cast; rfl, hpush, hbA.trans (HG3.out.below hbA.size fun b h => by have h1 := HS.out b h; have h2 := HBOX.out.lt; omega), by omega, (HBOX.out.below hbw3 HBOX.out.lt).chg HG3.out fun h => by have h1 := HS.out _ h; have h2 := hMb; omega⟩, ?_⟩
      simp only [intOf]
      omega
    · have hk' : k = (List.length (α := (tBlock).El) x4) := by omega
      rw [hk', List.take_length] at hB
      have hsm : ∀ x ∈ List.map (tBlock).enc x4, x.length ≤ 140737488355328 := fun x hx => by
        have h1 := joinP_mem hx
        have h2 := HE4.out
        have h3 : ((Sh.list tBlock).enc x4).length = 8 + (joinP (List.map (tBlock).enc x4)).length := joinB_length _
        omega
      have hEJ4 := HEJ4.out
      obtain ⟨R4m, hR4m⟩ : ∃ R, R = List.map (tBlock).enc x4 := ⟨_, rfl⟩
      rw [← hR4m] at hB hsm hEJ4
      have HRm4 := Lib.hid hR4m
      have HEK4 := Lib.hid hEJ4
      clear hR4m hEJ4
      have V4 := Lib.hid (((hB.read hsm).lt_ (T := fun _ => True) fun _ _ => trivial).subs (T := fun b => b < wr.heap.size) fun b hb _ => hb.2)
      obtain ⟨Ao4, co4, rfl⟩ := hB.form
      have hbc4 := (HF.out wr hbox).2.2.2.2.1
      clear hB hsm
      obtain ⟨w_4, hw_4⟩ : ∃ w', w' = wr := ⟨_, rfl⟩
      subst hw_4
      have HBX4 := Lib.hid hbox; have hmb4 := hbox.lt; clear hbox
      go_wp2_with fail
      clear hlt hk hk'
      have hal4 : Below w_4.heap.size w_4 (w_4.alloc (.cells #[] 22)) := (Below.refl _ w_4).alloc (Nat.le_refl _) _
      have hMb : w.heap.size < w_4.heap.size := hmb4
      go_loopw [5, 6] (fun o i wr => ∃ k : Nat, k ≤ (List.length (α := (tVote).El) x5) ∧ i = .int .i64 k ∧ Bss wr (fun b => w_4.heap.size ≤ b) (fun b => w_4.heap.size ≤ b) o ((List.take k x5).map (tVote).enc) ∧ Below w.heap.size w wr ∧ w_4.heap.size ≤ wr.heap.size ∧ Blk wr w.heap.size 107 C.toArray ∧ Bsr wr (fun b => b < w_4.heap.size) (.slice Ao4 R4m.length co4) R4m) (fun _ i _ => (List.length (α := (tVote).El) x5) - (intOf i).toNat)
      case atStart => exact ⟨0, Nat.zero_le _, rfl, Bss.empty w_4 (fun b => w_4.heap.size ≤ b) (fun b => w_4.heap.size ≤ b) (Nat.le_refl _), hbl.alloc hbl.size _, by simp, (HBX4.out.below hal4 HBX4.out.lt), (V4.out.below hal4)⟩
      case round =>
        obtain ⟨k, hk, rfl, hB, hbl, hMz, hbox, hp4⟩ := hrel
        by_cases hlt : k < (List.length (α := (tVote).El) x5)
        · obtain ⟨R, hR⟩ : ∃ R, R = (List.take k x5).map (tVote).enc := ⟨_, rfl⟩
          rw [← hR] at hB
          have hRl : R.length = k := by rw [hR, List.length_map, List.length_take]; omega
          have hnext : (List.take (k + 1) x5).map (tVote).enc = R ++ [(tVote).enc (x5[k]'hlt)] := by rw [List.take_succ_eq_append_getElem hlt, List.map_append, ← hR]; rfl
          obtain ⟨Aa, ca, rfl⟩ := hB.form
          obtain ⟨_, _, e, _, hat⟩ := list_at (Sh.rep_below R5.out hbl)
          injection e with e1 e2 e3
          subst e1 e3
          obtain ⟨b, off, c, rfl, hca, hr, hcl, hblt, _⟩ := hat k hlt
          obtain ⟨x, hx⟩ : ∃ x, x = x5[k]'hlt := ⟨_, rfl⟩
          rw [← hx] at hr hnext
          have hsm2 : ((tVote).enc x).length ≤ 1099511627776 := by
            have h1 := joinP_mem (List.mem_map.2 ⟨x5[k]'hlt, List.getElem_mem hlt, rfl⟩ : (tVote).enc (x5[k]'hlt) ∈ List.map (tVote).enc x5)
            have h2 := HE5.out
            have h3 : ((Sh.list tVote).enc x5).length = 8 + (joinP (List.map (tVote).enc x5)).length := joinB_length _
            rw [hx]; omega
          have hinfo : (Tryz.prog.info? 90).map (·.size) = some c.length := by rw [hcl]; kernel_rfl
          have HCA := Lib.hid (show wr.rangeAt b (off + k * 69) c from hca)
          have HI := Lib.hid hinfo
          clear hinfo
          have HREP := Lib.hid hr
          have HSM := Lib.hid hsm2
          clear hr hsm2
          have hown : ∀ k, (Value.slice Aa R.length ca).ownBlock = some k → k < wr.heap.size := fun k hk => by obtain ⟨vs, ho, _⟩ := hB; exact own_lt ho hk
          have hbc := (HF.out wr hbox).2.2.2.2.2.1
          have HB := Lib.hid hB
          have HN := Lib.hid hnext
          have HRL := Lib.hid hRl
          have HOWN := Lib.hid hown
          have HBOX := Lib.hid hbox
          have HP4 := Lib.hid hp4
          clear hB hca hcl hat hx hR hnext hRl hown hbox hp4
          go_wp2_with (refine wpList_load_mid rfl 90 _ rfl b (off + k * 69) rfl c _ HCA.out Tryz.underlying90 rfl HI.out ?_)
          refine (rVote_any _ HREP.out HSM.out).mono ?_
          rintro e w1 ⟨v1, rfl, f1⟩
          have hb1 := hbl.trans (f1.2.mono hbl.size)
          obtain ⟨y, hy⟩ : ∃ y, y = (tVote).enc x := ⟨_, rfl⟩
          have f1 : Fresh wr w1 v1 y := hy ▸ f1
          rw [← hy] at HN
          obtain ⟨A1, c1, rfl⟩ := f1.1.form
          obtain ⟨vs, ho, hS, hr⟩ := HB.out.below f1.2
          have hsz1 := f1.2.size
          have hal : Below w1.heap.size w1 (w1.alloc (.cells #[.slice A1 y.length c1] 22)) := (Below.refl _ w1).alloc (Nat.le_refl _) _
          have HAL := Lib.hid hal
          have HO := Lib.hid (show Own (w1.alloc (.cells #[.slice A1 y.length c1] 22)) _ _ _ _ _ from own_keep ho fun k hk => hal.block k (own_lt ho hk))
          have HS := Lib.hid hS
          have HR := Lib.hid (fun i x u h1 h2 => (hr i x u h1 h2).below hal)
          have HU := Lib.hid ((f1.1.1.below hal).sub (T := fun b => w_4.heap.size ≤ b ∧ (Value.slice Aa R.length ca).ownBlock ≠ some b) fun b hb _ => ⟨Nat.le_trans hMz hb.1, fun e => by have := HOWN.out b e; omega⟩)
          have HS2 := Lib.hid (Cs.of_new w1 22 (size := 1) 1 (cs := [.slice A1 y.length c1]) rfl (by simp only [maxLen]; decide))
          have H63 := Lib.hid (show R.length + 1 ≤ maxLen ∧ (R.length + 1) * 24 ≤ 140737488355328 from by have := HRL.out; refine ⟨by simp only [maxLen]; omega, by omega⟩)
          have HF2 := Lib.hid f1.2
          clear ho hS hr hal f1 hy
          go_wp2_with (at_builtin; refine wpList_app _ rfl _ _ _ rfl Tryz.underlying121 info_row rfl (by decide) HO.out rfl HS2.out rfl (by simp [Value.oneCell']) H63.out.1 H63.out.2 ?_; intro v3 w3 ho3 hg3 hnil3 hat3; clear hnil3; have HO3 := Lib.hid ho3; clear ho3; have HG3 := Lib.hid hg3; clear hg3; have HAT3 := Lib.hid hat3; clear hat3)
          have hzz := HAL.out.size
          have hz3 := HG3.out.size
          have hpush := Bss.push HO.out HS.out HR.out HU.out HO3.out HG3.out HAT3.out (by have := hb1.size; omega)
          rw [← HN.out] at hpush
          have hbA : Below w.heap.size w (w1.alloc (.cells #[.slice A1 y.length c1] 22)) := hb1.trans (HAL.out.mono hb1.size)
          have hbw3 := HF2.out.trans (HAL.out.mono hsz1)
          refine ⟨⟨k + 1, by omega, by push_cast; rfl, hpush, hbA.trans (HG3.out.below hbA.size fun b h => by have h1 := HS.out b h; have h2 := HBOX.out.lt; omega), by omega, (HBOX.out.below hbw3 HBOX.out.lt).chg HG3.out fun h => by have h1 := HS.out _ h; have h2 := hMb; omega, (HP4.out.below hbw3).chg HG3.out fun b hb h => by have := HS.out b h; omega⟩, ?_⟩
          simp only [intOf]
          omega
        · have hk' : k = (List.length (α := (tVote).El) x5) := by omega
          rw [hk', List.take_length] at hB
          have hsm : ∀ x ∈ List.map (tVote).enc x5, x.length ≤ 140737488355328 := fun x hx => by
            have h1 := joinP_mem hx
            have h2 := HE5.out
            have h3 : ((Sh.list tVote).enc x5).length = 8 + (joinP (List.map (tVote).enc x5)).length := joinB_length _
            omega
          have hEJ5 := HEJ5.out
          obtain ⟨R5m, hR5m⟩ : ∃ R, R = List.map (tVote).enc x5 := ⟨_, rfl⟩
          rw [← hR5m] at hB hsm hEJ5
          have HRm5 := Lib.hid hR5m
          have HEK5 := Lib.hid hEJ5
          clear hR5m hEJ5
          have V5 := Lib.hid (((hB.read hsm).lt_ (T := fun _ => True) fun _ _ => trivial).subs (T := fun b => b < wr.heap.size) fun b hb _ => hb.2)
          obtain ⟨Ao5, co5, rfl⟩ := hB.form
          have hbc5 := (HF.out wr hbox).2.2.2.2.2.1
          have V4 := Lib.hid (hp4.subs (T := fun b => b < wr.heap.size) fun b hb _ => ltle hb hMz)
          clear hB hsm hp4
          obtain ⟨w_5, hw_5⟩ : ∃ w', w' = wr := ⟨_, rfl⟩
          subst hw_5
          have HBX5 := Lib.hid hbox; have hmb5 := hbox.lt; clear hbox
          go_wp2_with fail
          clear hlt hk hk'
          have hal5 : Below w_5.heap.size w_5 (w_5.alloc (.cells #[] 22)) := (Below.refl _ w_5).alloc (Nat.le_refl _) _
          have hMb : w.heap.size < w_5.heap.size := hmb5
          go_loopw [7, 8] (fun o i wr => ∃ k : Nat, k ≤ (List.length (α := (tTimeout).El) x6) ∧ i = .int .i64 k ∧ Bss wr (fun b => w_5.heap.size ≤ b) (fun b => w_5.heap.size ≤ b) o ((List.take k x6).map (tTimeout).enc) ∧ Below w.heap.size w wr ∧ w_5.heap.size ≤ wr.heap.size ∧ Blk wr w.heap.size 107 C.toArray ∧ Bsr wr (fun b => b < w_5.heap.size) (.slice Ao4 R4m.length co4) R4m ∧ Bsr wr (fun b => b < w_5.heap.size) (.slice Ao5 R5m.length co5) R5m) (fun _ i _ => (List.length (α := (tTimeout).El) x6) - (intOf i).toNat)
          case atStart => exact ⟨0, Nat.zero_le _, rfl, Bss.empty w_5 (fun b => w_5.heap.size ≤ b) (fun b => w_5.heap.size ≤ b) (Nat.le_refl _), hbl.alloc hbl.size _, by simp, (HBX5.out.below hal5 HBX5.out.lt), (V4.out.below hal5), (V5.out.below hal5)⟩
          case round =>
            obtain ⟨k, hk, rfl, hB, hbl, hMz, hbox, hp4, hp5⟩ := hrel
            by_cases hlt : k < (List.length (α := (tTimeout).El) x6)
            · obtain ⟨R, hR⟩ : ∃ R, R = (List.take k x6).map (tTimeout).enc := ⟨_, rfl⟩
              rw [← hR] at hB
              have hRl : R.length = k := by rw [hR, List.length_map, List.length_take]; omega
              have hnext : (List.take (k + 1) x6).map (tTimeout).enc = R ++ [(tTimeout).enc (x6[k]'hlt)] := by rw [List.take_succ_eq_append_getElem hlt, List.map_append, ← hR]; rfl
              obtain ⟨Aa, ca, rfl⟩ := hB.form
              obtain ⟨_, _, e, _, hat⟩ := list_at (Sh.rep_below R6.out hbl)
              injection e with e1 e2 e3
              subst e1 e3
              obtain ⟨b, off, c, rfl, hca, hr, hcl, hblt, _⟩ := hat k hlt
              obtain ⟨x, hx⟩ : ∃ x, x = x6[k]'hlt := ⟨_, rfl⟩
              rw [← hx] at hr hnext
              have hsm2 : ((tTimeout).enc x).length ≤ 1099511627776 := by
                have h1 := joinP_mem (List.mem_map.2 ⟨x6[k]'hlt, List.getElem_mem hlt, rfl⟩ : (tTimeout).enc (x6[k]'hlt) ∈ List.map (tTimeout).enc x6)
                have h2 := HE6.out
                have h3 : ((Sh.list tTimeout).enc x6).length = 8 + (joinP (List.map (tTimeout).enc x6)).length := joinB_length _
                rw [hx]; omega
              have hinfo : (Tryz.prog.info? 97).map (·.size) = some c.length := by rw [hcl]; kernel_rfl
              have HCA := Lib.hid (show wr.rangeAt b (off + k * 74) c from hca)
              have HI := Lib.hid hinfo
              clear hinfo
              have HREP := Lib.hid hr
              have HSM := Lib.hid hsm2
              clear hr hsm2
              have hown : ∀ k, (Value.slice Aa R.length ca).ownBlock = some k → k < wr.heap.size := fun k hk => by obtain ⟨vs, ho, _⟩ := hB; exact own_lt ho hk
              have hbc := (HF.out wr hbox).2.2.2.2.2.2.1
              have HB := Lib.hid hB
              have HN := Lib.hid hnext
              have HRL := Lib.hid hRl
              have HOWN := Lib.hid hown
              have HBOX := Lib.hid hbox
              have HP4 := Lib.hid hp4
              have HP5 := Lib.hid hp5
              clear hB hca hcl hat hx hR hnext hRl hown hbox hp4 hp5
              go_wp2_with (refine wpList_load_mid rfl 97 _ rfl b (off + k * 74) rfl c _ HCA.out Tryz.underlying97 rfl HI.out ?_)
              refine (rTimeout_any _ HREP.out HSM.out).mono ?_
              rintro e w1 ⟨v1, rfl, f1⟩
              have hb1 := hbl.trans (f1.2.mono hbl.size)
              obtain ⟨y, hy⟩ : ∃ y, y = (tTimeout).enc x := ⟨_, rfl⟩
              have f1 : Fresh wr w1 v1 y := hy ▸ f1
              rw [← hy] at HN
              obtain ⟨A1, c1, rfl⟩ := f1.1.form
              obtain ⟨vs, ho, hS, hr⟩ := HB.out.below f1.2
              have hsz1 := f1.2.size
              have hal : Below w1.heap.size w1 (w1.alloc (.cells #[.slice A1 y.length c1] 22)) := (Below.refl _ w1).alloc (Nat.le_refl _) _
              have HAL := Lib.hid hal
              have HO := Lib.hid (show Own (w1.alloc (.cells #[.slice A1 y.length c1] 22)) _ _ _ _ _ from own_keep ho fun k hk => hal.block k (own_lt ho hk))
              have HS := Lib.hid hS
              have HR := Lib.hid (fun i x u h1 h2 => (hr i x u h1 h2).below hal)
              have HU := Lib.hid ((f1.1.1.below hal).sub (T := fun b => w_5.heap.size ≤ b ∧ (Value.slice Aa R.length ca).ownBlock ≠ some b) fun b hb _ => ⟨Nat.le_trans hMz hb.1, fun e => by have := HOWN.out b e; omega⟩)
              have HS2 := Lib.hid (Cs.of_new w1 22 (size := 1) 1 (cs := [.slice A1 y.length c1]) rfl (by simp only [maxLen]; decide))
              have H63 := Lib.hid (show R.length + 1 ≤ maxLen ∧ (R.length + 1) * 24 ≤ 140737488355328 from by have := HRL.out; refine ⟨by simp only [maxLen]; omega, by omega⟩)
              have HF2 := Lib.hid f1.2
              clear ho hS hr hal f1 hy
              go_wp2_with (at_builtin; refine wpList_app _ rfl _ _ _ rfl Tryz.underlying121 info_row rfl (by decide) HO.out rfl HS2.out rfl (by simp [Value.oneCell']) H63.out.1 H63.out.2 ?_; intro v3 w3 ho3 hg3 hnil3 hat3; clear hnil3; have HO3 := Lib.hid ho3; clear ho3; have HG3 := Lib.hid hg3; clear hg3; have HAT3 := Lib.hid hat3; clear hat3)
              have hzz := HAL.out.size
              have hz3 := HG3.out.size
              have hpush := Bss.push HO.out HS.out HR.out HU.out HO3.out HG3.out HAT3.out (by have := hb1.size; omega)
              rw [← HN.out] at hpush
              have hbA : Below w.heap.size w (w1.alloc (.cells #[.slice A1 y.length c1] 22)) := hb1.trans (HAL.out.mono hb1.size)
              have hbw3 := HF2.out.trans (HAL.out.mono hsz1)
              refine ⟨⟨k + 1, by omega, by push_cast; rfl, hpush, hbA.trans (HG3.out.below hbA.size fun b h => by have h1 := HS.out b h; have h2 := HBOX.out.lt; omega), by omega, (HBOX.out.below hbw3 HBOX.out.lt).chg HG3.out fun h => by have h1 := HS.out _ h; have h2 := hMb; omega, (HP4.out.below hbw3).chg HG3.out fun b hb h => by have := HS.out b h; omega, (HP5.out.below hbw3).chg HG3.out fun b hb h => by have := HS.out b h; omega⟩, ?_⟩
              simp only [intOf]
              omega
            · have hk' : k = (List.length (α := (tTimeout).El) x6) := by omega
              rw [hk', List.take_length] at hB
              have hsm : ∀ x ∈ List.map (tTimeout).enc x6, x.length ≤ 140737488355328 := fun x hx => by
                have h1 := joinP_mem hx
                have h2 := HE6.out
                have h3 : ((Sh.list tTimeout).enc x6).length = 8 + (joinP (List.map (tTimeout).enc x6)).length := joinB_length _
                omega
              have hEJ6 := HEJ6.out
              obtain ⟨R6m, hR6m⟩ : ∃ R, R = List.map (tTimeout).enc x6 := ⟨_, rfl⟩
              rw [← hR6m] at hB hsm hEJ6
              have HRm6 := Lib.hid hR6m
              have HEK6 := Lib.hid hEJ6
              clear hR6m hEJ6
              have V6 := Lib.hid (((hB.read hsm).lt_ (T := fun _ => True) fun _ _ => trivial).subs (T := fun b => b < wr.heap.size) fun b hb _ => hb.2)
              obtain ⟨Ao6, co6, rfl⟩ := hB.form
              have hbc6 := (HF.out wr hbox).2.2.2.2.2.2.1
              have V4 := Lib.hid (hp4.subs (T := fun b => b < wr.heap.size) fun b hb _ => ltle hb hMz)
              have V5 := Lib.hid (hp5.subs (T := fun b => b < wr.heap.size) fun b hb _ => ltle hb hMz)
              clear hB hsm hp4 hp5
              obtain ⟨w_6, hw_6⟩ : ∃ w', w' = wr := ⟨_, rfl⟩
              subst hw_6
              have HBX6 := Lib.hid hbox; have hmb6 := hbox.lt; clear hbox
              go_wp2_with fail
              clear hlt hk hk'
              have hal6 : Below w_6.heap.size w_6 (w_6.alloc (.cells #[] 22)) := (Below.refl _ w_6).alloc (Nat.le_refl _) _
              have hMb : w.heap.size < w_6.heap.size := hmb6
              go_loopw [9, 10] (fun o i wr => ∃ k : Nat, k ≤ (List.length (α := (tCommit).El) x7) ∧ i = .int .i64 k ∧ Bss wr (fun b => w_6.heap.size ≤ b) (fun b => w_6.heap.size ≤ b) o ((List.take k x7).map (tCommit).enc) ∧ Below w.heap.size w wr ∧ w_6.heap.size ≤ wr.heap.size ∧ Blk wr w.heap.size 107 C.toArray ∧ Bsr wr (fun b => b < w_6.heap.size) (.slice Ao4 R4m.length co4) R4m ∧ Bsr wr (fun b => b < w_6.heap.size) (.slice Ao5 R5m.length co5) R5m ∧ Bsr wr (fun b => b < w_6.heap.size) (.slice Ao6 R6m.length co6) R6m) (fun _ i _ => (List.length (α := (tCommit).El) x7) - (intOf i).toNat)
              case atStart => exact ⟨0, Nat.zero_le _, rfl, Bss.empty w_6 (fun b => w_6.heap.size ≤ b) (fun b => w_6.heap.size ≤ b) (Nat.le_refl _), hbl.alloc hbl.size _, by simp, (HBX6.out.below hal6 HBX6.out.lt), (V4.out.below hal6), (V5.out.below hal6), (V6.out.below hal6)⟩
              case round =>
                obtain ⟨k, hk, rfl, hB, hbl, hMz, hbox, hp4, hp5, hp6⟩ := hrel
                by_cases hlt : k < (List.length (α := (tCommit).El) x7)
                · obtain ⟨R, hR⟩ : ∃ R, R = (List.take k x7).map (tCommit).enc := ⟨_, rfl⟩
                  rw [← hR] at hB
                  have hRl : R.length = k := by rw [hR, List.length_map, List.length_take]; omega
                  have hnext : (List.take (k + 1) x7).map (tCommit).enc = R ++ [(tCommit).enc (x7[k]'hlt)] := by rw [List.take_succ_eq_append_getElem hlt, List.map_append, ← hR]; rfl
                  obtain ⟨Aa, ca, rfl⟩ := hB.form
                  obtain ⟨_, _, e, _, hat⟩ := list_at (Sh.rep_below R7.out hbl)
                  injection e with e1 e2 e3
                  subst e1 e3
                  obtain ⟨b, off, c, rfl, hca, hr, hcl, hblt, _⟩ := hat k hlt
                  obtain ⟨x, hx⟩ : ∃ x, x = x7[k]'hlt := ⟨_, rfl⟩
                  rw [← hx] at hr hnext
                  have hsm2 : ((tCommit).enc x).length ≤ 1099511627776 := by
                    have h1 := joinP_mem (List.mem_map.2 ⟨x7[k]'hlt, List.getElem_mem hlt, rfl⟩ : (tCommit).enc (x7[k]'hlt) ∈ List.map (tCommit).enc x7)
                    have h2 := HE7.out
                    have h3 : ((Sh.list tCommit).enc x7).length = 8 + (joinP (List.map (tCommit).enc x7)).length := joinB_length _
                    rw [hx]; omega
                  have hinfo : (Tryz.prog.info? 54).map (·.size) = some c.length := by rw [hcl]; kernel_rfl
                  have HCA := Lib.hid (show wr.rangeAt b (off + k * 38) c from hca)
                  have HI := Lib.hid hinfo
                  clear hinfo
                  have HREP := Lib.hid hr
                  have HSM := Lib.hid hsm2
                  clear hr hsm2
                  have hown : ∀ k, (Value.slice Aa R.length ca).ownBlock = some k → k < wr.heap.size := fun k hk => by obtain ⟨vs, ho, _⟩ := hB; exact own_lt ho hk
                  have hbc := (HF.out wr hbox).2.2.2.2.2.2.2.1
                  have HB := Lib.hid hB
                  have HN := Lib.hid hnext
                  have HRL := Lib.hid hRl
                  have HOWN := Lib.hid hown
                  have HBOX := Lib.hid hbox
                  have HP4 := Lib.hid hp4
                  have HP5 := Lib.hid hp5
                  have HP6 := Lib.hid hp6
                  clear hB hca hcl hat hx hR hnext hRl hown hbox hp4 hp5 hp6
                  go_wp2_with (refine wpList_load_mid rfl 54 _ rfl b (off + k * 38) rfl c _ HCA.out Tryz.underlying54 rfl HI.out ?_)
                  refine (rCommit_any _ HREP.out HSM.out).mono ?_
                  rintro e w1 ⟨v1, rfl, f1⟩
                  have hb1 := hbl.trans (f1.2.mono hbl.size)
                  obtain ⟨y, hy⟩ : ∃ y, y = (tCommit).enc x := ⟨_, rfl⟩
                  have f1 : Fresh wr w1 v1 y := hy ▸ f1
                  rw [← hy] at HN
                  obtain ⟨A1, c1, rfl⟩ := f1.1.form
                  obtain ⟨vs, ho, hS, hr⟩ := HB.out.below f1.2
                  have hsz1 := f1.2.size
                  have hal : Below w1.heap.size w1 (w1.alloc (.cells #[.slice A1 y.length c1] 22)) := (Below.refl _ w1).alloc (Nat.le_refl _) _
                  have HAL := Lib.hid hal
                  have HO := Lib.hid (show Own (w1.alloc (.cells #[.slice A1 y.length c1] 22)) _ _ _ _ _ from own_keep ho fun k hk => hal.block k (own_lt ho hk))
                  have HS := Lib.hid hS
                  have HR := Lib.hid (fun i x u h1 h2 => (hr i x u h1 h2).below hal)
                  have HU := Lib.hid ((f1.1.1.below hal).sub (T := fun b => w_6.heap.size ≤ b ∧ (Value.slice Aa R.length ca).ownBlock ≠ some b) fun b hb _ => ⟨Nat.le_trans hMz hb.1, fun e => by have := HOWN.out b e; omega⟩)
                  have HS2 := Lib.hid (Cs.of_new w1 22 (size := 1) 1 (cs := [.slice A1 y.length c1]) rfl (by simp only [maxLen]; decide))
                  have H63 := Lib.hid (show R.length + 1 ≤ maxLen ∧ (R.length + 1) * 24 ≤ 140737488355328 from by have := HRL.out; refine ⟨by simp only [maxLen]; omega, by omega⟩)
                  have HF2 := Lib.hid f1.2
                  clear ho hS hr hal f1 hy
                  go_wp2_with (at_builtin; refine wpList_app _ rfl _ _ _ rfl Tryz.underlying121 info_row rfl (by decide) HO.out rfl HS2.out rfl (by simp [Value.oneCell']) H63.out.1 H63.out.2 ?_; intro v3 w3 ho3 hg3 hnil3 hat3; clear hnil3; have HO3 := Lib.hid ho3; clear ho3; have HG3 := Lib.hid hg3; clear hg3; have HAT3 := Lib.hid hat3; clear hat3)
                  have hzz := HAL.out.size
                  have hz3 := HG3.out.size
                  have hpush := Bss.push HO.out HS.out HR.out HU.out HO3.out HG3.out HAT3.out (by have := hb1.size; omega)
                  rw [← HN.out] at hpush
                  have hbA : Below w.heap.size w (w1.alloc (.cells #[.slice A1 y.length c1] 22)) := hb1.trans (HAL.out.mono hb1.size)
                  have hbw3 := HF2.out.trans (HAL.out.mono hsz1)
                  refine ⟨⟨k + 1, by omega, by push_cast; rfl, hpush, hbA.trans (HG3.out.below hbA.size fun b h => by have h1 := HS.out b h; have h2 := HBOX.out.lt; omega), by omega, (HBOX.out.below hbw3 HBOX.out.lt).chg HG3.out fun h => by have h1 := HS.out _ h; have h2 := hMb; omega, (HP4.out.below hbw3).chg HG3.out fun b hb h => by have := HS.out b h; omega, (HP5.out.below hbw3).chg HG3.out fun b hb h => by have := HS.out b h; omega, (HP6.out.below hbw3).chg HG3.out fun b hb h => by have := HS.out b h; omega⟩, ?_⟩
                  simp only [intOf]
                  omega
                · have hk' : k = (List.length (α := (tCommit).El) x7) := by omega
                  rw [hk', List.take_length] at hB
                  have hsm : ∀ x ∈ List.map (tCommit).enc x7, x.length ≤ 140737488355328 := fun x hx => by
                    have h1 := joinP_mem hx
                    have h2 := HE7.out
                    have h3 : ((Sh.list tCommit).enc x7).length = 8 + (joinP (List.map (tCommit).enc x7)).length := joinB_length _
                    omega
                  have hEJ7 := HEJ7.out
                  obtain ⟨R7m, hR7m⟩ : ∃ R, R = List.map (tCommit).enc x7 := ⟨_, rfl⟩
                  rw [← hR7m] at hB hsm hEJ7
                  have HRm7 := Lib.hid hR7m
                  have HEK7 := Lib.hid hEJ7
                  clear hR7m hEJ7
                  have V7 := Lib.hid (((hB.read hsm).lt_ (T := fun _ => True) fun _ _ => trivial).subs (T := fun b => b < wr.heap.size) fun b hb _ => hb.2)
                  obtain ⟨Ao7, co7, rfl⟩ := hB.form
                  have hbc7 := (HF.out wr hbox).2.2.2.2.2.2.2.1
                  have V4 := Lib.hid (hp4.subs (T := fun b => b < wr.heap.size) fun b hb _ => ltle hb hMz)
                  have V5 := Lib.hid (hp5.subs (T := fun b => b < wr.heap.size) fun b hb _ => ltle hb hMz)
                  have V6 := Lib.hid (hp6.subs (T := fun b => b < wr.heap.size) fun b hb _ => ltle hb hMz)
                  clear hB hsm hp4 hp5 hp6
                  obtain ⟨w_7, hw_7⟩ : ∃ w', w' = wr := ⟨_, rfl⟩
                  subst hw_7
                  have HBX7 := Lib.hid hbox; have hmb7 := hbox.lt; clear hbox
                  go_wp2_with fail
                  clear hlt hk hk'
                  have hal7 : Below w_7.heap.size w_7 (w_7.alloc (.cells #[] 22)) := (Below.refl _ w_7).alloc (Nat.le_refl _) _
                  have hMb : w.heap.size < w_7.heap.size := hmb7
                  go_loopw [11, 12] (fun o i wr => ∃ k : Nat, k ≤ (List.length (α := (tTx).El) x8) ∧ i = .int .i64 k ∧ Bss wr (fun b => w_7.heap.size ≤ b) (fun b => w_7.heap.size ≤ b) o ((List.take k x8).map (tTx).enc) ∧ Below w.heap.size w wr ∧ w_7.heap.size ≤ wr.heap.size ∧ Blk wr w.heap.size 107 C.toArray ∧ Bsr wr (fun b => b < w_7.heap.size) (.slice Ao4 R4m.length co4) R4m ∧ Bsr wr (fun b => b < w_7.heap.size) (.slice Ao5 R5m.length co5) R5m ∧ Bsr wr (fun b => b < w_7.heap.size) (.slice Ao6 R6m.length co6) R6m ∧ Bsr wr (fun b => b < w_7.heap.size) (.slice Ao7 R7m.length co7) R7m) (fun _ i _ => (List.length (α := (tTx).El) x8) - (intOf i).toNat)
                  case atStart => exact ⟨0, Nat.zero_le _, rfl, Bss.empty w_7 (fun b => w_7.heap.size ≤ b) (fun b => w_7.heap.size ≤ b) (Nat.le_refl _), hbl.alloc hbl.size _, by simp, (HBX7.out.below hal7 HBX7.out.lt), (V4.out.below hal7), (V5.out.below hal7), (V6.out.below hal7), (V7.out.below hal7)⟩
                  case round =>
                    obtain ⟨k, hk, rfl, hB, hbl, hMz, hbox, hp4, hp5, hp6, hp7⟩ := hrel
                    by_cases hlt : k < (List.length (α := (tTx).El) x8)
                    · obtain ⟨R, hR⟩ : ∃ R, R = (List.take k x8).map (tTx).enc := ⟨_, rfl⟩
                      rw [← hR] at hB
                      have hRl : R.length = k := by rw [hR, List.length_map, List.length_take]; omega
                      have hnext : (List.take (k + 1) x8).map (tTx).enc = R ++ [(tTx).enc (x8[k]'hlt)] := by rw [List.take_succ_eq_append_getElem hlt, List.map_append, ← hR]; rfl
                      obtain ⟨Aa, ca, rfl⟩ := hB.form
                      obtain ⟨_, _, e, _, hat⟩ := list_at (Sh.rep_below R8.out hbl)
                      injection e with e1 e2 e3
                      subst e1 e3
                      obtain ⟨b, off, c, rfl, hca, hr, hcl, hblt, _⟩ := hat k hlt
                      obtain ⟨x, hx⟩ : ∃ x, x = x8[k]'hlt := ⟨_, rfl⟩
                      rw [← hx] at hr hnext
                      have hsm2 : ((tTx).enc x).length ≤ 1099511627776 := by
                        have h1 := joinP_mem (List.mem_map.2 ⟨x8[k]'hlt, List.getElem_mem hlt, rfl⟩ : (tTx).enc (x8[k]'hlt) ∈ List.map (tTx).enc x8)
                        have h2 := HE8.out
                        have h3 : ((Sh.list tTx).enc x8).length = 8 + (joinP (List.map (tTx).enc x8)).length := joinB_length _
                        rw [hx]; omega
                      have hinfo : (Tryz.prog.info? 72).map (·.size) = some c.length := by rw [hcl]; kernel_rfl
                      have HCA := Lib.hid (show wr.rangeAt b (off + k * 41) c from hca)
                      have HI := Lib.hid hinfo
                      clear hinfo
                      have HREP := Lib.hid hr
                      have HSM := Lib.hid hsm2
                      clear hr hsm2
                      have hown : ∀ k, (Value.slice Aa R.length ca).ownBlock = some k → k < wr.heap.size := fun k hk => by obtain ⟨vs, ho, _⟩ := hB; exact own_lt ho hk
                      have hbc := (HF.out wr hbox).2.2.2.2.2.2.2.2
                      have HB := Lib.hid hB
                      have HN := Lib.hid hnext
                      have HRL := Lib.hid hRl
                      have HOWN := Lib.hid hown
                      have HBOX := Lib.hid hbox
                      have HP4 := Lib.hid hp4
                      have HP5 := Lib.hid hp5
                      have HP6 := Lib.hid hp6
                      have HP7 := Lib.hid hp7
                      clear hB hca hcl hat hx hR hnext hRl hown hbox hp4 hp5 hp6 hp7
                      go_wp2_with (refine wpList_load_mid rfl 72 _ rfl b (off + k * 41) rfl c _ HCA.out Tryz.underlying72 rfl HI.out ?_)
                      refine (rTx_any _ HREP.out HSM.out).mono ?_
                      rintro e w1 ⟨v1, rfl, f1⟩
                      have hb1 := hbl.trans (f1.2.mono hbl.size)
                      obtain ⟨y, hy⟩ : ∃ y, y = (tTx).enc x := ⟨_, rfl⟩
                      have f1 : Fresh wr w1 v1 y := hy ▸ f1
                      rw [← hy] at HN
                      obtain ⟨A1, c1, rfl⟩ := f1.1.form
                      obtain ⟨vs, ho, hS, hr⟩ := HB.out.below f1.2
                      have hsz1 := f1.2.size
                      have hal : Below w1.heap.size w1 (w1.alloc (.cells #[.slice A1 y.length c1] 22)) := (Below.refl _ w1).alloc (Nat.le_refl _) _
                      have HAL := Lib.hid hal
                      have HO := Lib.hid (show Own (w1.alloc (.cells #[.slice A1 y.length c1] 22)) _ _ _ _ _ from own_keep ho fun k hk => hal.block k (own_lt ho hk))
                      have HS := Lib.hid hS
                      have HR := Lib.hid (fun i x u h1 h2 => (hr i x u h1 h2).below hal)
                      have HU := Lib.hid ((f1.1.1.below hal).sub (T := fun b => w_7.heap.size ≤ b ∧ (Value.slice Aa R.length ca).ownBlock ≠ some b) fun b hb _ => ⟨Nat.le_trans hMz hb.1, fun e => by have := HOWN.out b e; omega⟩)
                      have HS2 := Lib.hid (Cs.of_new w1 22 (size := 1) 1 (cs := [.slice A1 y.length c1]) rfl (by simp only [maxLen]; decide))
                      have H63 := Lib.hid (show R.length + 1 ≤ maxLen ∧ (R.length + 1) * 24 ≤ 140737488355328 from by have := HRL.out; refine ⟨by simp only [maxLen]; omega, by omega⟩)
                      have HF2 := Lib.hid f1.2
                      clear ho hS hr hal f1 hy
                      go_wp2_with (at_builtin; refine wpList_app _ rfl _ _ _ rfl Tryz.underlying121 info_row rfl (by decide) HO.out rfl HS2.out rfl (by simp [Value.oneCell']) H63.out.1 H63.out.2 ?_; intro v3 w3 ho3 hg3 hnil3 hat3; clear hnil3; have HO3 := Lib.hid ho3; clear ho3; have HG3 := Lib.hid hg3; clear hg3; have HAT3 := Lib.hid hat3; clear hat3)
                      have hzz := HAL.out.size
                      have hz3 := HG3.out.size
                      have hpush := Bss.push HO.out HS.out HR.out HU.out HO3.out HG3.out HAT3.out (by have := hb1.size; omega)
                      rw [← HN.out] at hpush
                      have hbA : Below w.heap.size w (w1.alloc (.cells #[.slice A1 y.length c1] 22)) := hb1.trans (HAL.out.mono hb1.size)
                      have hbw3 := HF2.out.trans (HAL.out.mono hsz1)
                      refine ⟨⟨k + 1, by omega, by push_cast; rfl, hpush, hbA.trans (HG3.out.below hbA.size fun b h => by have h1 := HS.out b h; have h2 := HBOX.out.lt; omega), by omega, (HBOX.out.below hbw3 HBOX.out.lt).chg HG3.out fun h => by have h1 := HS.out _ h; have h2 := hMb; omega, (HP4.out.below hbw3).chg HG3.out fun b hb h => by have := HS.out b h; omega, (HP5.out.below hbw3).chg HG3.out fun b hb h => by have := HS.out b h; omega, (HP6.out.below hbw3).chg HG3.out fun b hb h => by have := HS.out b h; omega, (HP7.out.below hbw3).chg HG3.out fun b hb h => by have := HS.out b h; omega⟩, ?_⟩
                      simp only [intOf]
                      omega
                    · have hk' : k = (List.length (α := (tTx).El) x8) := by omega
                      rw [hk', List.take_length] at hB
                      have hsm : ∀ x ∈ List.map (tTx).enc x8, x.length ≤ 140737488355328 := fun x hx => by
                        have h1 := joinP_mem hx
                        have h2 := HE8.out
                        have h3 : ((Sh.list tTx).enc x8).length = 8 + (joinP (List.map (tTx).enc x8)).length := joinB_length _
                        omega
                      have hEJ8 := HEJ8.out
                      obtain ⟨R8m, hR8m⟩ : ∃ R, R = List.map (tTx).enc x8 := ⟨_, rfl⟩
                      rw [← hR8m] at hB hsm hEJ8
                      have HRm8 := Lib.hid hR8m
                      have HEK8 := Lib.hid hEJ8
                      clear hR8m hEJ8
                      have V8 := Lib.hid (((hB.read hsm).lt_ (T := fun _ => True) fun _ _ => trivial).subs (T := fun b => b < wr.heap.size) fun b hb _ => hb.2)
                      obtain ⟨Ao8, co8, rfl⟩ := hB.form
                      have hbc8 := (HF.out wr hbox).2.2.2.2.2.2.2.2
                      have V4 := Lib.hid (hp4.subs (T := fun b => b < wr.heap.size) fun b hb _ => ltle hb hMz)
                      have V5 := Lib.hid (hp5.subs (T := fun b => b < wr.heap.size) fun b hb _ => ltle hb hMz)
                      have V6 := Lib.hid (hp6.subs (T := fun b => b < wr.heap.size) fun b hb _ => ltle hb hMz)
                      have V7 := Lib.hid (hp7.subs (T := fun b => b < wr.heap.size) fun b hb _ => ltle hb hMz)
                      clear hB hsm hp4 hp5 hp6 hp7
                      obtain ⟨w_8, hw_8⟩ : ∃ w', w' = wr := ⟨_, rfl⟩
                      subst hw_8
                      have HBX8 := Lib.hid hbox; have hmb8 := hbox.lt; clear hbox
                      go_wp2_with fail
                      clear hlt hk hk'
                      have hsz := HBX8.out.lt
                      have hb0 : Blk w_8.drew w.heap.size 107 C.toArray := HBX8.out.drew
                      have hbw : Below w.heap.size w w_8.drew := (hbl).drew
                      have D3 := Lib.hid (Bs.of_range32 (S := fun b => b = w.heap.size) rfl hb0.lt ((HF.out _ hb0).2.2.2.1) L3.out)
                      refine wp_region_hoist [0, 1, 2, 4, 5, 6, 8, 9, 10, 12, 13, 14, 16, 18, 20, 22] [3, 7, 11, 15, 17, 19, 21, 23] [24, 25, 26] (fun w' => Blk w' w.heap.size 107 C.toArray)
                        (by kernel_rfl) (by kernel_rfl) (by kernel_rfl) (by kernel_rfl) (by kernel_rfl) (by kernel_rfl) hb0 ?_
                      (refine HoistK.yes (by rfl) (by kernel_rfl) ⟨?_, fun w' hSw => ?_, ?_⟩; rotate_left; (· go_simp; try with_reducible rfl); simp only [Act.put, setIfInBounds_toArray, getElem_toArray, getElem_cons_zero, set_cons_succ, set_cons_zero])
                      (refine HoistK.yes (by rfl) (by kernel_rfl) ⟨?_, fun w' hSw => ?_, ?_⟩; rotate_left; (· obtain ⟨s0, s1, s2, s3, s4, s5, s6, s7, s8⟩ := HF.out _ hSw; go_simp; try with_reducible rfl); simp only [Act.put, setIfInBounds_toArray, getElem_toArray, getElem_cons_succ, getElem_cons_zero, set_cons_succ, set_cons_zero])
                      iterate 2 (refine HoistK.yes (by rfl) (by kernel_rfl) ⟨?_, fun w' hSw => ?_, ?_⟩; rotate_left; (· go_simp; try with_reducible rfl); simp only [Act.put, setIfInBounds_toArray, getElem_toArray, getElem_cons_succ, getElem_cons_zero, set_cons_succ, set_cons_zero])
                      (refine HoistK.yes (by rfl) (by kernel_rfl) ⟨?_, fun w' hSw => ?_, ?_⟩; rotate_left; (· obtain ⟨s0, s1, s2, s3, s4, s5, s6, s7, s8⟩ := HF.out _ hSw; go_simp; try with_reducible rfl); simp only [Act.put, setIfInBounds_toArray, getElem_toArray, getElem_cons_succ, getElem_cons_zero, set_cons_succ, set_cons_zero])
                      iterate 2 (refine HoistK.yes (by rfl) (by kernel_rfl) ⟨?_, fun w' hSw => ?_, ?_⟩; rotate_left; (· go_simp; try with_reducible rfl); simp only [Act.put, setIfInBounds_toArray, getElem_toArray, getElem_cons_succ, getElem_cons_zero, set_cons_succ, set_cons_zero])
                      (refine HoistK.yes (by rfl) (by kernel_rfl) ⟨?_, fun w' hSw => ?_, ?_⟩; rotate_left; (· obtain ⟨s0, s1, s2, s3, s4, s5, s6, s7, s8⟩ := HF.out _ hSw; go_simp; try with_reducible rfl); simp only [Act.put, setIfInBounds_toArray, getElem_toArray, getElem_cons_succ, getElem_cons_zero, set_cons_succ, set_cons_zero])
                      iterate 8 (refine HoistK.yes (by rfl) (by kernel_rfl) ⟨?_, fun w' hSw => ?_, ?_⟩; rotate_left; (· go_simp; try with_reducible rfl); simp only [Act.put, setIfInBounds_toArray, getElem_toArray, getElem_cons_succ, getElem_cons_zero, set_cons_succ, set_cons_zero])
                      refine HoistK.nil_ ?_
                      simp only [opsAt, filterMap_cons, filterMap_nil, getElem?_toArray, getElem?_cons_succ, getElem?_cons_zero]
                      have g0 : Got w_8.drew w_8.drew [] [] := Got.start (Below.refl _ _)
                      refine Effects.cons_ fun _ hQ1 => ?_
                      go_wp2_with fail
                      refine (rNumI_any _ _).mono ?_
                      rintro e u1 ⟨v1, rfl, f1⟩
                      have g1 := g0.step f1
                      have hb1 := hb0.below f1.2 hb0.lt
                      clear f1
                      go_wp2_with fail
                      refine hQ1 _ _ hb1 (Effects.cons_ fun _ hQ2 => ?_)
                      clear hQ1 hb0 g0
                      go_wp2_with fail
                      refine (rNumI_any _ _).mono ?_
                      rintro e u2 ⟨v2, rfl, f2⟩
                      have g2 := g1.step f2
                      have hb2 := hb1.below f2.2 hb1.lt
                      clear f2
                      go_wp2_with fail
                      refine hQ2 _ _ hb2 (Effects.cons_ fun _ hQ3 => ?_)
                      clear hQ2 hb1 g1
                      go_wp2_with fail
                      refine (rNumI_any _ _).mono ?_
                      rintro e u3 ⟨v3, rfl, f3⟩
                      have g3 := g2.step f3
                      have hb3 := hb2.below f3.2 hb2.lt
                      clear f3
                      go_wp2_with fail
                      refine hQ3 _ _ hb3 (Effects.cons_ fun _ hQ4 => ?_)
                      clear hQ3 hb2 g2
                      have g4 := g3.old D3.out
                      clear g3
                      go_wp2_with fail
                      refine (rJoin_any _ (V4.out.drew_.below g4.1) HEK4.out (fun b hb => ltle hb g4.1.size)).mono ?_
                      rintro e u4 ⟨v5, rfl, f4⟩
                      rw [HRm4.out] at f4
                      have f4 : Fresh _ _ _ ((Sh.list tBlock).enc x4) := f4
                      have g5 := g4.step f4
                      have hb4 := hb3.below f4.2 hb3.lt
                      clear f4
                      go_wp2_with fail
                      refine hQ4 _ _ hb4 (Effects.cons_ fun _ hQ5 => ?_)
                      clear hQ4 hb3 g4
                      go_wp2_with fail
                      refine (rJoin_any _ (V5.out.drew_.below g5.1) HEK5.out (fun b hb => ltle hb g5.1.size)).mono ?_
                      rintro e u5 ⟨v6, rfl, f5⟩
                      rw [HRm5.out] at f5
                      have f5 : Fresh _ _ _ ((Sh.list tVote).enc x5) := f5
                      have g6 := g5.step f5
                      have hb5 := hb4.below f5.2 hb4.lt
                      clear f5
                      go_wp2_with fail
                      refine hQ5 _ _ hb5 (Effects.cons_ fun _ hQ6 => ?_)
                      clear hQ5 hb4 g5
                      go_wp2_with fail
                      refine (rJoin_any _ (V6.out.drew_.below g6.1) HEK6.out (fun b hb => ltle hb g6.1.size)).mono ?_
                      rintro e u6 ⟨v7, rfl, f6⟩
                      rw [HRm6.out] at f6
                      have f6 : Fresh _ _ _ ((Sh.list tTimeout).enc x6) := f6
                      have g7 := g6.step f6
                      have hb6 := hb5.below f6.2 hb5.lt
                      clear f6
                      go_wp2_with fail
                      refine hQ6 _ _ hb6 (Effects.cons_ fun _ hQ7 => ?_)
                      clear hQ6 hb5 g6
                      go_wp2_with fail
                      refine (rJoin_any _ (V7.out.drew_.below g7.1) HEK7.out (fun b hb => ltle hb g7.1.size)).mono ?_
                      rintro e u7 ⟨v8, rfl, f7⟩
                      rw [HRm7.out] at f7
                      have f7 : Fresh _ _ _ ((Sh.list tCommit).enc x7) := f7
                      have g8 := g7.step f7
                      have hb7 := hb6.below f7.2 hb6.lt
                      clear f7
                      go_wp2_with fail
                      refine hQ7 _ _ hb7 (Effects.cons_ fun _ hQ8 => ?_)
                      clear hQ7 hb6 g7
                      go_wp2_with fail
                      refine (rJoin_any _ (V8.out.drew_.below g8.1) HEK8.out (fun b hb => ltle hb g8.1.size)).mono ?_
                      rintro e u8 ⟨v9, rfl, f8⟩
                      rw [HRm8.out] at f8
                      have f8 : Fresh _ _ _ ((Sh.list tTx).enc x8) := f8
                      have g9 := g8.step f8
                      have hb8 := hb7.below f8.2 hb7.lt
                      clear f8
                      go_wp2_with fail
                      refine hQ8 _ _ hb8 (Effects.nil_ fun _ hQ9 => ?_)
                      clear hQ8 hb7 g8
                      have hcs : ∀ v ∈ [v1, v2, v3, (.slice (some ⟨w.heap.size, 3, none⟩) 32 32), v5, v6, v7, v8, v9], v.cells = #[v] := fun v hv => by
                        obtain ⟨i, hi, rfl⟩ := List.getElem_of_mem hv
                        obtain ⟨y, _, hr⟩ := g9.2.get i hi
                        obtain ⟨A, c, e⟩ := hr.form
                        have e' : [v1, v2, v3, (.slice (some ⟨w.heap.size, 3, none⟩) 32 32), v5, v6, v7, v8, v9][i] = .slice A y.length c := e
                        rw [e']; rfl
                      refine wpList_rows rfl 9 _ rfl [v1, v2, v3, (.slice (some ⟨w.heap.size, 3, none⟩) 32 32), v5, v6, v7, v8, v9] rfl (by decide) (by decide) hcs (by simp [Act.eval]) ?_
                      have hr : Bsr (u8.alloc (.cells [v1, v2, v3, (.slice (some ⟨w.heap.size, 3, none⟩) 32 32), v5, v6, v7, v8, v9].toArray 22)) (fun b => b < u8.heap.size + 1) (.slice (some ⟨u8.heap.size, 0, none⟩) 9 9) [numB x0, numB x1, numB x2, x3, (Sh.list tBlock).enc x4, (Sh.list tVote).enc x5, (Sh.list tTimeout).enc x6, (Sh.list tCommit).enc x7, (Sh.list tTx).enc x8] := g9.row (by simp [maxLen]) 22
                      have hj := rJoin_any _ hr (by have := HLL.out; omega) (fun b hb => by simpa using hb)
                      have hbb : Below w.heap.size w (u8.alloc (.cells [v1, v2, v3, (.slice (some ⟨w.heap.size, 3, none⟩) 32 32), v5, v6, v7, v8, v9].toArray 22)) := (hbw.trans (g9.1.mono hbw.size)).alloc (hbw.trans (g9.1.mono hbw.size)).size _
                      have HJ := Lib.hid hj
                      have HBB := Lib.hid hbb
                      clear hj hbb hr g9 hcs
                      go_wp2_with fail
                      refine HJ.out.mono ?_
                      rintro e uz ⟨vz, rfl, fz⟩
                      go_wp2_with fail
                      go_ret
                      exact ⟨vz, rfl, fz.1.sub fun b hb _ => ⟨Nat.le_trans HBB.out.size hb.1, hb.2⟩, HBB.out.trans (fz.2.mono HBB.out.size)⟩
end
section
open Go.RowKit Go.Maps
attribute [-simp] Tryz.isAgg36 Tryz.typeInfo36 Tryz.isAgg83 Tryz.typeInfo83 Tryz.isAgg90 Tryz.typeInfo90 Tryz.isAgg97 Tryz.typeInfo97 Tryz.isAgg54 Tryz.typeInfo54 Tryz.isAgg72 Tryz.typeInfo72 Tryz.isAgg107 Tryz.typeInfo107
def zrMessage : List Value := (([.int .i64 0] : List Value) ++ (([.int .i64 0] : List Value) ++ (([.int .i64 0] : List Value) ++ (z32 ++ (([.slice none 0 0] : List Value) ++ (([.slice none 0 0] : List Value) ++ (([.slice none 0 0] : List Value) ++ (([.slice none 0 0] : List Value) ++ (([.slice none 0 0] : List Value) ++ ([] : List Value))))))))))
set_option maxRecDepth 100000 in
theorem zrMessage_one : ∀ v ∈ zrMessage, v.oneCell' = true := by decide
theorem zrMessage_len : zrMessage.length = 40 := by kernel_rfl
theorem zrMessage_size : (Tryz.prog.info? 107).map (·.size) = some zrMessage.length := by kernel_rfl
theorem zrMessage_sizes : (Tryz.prog.info? 107).map (fun i => (i.zero.map (fun z => z.cells.size), i.size)) = some (some 40, 40) := by kernel_rfl
theorem zrMessage_sized {C : List Value} (h : C.length = 40) : (Tryz.prog.info? 107).map (·.size) = some C.length := by rw [h]; kernel_rfl
set_option maxHeartbeats 8000000 in
set_option maxRecDepth 100000 in
theorem rReadMessage_any (w : World) {S : Nat → Prop} {v : Value} {bs : List UInt8} (h : Bs w S v bs) (hlen : bs.length ≤ 1099511627776) :
    Calls Tryz.prog 35 #[v] w (RefOutZ tMessage zrMessage w bs) := by
  have hal := (Below.refl w.heap.size w).alloc (Nat.le_refl _) (.cells zrMessage.toArray 107)
  have HS := Lib.hid (rsplit_any _ (h.below hal) hlen)
  have HR := Lib.hid (Blk.new w 107 zrMessage.toArray)
  have HAL := Lib.hid hal
  have HLEN := Lib.hid hlen
  obtain ⟨A, cap, rfl⟩ := h.form
  clear h hal hlen
  go_enter Tryz.func35, Tryz.ntmps35
  go_wp2_with fail
  refine HS.out.mono ?_
  rintro e w1 ⟨hb1, hsp⟩
  have HR1 := Lib.hid (HR.out.below hb1 HR.out.lt)
  have HB1 := Lib.hid (HAL.out.trans (hb1.mono HAL.out.size))
  have hz01 : w.heap.size + 1 ≤ w1.heap.size := by have := hb1.size; simpa using this
  clear HR HAL HS hb1
  rcases hsp with ⟨hno, rfl⟩ | ⟨v1, l, hsp, rfl, hbss⟩
  · have HNO := Lib.hid (show Sh.dec tMessage bs = none from by
      show (match splitB bs with | none => none | some l => Fs.decs _ l) = none
      rw [hno])
    have HRR := Lib.hid HR1.out
    have HB0 := Lib.hid HB1.out
    clear hno HR1 HB1
    go_wp2_with (refine wpList_store_blk (cs0 := zrMessage) (cs := zrMessage) rfl 107 _ _ rfl HRR.out rfl rfl rfl zrMessage_size zrMessage_one ?_; intro w9 hb9 hc9; have HB9 := Lib.hid hb9; have HC9 := Lib.hid hc9; clear hb9 hc9)
    have hld := run_loadVar_mid (P := Tryz.prog) w9 w.heap.size 0 107 zrMessage _ HB9.out.range Tryz.underlying107 rfl zrMessage_size
    refine bodyPost_ret (v := .tuple #[.agg (zrMessage).toArray, .bool false]) (by simp [results, Tryz.results35, asAddr, hld]) rfl ?_
    exact ⟨HB0.out.trans (HC9.out.below HB0.out.size fun b h => Nat.le_of_eq h.symm), _, true, rfl, ⟨zrMessage_len, zrMessage_one, .inr ⟨HNO.out, rfl⟩⟩, fun _ => rfl⟩
  by_cases hln : l.length = 9
  rotate_left
  · have HNO := Lib.hid (show Sh.dec tMessage bs = none from by
      show (match splitB bs with | none => none | some l => Fs.decs _ l) = none
      rw [hsp]
      cases hd : Fs.decs (.cons i64 (.cons i64 (.cons i64 (.cons .dig (.cons (.list tBlock) (.cons (.list tVote) (.cons (.list tTimeout) (.cons (.list tCommit) (.cons (.list tTx) .nil))))))))) l with
      | none => exact hd
      | some x => exact absurd (Fs.decs_len _ l x hd) hln)
    have HRR := Lib.hid HR1.out
    have HB0 := Lib.hid HB1.out
    obtain ⟨A1, c1, rfl⟩ := hbss.form
    have hlI : ¬ (l.length : Int) = 9 := by omega
    clear hsp HR1 HB1 hbss
    go_wp2_with (refine wpList_store_blk (cs0 := zrMessage) (cs := zrMessage) rfl 107 _ _ rfl HRR.out rfl rfl rfl zrMessage_size zrMessage_one ?_; intro w9 hb9 hc9; have HB9 := Lib.hid hb9; have HC9 := Lib.hid hc9; clear hb9 hc9)
    have hld := run_loadVar_mid (P := Tryz.prog) w9 w.heap.size 0 107 zrMessage _ HB9.out.range Tryz.underlying107 rfl zrMessage_size
    refine bodyPost_ret (v := .tuple #[.agg (zrMessage).toArray, .bool false]) (by simp [results, Tryz.results35, asAddr, hld]) rfl ?_
    exact ⟨HB0.out.trans (HC9.out.below HB0.out.size fun b h => Nat.le_of_eq h.symm), _, true, rfl, ⟨zrMessage_len, zrMessage_one, .inr ⟨HNO.out, rfl⟩⟩, fun _ => rfl⟩
  have HSP := Lib.hid hsp
  have hrl : ∀ y ∈ l, y.length ≤ 1099511627776 := fun y hy => Nat.le_trans (joinP_mem_le hsp y hy) HLEN.out
  obtain ⟨A1, c1, rfl⟩ := hbss.form
  have hall := Bsr.all (hbss.read fun y hy => by have := hrl y hy; omega) (by omega)
  obtain ⟨r0, r1, r2, r3, r4, r5, r6, r7, r8, rfl⟩ : ∃ r0 r1 r2 r3 r4 r5 r6 r7 r8, l = [r0, r1, r2, r3, r4, r5, r6, r7, r8] := by
    match l, hln with
    | [r0, r1, r2, r3, r4, r5, r6, r7, r8], _ => exact ⟨r0, r1, r2, r3, r4, r5, r6, r7, r8, rfl⟩
  have HRL := Lib.hid hrl
  obtain ⟨ba, oa, rfl, _, hba, hall⟩ := hall
  obtain ⟨A_0, c_0, hc_0, hr_0⟩ := hall 0 r0 rfl
  have HC_0 := Lib.hid hc_0
  have HR_0 := Lib.hid (hr_0.sub (T := fun b => b < w1.heap.size) fun _ _ h => h)
  obtain ⟨A_1, c_1, hc_1, hr_1⟩ := hall 1 r1 rfl
  have HC_1 := Lib.hid hc_1
  have HR_1 := Lib.hid (hr_1.sub (T := fun b => b < w1.heap.size) fun _ _ h => h)
  obtain ⟨A_2, c_2, hc_2, hr_2⟩ := hall 2 r2 rfl
  have HC_2 := Lib.hid hc_2
  have HR_2 := Lib.hid (hr_2.sub (T := fun b => b < w1.heap.size) fun _ _ h => h)
  obtain ⟨A_3, c_3, hc_3, hr_3⟩ := hall 3 r3 rfl
  have HC_3 := Lib.hid hc_3
  have HR_3 := Lib.hid (hr_3.sub (T := fun b => b < w1.heap.size) fun _ _ h => h)
  obtain ⟨A_4, c_4, hc_4, hr_4⟩ := hall 4 r4 rfl
  have HC_4 := Lib.hid hc_4
  have HR_4 := Lib.hid (hr_4.sub (T := fun b => b < w1.heap.size) fun _ _ h => h)
  obtain ⟨A_5, c_5, hc_5, hr_5⟩ := hall 5 r5 rfl
  have HC_5 := Lib.hid hc_5
  have HR_5 := Lib.hid (hr_5.sub (T := fun b => b < w1.heap.size) fun _ _ h => h)
  obtain ⟨A_6, c_6, hc_6, hr_6⟩ := hall 6 r6 rfl
  have HC_6 := Lib.hid hc_6
  have HR_6 := Lib.hid (hr_6.sub (T := fun b => b < w1.heap.size) fun _ _ h => h)
  obtain ⟨A_7, c_7, hc_7, hr_7⟩ := hall 7 r7 rfl
  have HC_7 := Lib.hid hc_7
  have HR_7 := Lib.hid (hr_7.sub (T := fun b => b < w1.heap.size) fun _ _ h => h)
  obtain ⟨A_8, c_8, hc_8, hr_8⟩ := hall 8 r8 rfl
  have HC_8 := Lib.hid hc_8
  have HR_8 := Lib.hid (hr_8.sub (T := fun b => b < w1.heap.size) fun _ _ h => h)
  clear hall hbss hsp hrl hln hc_0 hr_0 hc_1 hr_1 hc_2 hr_2 hc_3 hr_3 hc_4 hr_4 hc_5 hr_5 hc_6 hr_6 hc_7 hr_7 hc_8 hr_8
  go_wp2_with (refine wpList_store_blk (cs0 := zrMessage) (cs := zrMessage) rfl 107 _ _ rfl (Blk.new w1 _ _) rfl rfl rfl zrMessage_size zrMessage_one ?_; intro w2 hb2 hc2; have HX2 := Lib.hid (show Blk w2 w1.heap.size 107 (([] : List Value) ++ (([.int .i64 0] : List Value) ++ (([.int .i64 0] : List Value) ++ (([.int .i64 0] : List Value) ++ (z32 ++ (([.slice none 0 0] : List Value) ++ (([.slice none 0 0] : List Value) ++ (([.slice none 0 0] : List Value) ++ (([.slice none 0 0] : List Value) ++ (([.slice none 0 0] : List Value) ++ ([] : List Value))))))))))).toArray from hb2); have HP2 := Lib.hid (show Chg (fun b => b = w1.heap.size) w1 w2 from ((Chg.refl _ w1).alloc _).trans hc2 fun b h => .inl h); have hz2 : w1.heap.size + 1 ≤ w2.heap.size := (by have := hb2.lt; omega); have hcl0 : w2.cell? ⟨ba, oa, none⟩ = some (.slice A_0 r0.length c_0) := (World.cell?_of_block (a := ⟨ba, oa, none⟩) (HP2.out.block ba hba (fun e => by have e : ba = w1.heap.size := e; omega))).trans HC_0.out; clear hb2 hc2)
  refine (rnumI_out _ (HR_0.out.chg HP2.out fun b hb h => by have h : b = w1.heap.size := h; omega)).mono ?_
  rintro e wq ⟨hw, m0, g0, rfl, hm0, hsI, hsU⟩
  obtain rfl := hw.symm
  have HS0 := Lib.hid hsI
  clear hsI hsU hcl0
  have HPL0 := Lib.hid (show (([] : List Value)).length = 0 from by simp)
  go_simp
  repeat (first
    | (go_big_may; refine wpList_store_part (pre := ([] : List Value)) (old := ([.int .i64 0] : List Value)) (vals := ([.int .i64 (wrap64 (m0 : Int))] : List Value)) (post := (([.int .i64 0] : List Value) ++ (([.int .i64 0] : List Value) ++ (z32 ++ (([.slice none 0 0] : List Value) ++ (([.slice none 0 0] : List Value) ++ (([.slice none 0 0] : List Value) ++ (([.slice none 0 0] : List Value) ++ (([.slice none 0 0] : List Value) ++ ([] : List Value)))))))))) rfl 3 _ _ rfl HX2.out HPL0.out rfl (v := .int .i64 (wrap64 (m0 : Int))) rfl rfl (by simp only [List.length_cons, List.length_nil]) (by kernel_rfl) (fun u hu => by obtain rfl := List.mem_singleton.1 hu; rfl) ?_; intro w3 hbn hcn; have HX3 := Lib.hid hbn; have HC2 := Lib.hid hcn; have HP3 := Lib.hid (HP2.out.trans HC2.out fun b h => .inl h); have hz3 := Nat.le_trans hz2 HC2.out.size; have hcl1 : w3.cell? ⟨ba, oa + 1, none⟩ = some (.slice A_1 r1.length c_1) := (World.cell?_of_block (a := ⟨ba, oa + 1, none⟩) (HP3.out.block ba hba (fun e => by have e : ba = w1.heap.size := e; omega))).trans HC_1.out; clear hbn hcn)
    | go_values | go_skip | go_guarded | go_step | go_upon)
  refine (rnumI_out _ (HR_1.out.chg HP3.out fun b hb h => by have h : b = w1.heap.size := h; omega)).mono ?_
  rintro e wq ⟨hw, m1, g1, rfl, hm1, hsI, hsU⟩
  obtain rfl := hw.symm
  have HS1 := Lib.hid hsI
  clear hsI hsU hcl1
  have HPL1 := Lib.hid (show ((([] : List Value) ++ ([.int .i64 (wrap64 (m0 : Int))] : List Value))).length = 1 from by simp)
  go_simp
  repeat (first
    | ((with_reducible (show wpList _ _ _ (⟨_, .move _, _, _, _, some _⟩ :: _) _ _)); refine wpList_and g0 g1 _ _ _ rfl rfl rfl (by cases g0 <;> rfl) rfl (fun _ => rfl) (fun _ => rfl) ?_; intro vA1 k1 hk1; have HK1 := Lib.hid hk1; clear hk1)
    | (go_big_may; refine wpList_store_part (pre := (([] : List Value) ++ ([.int .i64 (wrap64 (m0 : Int))] : List Value))) (old := ([.int .i64 0] : List Value)) (vals := ([.int .i64 (wrap64 (m1 : Int))] : List Value)) (post := (([.int .i64 0] : List Value) ++ (z32 ++ (([.slice none 0 0] : List Value) ++ (([.slice none 0 0] : List Value) ++ (([.slice none 0 0] : List Value) ++ (([.slice none 0 0] : List Value) ++ (([.slice none 0 0] : List Value) ++ ([] : List Value))))))))) rfl 3 _ _ rfl HX3.out HPL1.out rfl (v := .int .i64 (wrap64 (m1 : Int))) rfl rfl (by simp only [List.length_cons, List.length_nil]) (by kernel_rfl) (fun u hu => by obtain rfl := List.mem_singleton.1 hu; rfl) ?_; intro w4 hbn hcn; have HX4 := Lib.hid hbn; have HC3 := Lib.hid hcn; have HP4 := Lib.hid (HP3.out.trans HC3.out fun b h => .inl h); have hz4 := Nat.le_trans hz3 HC3.out.size; have hcl2 : w4.cell? ⟨ba, oa + 2, none⟩ = some (.slice A_2 r2.length c_2) := (World.cell?_of_block (a := ⟨ba, oa + 2, none⟩) (HP4.out.block ba hba (fun e => by have e : ba = w1.heap.size := e; omega))).trans HC_2.out; clear hbn hcn)
    | go_values | go_skip | go_guarded | go_step | go_upon)
  refine (rnumI_out _ (HR_2.out.chg HP4.out fun b hb h => by have h : b = w1.heap.size := h; omega)).mono ?_
  rintro e wq ⟨hw, m2, g2, rfl, hm2, hsI, hsU⟩
  obtain rfl := hw.symm
  have HS2 := Lib.hid hsI
  clear hsI hsU hcl2
  have HPL2 := Lib.hid (show (((([] : List Value) ++ ([.int .i64 (wrap64 (m0 : Int))] : List Value)) ++ ([.int .i64 (wrap64 (m1 : Int))] : List Value))).length = 2 from by simp)
  go_simp
  repeat (first
    | ((with_reducible (show wpList _ _ _ (⟨_, .move _, _, _, _, some _⟩ :: _) _ _)); refine wpList_and k1 g2 _ _ _ rfl rfl rfl (by cases k1 <;> rfl) rfl (fun _ => rfl) (fun _ => rfl) ?_; intro vA2 k2 hk2; have HK2 := Lib.hid hk2; clear hk2)
    | (go_big_may; refine wpList_store_part (pre := ((([] : List Value) ++ ([.int .i64 (wrap64 (m0 : Int))] : List Value)) ++ ([.int .i64 (wrap64 (m1 : Int))] : List Value))) (old := ([.int .i64 0] : List Value)) (vals := ([.int .i64 (wrap64 (m2 : Int))] : List Value)) (post := (z32 ++ (([.slice none 0 0] : List Value) ++ (([.slice none 0 0] : List Value) ++ (([.slice none 0 0] : List Value) ++ (([.slice none 0 0] : List Value) ++ (([.slice none 0 0] : List Value) ++ ([] : List Value)))))))) rfl 2 _ _ rfl HX4.out HPL2.out rfl (v := .int .i64 (wrap64 (m2 : Int))) rfl rfl (by simp only [List.length_cons, List.length_nil]) (by kernel_rfl) (fun u hu => by obtain rfl := List.mem_singleton.1 hu; rfl) ?_; intro w5 hbn hcn; have HX5 := Lib.hid hbn; have HC4 := Lib.hid hcn; have HP5 := Lib.hid (HP4.out.trans HC4.out fun b h => .inl h); have hz5 := Nat.le_trans hz4 HC4.out.size; have hcl3 : w5.cell? ⟨ba, oa + 3, none⟩ = some (.slice A_3 r3.length c_3) := (World.cell?_of_block (a := ⟨ba, oa + 3, none⟩) (HP5.out.block ba hba (fun e => by have e : ba = w1.heap.size := e; omega))).trans HC_3.out; clear hbn hcn)
    | go_values | go_skip | go_guarded | go_step | go_upon)
  refine (rdig_out _ (HR_3.out.chg HP5.out fun b hb h => by have h : b = w1.heap.size := h; omega)).mono ?_
  rintro e wa3 ⟨hba3, q3, g3, rfl, hs3⟩
  have hl3 : q3.length = 32 := hs3.1
  have HL3 := Lib.hid hl3
  have H13 := Lib.hid hs3.2.1
  have HI3 := Lib.hid (z32_sized hl3)
  have HZ3 := Lib.hid (show (z32).length = q3.length from by rw [hl3]; exact z32_len)
  have HXa3 := Lib.hid (HX5.out.below hba3 HX5.out.lt)
  have HBA3 := Lib.hid hba3
  have HS3 := Lib.hid hs3
  have hza3 := hba3.size
  clear hba3 hs3 hl3 hcl3
  have HPL3 := Lib.hid (show ((((([] : List Value) ++ ([.int .i64 (wrap64 (m0 : Int))] : List Value)) ++ ([.int .i64 (wrap64 (m1 : Int))] : List Value)) ++ ([.int .i64 (wrap64 (m2 : Int))] : List Value))).length = 3 from by simp)
  go_simp
  repeat (first
    | ((with_reducible (show wpList _ _ _ (⟨_, .move _, _, _, _, some _⟩ :: _) _ _)); refine wpList_and k2 g3 _ _ _ rfl rfl rfl (by cases k2 <;> rfl) rfl (fun _ => rfl) (fun _ => rfl) ?_; intro vA3 k3 hk3; have HK3 := Lib.hid hk3; clear hk3)
    | (go_big_may; refine wpList_store_blk (cs0 := z32) (cs := q3) rfl 36 _ _ rfl (Blk.new wa3 _ _) rfl rfl HZ3.out HI3.out H13.out ?_; intro wb3 hbb hcb; have HBB3 := Lib.hid hbb; have HCB3 := Lib.hid (show Chg (fun _ => False) wa3 wb3 from ((Chg.refl _ wa3).alloc _).trans hcb fun b h => .inr (Nat.le_of_eq h.symm)); have HXb3 := Lib.hid (HXa3.out.chg HCB3.out id); clear hbb hcb)
    | (go_big_may; refine wpList_load_blk' rfl 36 _ rfl HBB3.out rfl Tryz.underlying36 rfl HI3.out ?_)
    | (go_big_may; refine wpList_store_part (pre := (((([] : List Value) ++ ([.int .i64 (wrap64 (m0 : Int))] : List Value)) ++ ([.int .i64 (wrap64 (m1 : Int))] : List Value)) ++ ([.int .i64 (wrap64 (m2 : Int))] : List Value))) (old := z32) (vals := q3) (post := (([.slice none 0 0] : List Value) ++ (([.slice none 0 0] : List Value) ++ (([.slice none 0 0] : List Value) ++ (([.slice none 0 0] : List Value) ++ (([.slice none 0 0] : List Value) ++ ([] : List Value))))))) rfl 36 _ _ rfl HXb3.out HPL3.out rfl (v := .agg q3.toArray) rfl rfl HZ3.out HI3.out H13.out ?_; intro w6 hbn hcn; have HX6 := Lib.hid hbn; have HC5 := Lib.hid (show Chg (fun b => b = w1.heap.size) w5 w6 from (((Chg.of_below HBA3.out fun b => b = w1.heap.size).trans HCB3.out fun b h => h.elim).trans hcn fun b h => .inl h)); have HCD3 := Lib.hid (show Chg (fun b => b = w1.heap.size) wa3 w6 from (HCB3.out.mono (M' := fun b => b = w1.heap.size) fun _ h => h.elim).trans hcn fun b h => .inl h); have HP6 := Lib.hid (HP5.out.trans HC5.out fun b h => .inl h); have hz6 := Nat.le_trans hz5 HC5.out.size; have hcl4 : w6.cell? ⟨ba, oa + 4, none⟩ = some (.slice A_4 r4.length c_4) := (World.cell?_of_block (a := ⟨ba, oa + 4, none⟩) (HP6.out.block ba hba (fun e => by have e : ba = w1.heap.size := e; omega))).trans HC_4.out; clear hbn hcn)
    | go_values | go_skip | go_guarded | go_step | go_upon)
  refine (rsplit_one _ (HR_4.out.chg HP6.out fun b hb h => by have h : b = w1.heap.size := h; omega) (HRL.out _ (by simp))).mono ?_
  rintro e ws4 ⟨hbs4, As4, cs4, l4, g4, rfl, hbss4, hll4, hrl4, hsp4⟩
  have HXS4 := Lib.hid (HX6.out.below hbs4 HX6.out.lt)
  have HPS4 := Lib.hid (HP6.out.trans (Chg.of_below hbs4 fun b => b = w1.heap.size) fun b h => .inl h)
  have hzs4 := Nat.le_trans hz6 hbs4.size
  have hzt4 := hbs4.size
  have HROW4 := Lib.hid ((hbss4.read fun y hy => by have := hrl4 y hy; omega).subs (T := fun b => b ≠ w1.heap.size) fun b hb _ => by have hb : w6.heap.size ≤ b := hb.elim id id; omega)
  have HSPL4 := Lib.hid hsp4
  have HRLL4 := Lib.hid hrl4
  have HBS4 := Lib.hid hbs4
  have HPL4 := Lib.hid (show (((((([] : List Value) ++ ([.int .i64 (wrap64 (m0 : Int))] : List Value)) ++ ([.int .i64 (wrap64 (m1 : Int))] : List Value)) ++ ([.int .i64 (wrap64 (m2 : Int))] : List Value)) ++ q3)).length = 35 from by simp [HL3.out])
  clear hbs4 hbss4 hrl4 hsp4 hcl4
  go_simp
  repeat (first
    | ((with_reducible (show wpList _ _ _ (⟨_, .move _, _, _, _, some _⟩ :: _) _ _)); refine wpList_and k3 g4 _ _ _ rfl rfl rfl (by cases k3 <;> rfl) rfl (fun _ => rfl) (fun _ => rfl) ?_; intro vA4 k4 hk4; have HK4 := Lib.hid hk4; clear hk4)
    | go_values | go_skip | go_guarded | go_step | go_upon)
  go_loopw [7, 18] (fun a i wr => ∃ (k : Nat) (c : Bool) (o : Value), k ≤ l4.length ∧ i = .int .i64 k ∧ a = .bool (!c) ∧ Hid (RefI 83 173 tBlock ws4 w1.heap.size 107 ((((([] : List Value) ++ ([.int .i64 (wrap64 (m0 : Int))] : List Value)) ++ ([.int .i64 (wrap64 (m1 : Int))] : List Value)) ++ ([.int .i64 (wrap64 (m2 : Int))] : List Value)) ++ q3) (([.slice none 0 0] : List Value) ++ (([.slice none 0 0] : List Value) ++ (([.slice none 0 0] : List Value) ++ (([.slice none 0 0] : List Value) ++ ([] : List Value))))) l4 k4 o k c wr)) (fun _ i _ => l4.length - (intOf i).toNat)
  case atStart => exact ⟨0, k4, _, Nat.zero_le _, rfl, rfl, Lib.hid (RefI.start HXS4.out)⟩
  case round =>
    obtain ⟨k, kc4, o4, hk, rfl, rfl, HI⟩ := hrel
    by_cases hlt : k < l4.length
    · obtain ⟨css, hown, hob, hlo, hbx, hch⟩ := HI.out
      obtain ⟨bm, om, hAm, hTm, hbm, hallm⟩ := Bsr.all HROW4.out (by omega)
      subst hAm
      obtain ⟨Ay, cy, hcy, hyb⟩ := hallm k l4[k] (List.getElem?_eq_getElem hlt)
      have hcyw : wr.cell? ⟨bm, om + k, none⟩ = some (.slice Ay l4[k].length cy) := (World.cell?_of_block (a := ⟨bm, om + k, none⟩) (hch.block bm hbm (fun e => hTm e))).trans hcy
      have htk : l4.take (k + 1) = l4.take k ++ [l4[k]] := List.take_succ_eq_append_getElem hlt
      have hyl := HRLL4.out l4[k] (List.getElem_mem hlt)
      have hyb2 := hyb.chg hch fun b hb h => hb h
      obtain ⟨y, hy⟩ : ∃ y, y = l4[k] := ⟨_, rfl⟩
      rw [← hy] at hcyw htk hyl hyb2
      have HR := Lib.hid (rReadBlock_any wr hyb2 hyl)
      obtain ⟨Ao, co, rfl⟩ := hown.form
      have HOWN := Lib.hid hown
      have HOB := Lib.hid hob
      have HLO := Lib.hid hlo
      have HCH := Lib.hid hch
      have HTK := Lib.hid htk
      have HBX := Lib.hid hbx
      have H63 := Lib.hid (show k + 1 ≤ maxLen ∧ (k + 1) * 328 ≤ 140737488355328 from ⟨by simp only [maxLen]; omega, by omega⟩)
      have hzr := hch.size
      clear hown hob hlo hch htk hbx hyl hy hyb hyb2 hcy hallm hTm hbm HI
      go_wp2_with fail
      refine HR.out.mono ?_
      rintro e wa ⟨hba, q, g, rfl, hs, _⟩
      have hl : q.length = 173 := hs.1
      have HL := Lib.hid hl
      have H1 := Lib.hid hs.2.1
      have HIq := Lib.hid (zrBlock_sized hl)
      have HIq2 := Lib.hid (show (Tryz.prog.info? 83).map (fun i => (i.zero.map (fun z => z.cells.size), i.size)) = some (some q.length, q.length) from by rw [hl]; exact zrBlock_sizes)
      have HZ := Lib.hid (show (zrBlock).length = q.length from by rw [hl]; exact zrBlock_len)
      have HXa := Lib.hid (HBX.out.below hba HBX.out.lt)
      have HBA := Lib.hid hba
      have HSQ := Lib.hid hs
      have hza := hba.size
      clear hba hs hl hcyw HR
      go_simp
      repeat (first
        | (go_big_may; refine wpList_store_blk (cs0 := zrBlock) (cs := q) rfl 83 _ _ rfl (Blk.new wa _ _) rfl rfl HZ.out HIq.out H1.out ?_; intro wb hbb hcb; have HBB := Lib.hid hbb; have HCB := Lib.hid (show Chg (fun _ => False) wa wb from ((Chg.refl _ wa).alloc _).trans hcb fun b h => .inr (Nat.le_of_eq h.symm)); have HXb := Lib.hid (HXa.out.chg HCB.out id); have hco : wb.cell? ⟨w1.heap.size, 35, none⟩ = some (.slice Ao k co) := blk_mid HXb.out HPL4.out; have HO2 := Lib.hid (show ∀ ob, Own (wb.alloc ob) 83 173 (.slice Ao k co) k css.flatten from fun ob => own_keep HOWN.out fun b hb => (Below.heap_alloc wb ob b (ltle (ltle (own_lt HOWN.out hb) HBA.out.size) HCB.out.size)).trans ((HCB.out.block b (ltle (own_lt HOWN.out hb) HBA.out.size) id).trans (HBA.out.block b (own_lt HOWN.out hb)))); have HS2 := Lib.hid (Cs.of_new wb 83 (size := 173) 1 (cs := q) (by rw [HL.out]) (by simp only [maxLen]; decide)); clear hbb hcb)
        | (go_big_may; refine wpList_load_blk' rfl 83 _ rfl HBB.out rfl Tryz.underlying83 rfl HIq.out ?_)
        | (go_big_may; refine wpList_row1 rfl 103 83 _ rfl Tryz.underlying103 (.agg q.toArray) rfl q rfl HIq2.out (by rw [HL.out]; decide) (by rw [HL.out]; decide) ?_)
        | (go_big_may; at_builtin; refine wpList_app _ rfl _ _ _ rfl Tryz.underlying103 zrBlock_info rfl (by decide) (HO2.out _) rfl HS2.out rfl H1.out H63.out.1 H63.out.2 ?_; intro v6 w6 ho6 hc6 hnil6 hat6; clear hnil6; obtain ⟨A6, c6, rfl⟩ := ho6.form; have HX6 := Lib.hid (Blk.assoc_ ((HXb.out.alloc _).chg hc6 fun h => by have := HOB.out _ h; omega)); have HO6 := Lib.hid ho6; have HC6 := Lib.hid hc6; have HAT6 := Lib.hid hat6; clear ho6 hc6 hat6)
        | (go_big_may; refine wpList_store_part (pre := ((((([] : List Value) ++ ([.int .i64 (wrap64 (m0 : Int))] : List Value)) ++ ([.int .i64 (wrap64 (m1 : Int))] : List Value)) ++ ([.int .i64 (wrap64 (m2 : Int))] : List Value)) ++ q3)) (old := ([.slice Ao k co] : List Value)) (vals := ([.slice A6 (k + 1) c6] : List Value)) (post := (([.slice none 0 0] : List Value) ++ (([.slice none 0 0] : List Value) ++ (([.slice none 0 0] : List Value) ++ (([.slice none 0 0] : List Value) ++ ([] : List Value)))))) rfl 103 _ _ rfl HX6.out HPL4.out rfl (v := .slice A6 (k + 1) c6) rfl rfl (by simp only [List.length_cons, List.length_nil]) (by kernel_rfl) (fun u hu => by obtain rfl := List.mem_singleton.1 hu; rfl) ?_; intro w7 hx7 hc7; have HX7 := Lib.hid hx7; have HC7 := Lib.hid hc7; clear hx7 hc7)
        | ((with_reducible (show wpList _ _ _ (⟨_, .move _, _, _, _, some _⟩ :: _) _ _)); refine wpList_and kc4 g _ _ _ rfl rfl rfl (by cases kc4 <;> rfl) rfl (fun _ => rfl) (fun _ => rfl) ?_; intro vA cN hcN; have HCN := Lib.hid hcN; clear hcN)
        | go_values | go_skip | go_guarded | go_step | go_upon)
      go_wp2_with fail
      exact ⟨⟨k + 1, cN, _, by omega, by push_cast; rfl, rfl, Lib.hid (RefI.step (by omega) HOWN.out HOB.out HLO.out HCH.out HBA.out HSQ.out HCB.out HTK.out HO6.out HC6.out HAT6.out HX7.out HC7.out HCN.out)⟩, by simp only [intOf]; omega⟩
    · have hk' : k = l4.length := by omega
      subst hk'
      have HS4 := Lib.hid (HI.out.out rfl HSPL4.out HK4.out)
      obtain ⟨css, hown, _, _, hbx, hch⟩ := HI.out
      have HX7 := Lib.hid hbx
      have HC6 := Lib.hid (show Chg (fun b => b = w1.heap.size) w6 wr from (Chg.of_below HBS4.out fun b => b = w1.heap.size).trans hch fun b h => .inl h)
      clear hown hbx hch HI hk HXS4 HPS4 HROW4 HRLL4
      generalize wr = w7 at *
      have HPL4 := HPL4
      have HP7 := Lib.hid (HP6.out.trans HC6.out fun b h => .inl h)
      have hz7 := Nat.le_trans hz6 HC6.out.size
      have hcl5 : w7.cell? ⟨ba, oa + 5, none⟩ = some (.slice A_5 r5.length c_5) := (World.cell?_of_block (a := ⟨ba, oa + 5, none⟩) (HP7.out.block ba hba (fun e => by have e : ba = w1.heap.size := e; omega))).trans HC_5.out
      go_wp2_with fail
      refine (rsplit_one _ (HR_5.out.chg HP7.out fun b hb h => by have h : b = w1.heap.size := h; omega) (HRL.out _ (by simp))).mono ?_
      rintro e ws5 ⟨hbs5, As5, cs5, l5, g5, rfl, hbss5, hll5, hrl5, hsp5⟩
      have HXS5 := Lib.hid (HX7.out.below hbs5 HX7.out.lt)
      have HPS5 := Lib.hid (HP7.out.trans (Chg.of_below hbs5 fun b => b = w1.heap.size) fun b h => .inl h)
      have hzs5 := Nat.le_trans hz7 hbs5.size
      have hzt5 := hbs5.size
      have HROW5 := Lib.hid ((hbss5.read fun y hy => by have := hrl5 y hy; omega).subs (T := fun b => b ≠ w1.heap.size) fun b hb _ => by have hb : w7.heap.size ≤ b := hb.elim id id; omega)
      have HSPL5 := Lib.hid hsp5
      have HRLL5 := Lib.hid hrl5
      have HBS5 := Lib.hid hbs5
      have HPL5 := Lib.hid (show ((((((([] : List Value) ++ ([.int .i64 (wrap64 (m0 : Int))] : List Value)) ++ ([.int .i64 (wrap64 (m1 : Int))] : List Value)) ++ ([.int .i64 (wrap64 (m2 : Int))] : List Value)) ++ q3) ++ ([o4] : List Value))).length = 36 from by simp [HL3.out])
      clear hbs5 hbss5 hrl5 hsp5 hcl5
      go_simp
      repeat (first
        | ((with_reducible (show wpList _ _ _ (⟨_, .move _, _, _, _, some _⟩ :: _) _ _)); refine wpList_and kc4 g5 _ _ _ rfl rfl rfl (by cases kc4 <;> rfl) rfl (fun _ => rfl) (fun _ => rfl) ?_; intro vA5 k5 hk5; have HK5 := Lib.hid hk5; clear hk5)
        | go_values | go_skip | go_guarded | go_step | go_upon)
      go_loopw [7, 23] (fun a i wr => ∃ (k : Nat) (c : Bool) (o : Value), k ≤ l5.length ∧ i = .int .i64 k ∧ a = .bool (!c) ∧ Hid (RefI 90 69 tVote ws5 w1.heap.size 107 (((((([] : List Value) ++ ([.int .i64 (wrap64 (m0 : Int))] : List Value)) ++ ([.int .i64 (wrap64 (m1 : Int))] : List Value)) ++ ([.int .i64 (wrap64 (m2 : Int))] : List Value)) ++ q3) ++ ([o4] : List Value)) (([.slice none 0 0] : List Value) ++ (([.slice none 0 0] : List Value) ++ (([.slice none 0 0] : List Value) ++ ([] : List Value)))) l5 k5 o k c wr)) (fun _ i _ => l5.length - (intOf i).toNat)
      case atStart => exact ⟨0, k5, _, Nat.zero_le _, rfl, rfl, Lib.hid (RefI.start HXS5.out)⟩
      case round =>
        obtain ⟨k, kc5, o5, hk, rfl, rfl, HI⟩ := hrel
        by_cases hlt : k < l5.length
        · obtain ⟨css, hown, hob, hlo, hbx, hch⟩ := HI.out
          obtain ⟨bm, om, hAm, hTm, hbm, hallm⟩ := Bsr.all HROW5.out (by omega)
          subst hAm
          obtain ⟨Ay, cy, hcy, hyb⟩ := hallm k l5[k] (List.getElem?_eq_getElem hlt)
          have hcyw : wr.cell? ⟨bm, om + k, none⟩ = some (.slice Ay l5[k].length cy) := (World.cell?_of_block (a := ⟨bm, om + k, none⟩) (hch.block bm hbm (fun e => hTm e))).trans hcy
          have htk : l5.take (k + 1) = l5.take k ++ [l5[k]] := List.take_succ_eq_append_getElem hlt
          have hyl := HRLL5.out l5[k] (List.getElem_mem hlt)
          have hyb2 := hyb.chg hch fun b hb h => hb h
          obtain ⟨y, hy⟩ : ∃ y, y = l5[k] := ⟨_, rfl⟩
          rw [← hy] at hcyw htk hyl hyb2
          have HR := Lib.hid (rReadVote_any wr hyb2 hyl)
          obtain ⟨Ao, co, rfl⟩ := hown.form
          have HOWN := Lib.hid hown
          have HOB := Lib.hid hob
          have HLO := Lib.hid hlo
          have HCH := Lib.hid hch
          have HTK := Lib.hid htk
          have HBX := Lib.hid hbx
          have H63 := Lib.hid (show k + 1 ≤ maxLen ∧ (k + 1) * 104 ≤ 140737488355328 from ⟨by simp only [maxLen]; omega, by omega⟩)
          have hzr := hch.size
          clear hown hob hlo hch htk hbx hyl hy hyb hyb2 hcy hallm hTm hbm HI
          go_wp2_with fail
          refine HR.out.mono ?_
          rintro e wa ⟨hba, q, g, rfl, hs, _⟩
          have hl : q.length = 69 := hs.1
          have HL := Lib.hid hl
          have H1 := Lib.hid hs.2.1
          have HIq := Lib.hid (zrVote_sized hl)
          have HIq2 := Lib.hid (show (Tryz.prog.info? 90).map (fun i => (i.zero.map (fun z => z.cells.size), i.size)) = some (some q.length, q.length) from by rw [hl]; exact zrVote_sizes)
          have HZ := Lib.hid (show (zrVote).length = q.length from by rw [hl]; exact zrVote_len)
          have HXa := Lib.hid (HBX.out.below hba HBX.out.lt)
          have HBA := Lib.hid hba
          have HSQ := Lib.hid hs
          have hza := hba.size
          clear hba hs hl hcyw HR
          go_simp
          repeat (first
            | (go_big_may; refine wpList_store_blk (cs0 := zrVote) (cs := q) rfl 90 _ _ rfl (Blk.new wa _ _) rfl rfl HZ.out HIq.out H1.out ?_; intro wb hbb hcb; have HBB := Lib.hid hbb; have HCB := Lib.hid (show Chg (fun _ => False) wa wb from ((Chg.refl _ wa).alloc _).trans hcb fun b h => .inr (Nat.le_of_eq h.symm)); have HXb := Lib.hid (HXa.out.chg HCB.out id); have hco : wb.cell? ⟨w1.heap.size, 36, none⟩ = some (.slice Ao k co) := blk_mid HXb.out HPL5.out; have HO2 := Lib.hid (show ∀ ob, Own (wb.alloc ob) 90 69 (.slice Ao k co) k css.flatten from fun ob => own_keep HOWN.out fun b hb => (Below.heap_alloc wb ob b (ltle (ltle (own_lt HOWN.out hb) HBA.out.size) HCB.out.size)).trans ((HCB.out.block b (ltle (own_lt HOWN.out hb) HBA.out.size) id).trans (HBA.out.block b (own_lt HOWN.out hb)))); have HS2 := Lib.hid (Cs.of_new wb 90 (size := 69) 1 (cs := q) (by rw [HL.out]) (by simp only [maxLen]; decide)); clear hbb hcb)
            | (go_big_may; refine wpList_load_blk' rfl 90 _ rfl HBB.out rfl Tryz.underlying90 rfl HIq.out ?_)
            | (go_big_may; refine wpList_row1 rfl 104 90 _ rfl Tryz.underlying104 (.agg q.toArray) rfl q rfl HIq2.out (by rw [HL.out]; decide) (by rw [HL.out]; decide) ?_)
            | (go_big_may; at_builtin; refine wpList_app _ rfl _ _ _ rfl Tryz.underlying104 zrVote_info rfl (by decide) (HO2.out _) rfl HS2.out rfl H1.out H63.out.1 H63.out.2 ?_; intro v6 w6 ho6 hc6 hnil6 hat6; clear hnil6; obtain ⟨A6, c6, rfl⟩ := ho6.form; have HX6 := Lib.hid (Blk.assoc_ ((HXb.out.alloc _).chg hc6 fun h => by have := HOB.out _ h; omega)); have HO6 := Lib.hid ho6; have HC6 := Lib.hid hc6; have HAT6 := Lib.hid hat6; clear ho6 hc6 hat6)
            | (go_big_may; refine wpList_store_part (pre := (((((([] : List Value) ++ ([.int .i64 (wrap64 (m0 : Int))] : List Value)) ++ ([.int .i64 (wrap64 (m1 : Int))] : List Value)) ++ ([.int .i64 (wrap64 (m2 : Int))] : List Value)) ++ q3) ++ ([o4] : List Value))) (old := ([.slice Ao k co] : List Value)) (vals := ([.slice A6 (k + 1) c6] : List Value)) (post := (([.slice none 0 0] : List Value) ++ (([.slice none 0 0] : List Value) ++ (([.slice none 0 0] : List Value) ++ ([] : List Value))))) rfl 104 _ _ rfl HX6.out HPL5.out rfl (v := .slice A6 (k + 1) c6) rfl rfl (by simp only [List.length_cons, List.length_nil]) (by kernel_rfl) (fun u hu => by obtain rfl := List.mem_singleton.1 hu; rfl) ?_; intro w7 hx7 hc7; have HX7 := Lib.hid hx7; have HC7 := Lib.hid hc7; clear hx7 hc7)
            | ((with_reducible (show wpList _ _ _ (⟨_, .move _, _, _, _, some _⟩ :: _) _ _)); refine wpList_and kc5 g _ _ _ rfl rfl rfl (by cases kc5 <;> rfl) rfl (fun _ => rfl) (fun _ => rfl) ?_; intro vA cN hcN; have HCN := Lib.hid hcN; clear hcN)
            | go_values | go_skip | go_guarded | go_step | go_upon)
          go_wp2_with fail
          exact ⟨⟨k + 1, cN, _, by omega, by push_cast; rfl, rfl, Lib.hid (RefI.step (by omega) HOWN.out HOB.out HLO.out HCH.out HBA.out HSQ.out HCB.out HTK.out HO6.out HC6.out HAT6.out HX7.out HC7.out HCN.out)⟩, by simp only [intOf]; omega⟩
        · have hk' : k = l5.length := by omega
          subst hk'
          have HS5 := Lib.hid (HI.out.out rfl HSPL5.out HK5.out)
          obtain ⟨css, hown, _, _, hbx, hch⟩ := HI.out
          have HX8 := Lib.hid hbx
          have HC7 := Lib.hid (show Chg (fun b => b = w1.heap.size) w7 wr from (Chg.of_below HBS5.out fun b => b = w1.heap.size).trans hch fun b h => .inl h)
          clear hown hbx hch HI hk HXS5 HPS5 HROW5 HRLL5
          generalize wr = w8 at *
          have HPL5 := HPL5
          have HP8 := Lib.hid (HP7.out.trans HC7.out fun b h => .inl h)
          have hz8 := Nat.le_trans hz7 HC7.out.size
          have hcl6 : w8.cell? ⟨ba, oa + 6, none⟩ = some (.slice A_6 r6.length c_6) := (World.cell?_of_block (a := ⟨ba, oa + 6, none⟩) (HP8.out.block ba hba (fun e => by have e : ba = w1.heap.size := e; omega))).trans HC_6.out
          go_wp2_with fail
          refine (rsplit_one _ (HR_6.out.chg HP8.out fun b hb h => by have h : b = w1.heap.size := h; omega) (HRL.out _ (by simp))).mono ?_
          rintro e ws6 ⟨hbs6, As6, cs6, l6, g6, rfl, hbss6, hll6, hrl6, hsp6⟩
          have HXS6 := Lib.hid (HX8.out.below hbs6 HX8.out.lt)
          have HPS6 := Lib.hid (HP8.out.trans (Chg.of_below hbs6 fun b => b = w1.heap.size) fun b h => .inl h)
          have hzs6 := Nat.le_trans hz8 hbs6.size
          have hzt6 := hbs6.size
          have HROW6 := Lib.hid ((hbss6.read fun y hy => by have := hrl6 y hy; omega).subs (T := fun b => b ≠ w1.heap.size) fun b hb _ => by have hb : w8.heap.size ≤ b := hb.elim id id; omega)
          have HSPL6 := Lib.hid hsp6
          have HRLL6 := Lib.hid hrl6
          have HBS6 := Lib.hid hbs6
          have HPL6 := Lib.hid (show (((((((([] : List Value) ++ ([.int .i64 (wrap64 (m0 : Int))] : List Value)) ++ ([.int .i64 (wrap64 (m1 : Int))] : List Value)) ++ ([.int .i64 (wrap64 (m2 : Int))] : List Value)) ++ q3) ++ ([o4] : List Value)) ++ ([o5] : List Value))).length = 37 from by simp [HL3.out])
          clear hbs6 hbss6 hrl6 hsp6 hcl6
          go_simp
          repeat (first
            | ((with_reducible (show wpList _ _ _ (⟨_, .move _, _, _, _, some _⟩ :: _) _ _)); refine wpList_and kc5 g6 _ _ _ rfl rfl rfl (by cases kc5 <;> rfl) rfl (fun _ => rfl) (fun _ => rfl) ?_; intro vA6 k6 hk6; have HK6 := Lib.hid hk6; clear hk6)
            | go_values | go_skip | go_guarded | go_step | go_upon)
          go_loopw [7, 28] (fun a i wr => ∃ (k : Nat) (c : Bool) (o : Value), k ≤ l6.length ∧ i = .int .i64 k ∧ a = .bool (!c) ∧ Hid (RefI 97 74 tTimeout ws6 w1.heap.size 107 ((((((([] : List Value) ++ ([.int .i64 (wrap64 (m0 : Int))] : List Value)) ++ ([.int .i64 (wrap64 (m1 : Int))] : List Value)) ++ ([.int .i64 (wrap64 (m2 : Int))] : List Value)) ++ q3) ++ ([o4] : List Value)) ++ ([o5] : List Value)) (([.slice none 0 0] : List Value) ++ (([.slice none 0 0] : List Value) ++ ([] : List Value))) l6 k6 o k c wr)) (fun _ i _ => l6.length - (intOf i).toNat)
          case atStart => exact ⟨0, k6, _, Nat.zero_le _, rfl, rfl, Lib.hid (RefI.start HXS6.out)⟩
          case round =>
            obtain ⟨k, kc6, o6, hk, rfl, rfl, HI⟩ := hrel
            by_cases hlt : k < l6.length
            · obtain ⟨css, hown, hob, hlo, hbx, hch⟩ := HI.out
              obtain ⟨bm, om, hAm, hTm, hbm, hallm⟩ := Bsr.all HROW6.out (by omega)
              subst hAm
              obtain ⟨Ay, cy, hcy, hyb⟩ := hallm k l6[k] (List.getElem?_eq_getElem hlt)
              have hcyw : wr.cell? ⟨bm, om + k, none⟩ = some (.slice Ay l6[k].length cy) := (World.cell?_of_block (a := ⟨bm, om + k, none⟩) (hch.block bm hbm (fun e => hTm e))).trans hcy
              have htk : l6.take (k + 1) = l6.take k ++ [l6[k]] := List.take_succ_eq_append_getElem hlt
              have hyl := HRLL6.out l6[k] (List.getElem_mem hlt)
              have hyb2 := hyb.chg hch fun b hb h => hb h
              obtain ⟨y, hy⟩ : ∃ y, y = l6[k] := ⟨_, rfl⟩
              rw [← hy] at hcyw htk hyl hyb2
              have HR := Lib.hid (rReadTimeout_any wr hyb2 hyl)
              obtain ⟨Ao, co, rfl⟩ := hown.form
              have HOWN := Lib.hid hown
              have HOB := Lib.hid hob
              have HLO := Lib.hid hlo
              have HCH := Lib.hid hch
              have HTK := Lib.hid htk
              have HBX := Lib.hid hbx
              have H63 := Lib.hid (show k + 1 ≤ maxLen ∧ (k + 1) * 176 ≤ 140737488355328 from ⟨by simp only [maxLen]; omega, by omega⟩)
              have hzr := hch.size
              clear hown hob hlo hch htk hbx hyl hy hyb hyb2 hcy hallm hTm hbm HI
              go_wp2_with fail
              refine HR.out.mono ?_
              rintro e wa ⟨hba, q, g, rfl, hs, _⟩
              have hl : q.length = 74 := hs.1
              have HL := Lib.hid hl
              have H1 := Lib.hid hs.2.1
              have HIq := Lib.hid (zrTimeout_sized hl)
              have HIq2 := Lib.hid (show (Tryz.prog.info? 97).map (fun i => (i.zero.map (fun z => z.cells.size), i.size)) = some (some q.length, q.length) from by rw [hl]; exact zrTimeout_sizes)
              have HZ := Lib.hid (show (zrTimeout).length = q.length from by rw [hl]; exact zrTimeout_len)
              have HXa := Lib.hid (HBX.out.below hba HBX.out.lt)
              have HBA := Lib.hid hba
              have HSQ := Lib.hid hs
              have hza := hba.size
              clear hba hs hl hcyw HR
              go_simp
              repeat (first
                | (go_big_may; refine wpList_store_blk (cs0 := zrTimeout) (cs := q) rfl 97 _ _ rfl (Blk.new wa _ _) rfl rfl HZ.out HIq.out H1.out ?_; intro wb hbb hcb; have HBB := Lib.hid hbb; have HCB := Lib.hid (show Chg (fun _ => False) wa wb from ((Chg.refl _ wa).alloc _).trans hcb fun b h => .inr (Nat.le_of_eq h.symm)); have HXb := Lib.hid (HXa.out.chg HCB.out id); have hco : wb.cell? ⟨w1.heap.size, 37, none⟩ = some (.slice Ao k co) := blk_mid HXb.out HPL6.out; have HO2 := Lib.hid (show ∀ ob, Own (wb.alloc ob) 97 74 (.slice Ao k co) k css.flatten from fun ob => own_keep HOWN.out fun b hb => (Below.heap_alloc wb ob b (ltle (ltle (own_lt HOWN.out hb) HBA.out.size) HCB.out.size)).trans ((HCB.out.block b (ltle (own_lt HOWN.out hb) HBA.out.size) id).trans (HBA.out.block b (own_lt HOWN.out hb)))); have HS2 := Lib.hid (Cs.of_new wb 97 (size := 74) 1 (cs := q) (by rw [HL.out]) (by simp only [maxLen]; decide)); clear hbb hcb)
                | (go_big_may; refine wpList_load_blk' rfl 97 _ rfl HBB.out rfl Tryz.underlying97 rfl HIq.out ?_)
                | (go_big_may; refine wpList_row1 rfl 105 97 _ rfl Tryz.underlying105 (.agg q.toArray) rfl q rfl HIq2.out (by rw [HL.out]; decide) (by rw [HL.out]; decide) ?_)
                | (go_big_may; at_builtin; refine wpList_app _ rfl _ _ _ rfl Tryz.underlying105 zrTimeout_info rfl (by decide) (HO2.out _) rfl HS2.out rfl H1.out H63.out.1 H63.out.2 ?_; intro v6 w6 ho6 hc6 hnil6 hat6; clear hnil6; obtain ⟨A6, c6, rfl⟩ := ho6.form; have HX6 := Lib.hid (Blk.assoc_ ((HXb.out.alloc _).chg hc6 fun h => by have := HOB.out _ h; omega)); have HO6 := Lib.hid ho6; have HC6 := Lib.hid hc6; have HAT6 := Lib.hid hat6; clear ho6 hc6 hat6)
                | (go_big_may; refine wpList_store_part (pre := ((((((([] : List Value) ++ ([.int .i64 (wrap64 (m0 : Int))] : List Value)) ++ ([.int .i64 (wrap64 (m1 : Int))] : List Value)) ++ ([.int .i64 (wrap64 (m2 : Int))] : List Value)) ++ q3) ++ ([o4] : List Value)) ++ ([o5] : List Value))) (old := ([.slice Ao k co] : List Value)) (vals := ([.slice A6 (k + 1) c6] : List Value)) (post := (([.slice none 0 0] : List Value) ++ (([.slice none 0 0] : List Value) ++ ([] : List Value)))) rfl 105 _ _ rfl HX6.out HPL6.out rfl (v := .slice A6 (k + 1) c6) rfl rfl (by simp only [List.length_cons, List.length_nil]) (by kernel_rfl) (fun u hu => by obtain rfl := List.mem_singleton.1 hu; rfl) ?_; intro w7 hx7 hc7; have HX7 := Lib.hid hx7; have HC7 := Lib.hid hc7; clear hx7 hc7)
                | ((with_reducible (show wpList _ _ _ (⟨_, .move _, _, _, _, some _⟩ :: _) _ _)); refine wpList_and kc6 g _ _ _ rfl rfl rfl (by cases kc6 <;> rfl) rfl (fun _ => rfl) (fun _ => rfl) ?_; intro vA cN hcN; have HCN := Lib.hid hcN; clear hcN)
                | go_values | go_skip | go_guarded | go_step | go_upon)
              go_wp2_with fail
              exact ⟨⟨k + 1, cN, _, by omega, by push_cast; rfl, rfl, Lib.hid (RefI.step (by omega) HOWN.out HOB.out HLO.out HCH.out HBA.out HSQ.out HCB.out HTK.out HO6.out HC6.out HAT6.out HX7.out HC7.out HCN.out)⟩, by simp only [intOf]; omega⟩
            · have hk' : k = l6.length := by omega
              subst hk'
              have HS6 := Lib.hid (HI.out.out rfl HSPL6.out HK6.out)
              obtain ⟨css, hown, _, _, hbx, hch⟩ := HI.out
              have HX9 := Lib.hid hbx
              have HC8 := Lib.hid (show Chg (fun b => b = w1.heap.size) w8 wr from (Chg.of_below HBS6.out fun b => b = w1.heap.size).trans hch fun b h => .inl h)
              clear hown hbx hch HI hk HXS6 HPS6 HROW6 HRLL6
              generalize wr = w9 at *
              have HPL6 := HPL6
              have HP9 := Lib.hid (HP8.out.trans HC8.out fun b h => .inl h)
              have hz9 := Nat.le_trans hz8 HC8.out.size
              have hcl7 : w9.cell? ⟨ba, oa + 7, none⟩ = some (.slice A_7 r7.length c_7) := (World.cell?_of_block (a := ⟨ba, oa + 7, none⟩) (HP9.out.block ba hba (fun e => by have e : ba = w1.heap.size := e; omega))).trans HC_7.out
              go_wp2_with fail
              refine (rsplit_one _ (HR_7.out.chg HP9.out fun b hb h => by have h : b = w1.heap.size := h; omega) (HRL.out _ (by simp))).mono ?_
              rintro e ws7 ⟨hbs7, As7, cs7, l7, g7, rfl, hbss7, hll7, hrl7, hsp7⟩
              have HXS7 := Lib.hid (HX9.out.below hbs7 HX9.out.lt)
              have HPS7 := Lib.hid (HP9.out.trans (Chg.of_below hbs7 fun b => b = w1.heap.size) fun b h => .inl h)
              have hzs7 := Nat.le_trans hz9 hbs7.size
              have hzt7 := hbs7.size
              have HROW7 := Lib.hid ((hbss7.read fun y hy => by have := hrl7 y hy; omega).subs (T := fun b => b ≠ w1.heap.size) fun b hb _ => by have hb : w9.heap.size ≤ b := hb.elim id id; omega)
              have HSPL7 := Lib.hid hsp7
              have HRLL7 := Lib.hid hrl7
              have HBS7 := Lib.hid hbs7
              have HPL7 := Lib.hid (show ((((((((([] : List Value) ++ ([.int .i64 (wrap64 (m0 : Int))] : List Value)) ++ ([.int .i64 (wrap64 (m1 : Int))] : List Value)) ++ ([.int .i64 (wrap64 (m2 : Int))] : List Value)) ++ q3) ++ ([o4] : List Value)) ++ ([o5] : List Value)) ++ ([o6] : List Value))).length = 38 from by simp [HL3.out])
              clear hbs7 hbss7 hrl7 hsp7 hcl7
              go_simp
              repeat (first
                | ((with_reducible (show wpList _ _ _ (⟨_, .move _, _, _, _, some _⟩ :: _) _ _)); refine wpList_and kc6 g7 _ _ _ rfl rfl rfl (by cases kc6 <;> rfl) rfl (fun _ => rfl) (fun _ => rfl) ?_; intro vA7 k7 hk7; have HK7 := Lib.hid hk7; clear hk7)
                | go_values | go_skip | go_guarded | go_step | go_upon)
              go_loopw [7, 33] (fun a i wr => ∃ (k : Nat) (c : Bool) (o : Value), k ≤ l7.length ∧ i = .int .i64 k ∧ a = .bool (!c) ∧ Hid (RefI 54 38 tCommit ws7 w1.heap.size 107 (((((((([] : List Value) ++ ([.int .i64 (wrap64 (m0 : Int))] : List Value)) ++ ([.int .i64 (wrap64 (m1 : Int))] : List Value)) ++ ([.int .i64 (wrap64 (m2 : Int))] : List Value)) ++ q3) ++ ([o4] : List Value)) ++ ([o5] : List Value)) ++ ([o6] : List Value)) (([.slice none 0 0] : List Value) ++ ([] : List Value)) l7 k7 o k c wr)) (fun _ i _ => l7.length - (intOf i).toNat)
              case atStart => exact ⟨0, k7, _, Nat.zero_le _, rfl, rfl, Lib.hid (RefI.start HXS7.out)⟩
              case round =>
                obtain ⟨k, kc7, o7, hk, rfl, rfl, HI⟩ := hrel
                by_cases hlt : k < l7.length
                · obtain ⟨css, hown, hob, hlo, hbx, hch⟩ := HI.out
                  obtain ⟨bm, om, hAm, hTm, hbm, hallm⟩ := Bsr.all HROW7.out (by omega)
                  subst hAm
                  obtain ⟨Ay, cy, hcy, hyb⟩ := hallm k l7[k] (List.getElem?_eq_getElem hlt)
                  have hcyw : wr.cell? ⟨bm, om + k, none⟩ = some (.slice Ay l7[k].length cy) := (World.cell?_of_block (a := ⟨bm, om + k, none⟩) (hch.block bm hbm (fun e => hTm e))).trans hcy
                  have htk : l7.take (k + 1) = l7.take k ++ [l7[k]] := List.take_succ_eq_append_getElem hlt
                  have hyl := HRLL7.out l7[k] (List.getElem_mem hlt)
                  have hyb2 := hyb.chg hch fun b hb h => hb h
                  obtain ⟨y, hy⟩ : ∃ y, y = l7[k] := ⟨_, rfl⟩
                  rw [← hy] at hcyw htk hyl hyb2
                  have HR := Lib.hid (rReadCommit_any wr hyb2 hyl)
                  obtain ⟨Ao, co, rfl⟩ := hown.form
                  have HOWN := Lib.hid hown
                  have HOB := Lib.hid hob
                  have HLO := Lib.hid hlo
                  have HCH := Lib.hid hch
                  have HTK := Lib.hid htk
                  have HBX := Lib.hid hbx
                  have H63 := Lib.hid (show k + 1 ≤ maxLen ∧ (k + 1) * 128 ≤ 140737488355328 from ⟨by simp only [maxLen]; omega, by omega⟩)
                  have hzr := hch.size
                  clear hown hob hlo hch htk hbx hyl hy hyb hyb2 hcy hallm hTm hbm HI
                  go_wp2_with fail
                  refine HR.out.mono ?_
                  rintro e wa ⟨hba, q, g, rfl, hs, _⟩
                  have hl : q.length = 38 := hs.1
                  have HL := Lib.hid hl
                  have H1 := Lib.hid hs.2.1
                  have HIq := Lib.hid (zrCommit_sized hl)
                  have HIq2 := Lib.hid (show (Tryz.prog.info? 54).map (fun i => (i.zero.map (fun z => z.cells.size), i.size)) = some (some q.length, q.length) from by rw [hl]; exact zrCommit_sizes)
                  have HZ := Lib.hid (show (zrCommit).length = q.length from by rw [hl]; exact zrCommit_len)
                  have HXa := Lib.hid (HBX.out.below hba HBX.out.lt)
                  have HBA := Lib.hid hba
                  have HSQ := Lib.hid hs
                  have hza := hba.size
                  clear hba hs hl hcyw HR
                  go_simp
                  repeat (first
                    | (go_big_may; refine wpList_store_blk (cs0 := zrCommit) (cs := q) rfl 54 _ _ rfl (Blk.new wa _ _) rfl rfl HZ.out HIq.out H1.out ?_; intro wb hbb hcb; have HBB := Lib.hid hbb; have HCB := Lib.hid (show Chg (fun _ => False) wa wb from ((Chg.refl _ wa).alloc _).trans hcb fun b h => .inr (Nat.le_of_eq h.symm)); have HXb := Lib.hid (HXa.out.chg HCB.out id); have hco : wb.cell? ⟨w1.heap.size, 38, none⟩ = some (.slice Ao k co) := blk_mid HXb.out HPL7.out; have HO2 := Lib.hid (show ∀ ob, Own (wb.alloc ob) 54 38 (.slice Ao k co) k css.flatten from fun ob => own_keep HOWN.out fun b hb => (Below.heap_alloc wb ob b (ltle (ltle (own_lt HOWN.out hb) HBA.out.size) HCB.out.size)).trans ((HCB.out.block b (ltle (own_lt HOWN.out hb) HBA.out.size) id).trans (HBA.out.block b (own_lt HOWN.out hb)))); have HS2 := Lib.hid (Cs.of_new wb 54 (size := 38) 1 (cs := q) (by rw [HL.out]) (by simp only [maxLen]; decide)); clear hbb hcb)
                    | (go_big_may; refine wpList_load_blk' rfl 54 _ rfl HBB.out rfl Tryz.underlying54 rfl HIq.out ?_)
                    | (go_big_may; refine wpList_row1 rfl 78 54 _ rfl Tryz.underlying78 (.agg q.toArray) rfl q rfl HIq2.out (by rw [HL.out]; decide) (by rw [HL.out]; decide) ?_)
                    | (go_big_may; at_builtin; refine wpList_app _ rfl _ _ _ rfl Tryz.underlying78 zrCommit_info rfl (by decide) (HO2.out _) rfl HS2.out rfl H1.out H63.out.1 H63.out.2 ?_; intro v6 w6 ho6 hc6 hnil6 hat6; clear hnil6; obtain ⟨A6, c6, rfl⟩ := ho6.form; have HX6 := Lib.hid (Blk.assoc_ ((HXb.out.alloc _).chg hc6 fun h => by have := HOB.out _ h; omega)); have HO6 := Lib.hid ho6; have HC6 := Lib.hid hc6; have HAT6 := Lib.hid hat6; clear ho6 hc6 hat6)
                    | (go_big_may; refine wpList_store_part (pre := (((((((([] : List Value) ++ ([.int .i64 (wrap64 (m0 : Int))] : List Value)) ++ ([.int .i64 (wrap64 (m1 : Int))] : List Value)) ++ ([.int .i64 (wrap64 (m2 : Int))] : List Value)) ++ q3) ++ ([o4] : List Value)) ++ ([o5] : List Value)) ++ ([o6] : List Value))) (old := ([.slice Ao k co] : List Value)) (vals := ([.slice A6 (k + 1) c6] : List Value)) (post := (([.slice none 0 0] : List Value) ++ ([] : List Value))) rfl 78 _ _ rfl HX6.out HPL7.out rfl (v := .slice A6 (k + 1) c6) rfl rfl (by simp only [List.length_cons, List.length_nil]) (by kernel_rfl) (fun u hu => by obtain rfl := List.mem_singleton.1 hu; rfl) ?_; intro w7 hx7 hc7; have HX7 := Lib.hid hx7; have HC7 := Lib.hid hc7; clear hx7 hc7)
                    | ((with_reducible (show wpList _ _ _ (⟨_, .move _, _, _, _, some _⟩ :: _) _ _)); refine wpList_and kc7 g _ _ _ rfl rfl rfl (by cases kc7 <;> rfl) rfl (fun _ => rfl) (fun _ => rfl) ?_; intro vA cN hcN; have HCN := Lib.hid hcN; clear hcN)
                    | go_values | go_skip | go_guarded | go_step | go_upon)
                  go_wp2_with fail
                  exact ⟨⟨k + 1, cN, _, by omega, by push_cast; rfl, rfl, Lib.hid (RefI.step (by omega) HOWN.out HOB.out HLO.out HCH.out HBA.out HSQ.out HCB.out HTK.out HO6.out HC6.out HAT6.out HX7.out HC7.out HCN.out)⟩, by simp only [intOf]; omega⟩
                · have hk' : k = l7.length := by omega
                  subst hk'
                  have HS7 := Lib.hid (HI.out.out rfl HSPL7.out HK7.out)
                  obtain ⟨css, hown, _, _, hbx, hch⟩ := HI.out
                  have HX10 := Lib.hid hbx
                  have HC9 := Lib.hid (show Chg (fun b => b = w1.heap.size) w9 wr from (Chg.of_below HBS7.out fun b => b = w1.heap.size).trans hch fun b h => .inl h)
                  clear hown hbx hch HI hk HXS7 HPS7 HROW7 HRLL7
                  generalize wr = w10 at *
                  have HPL7 := HPL7
                  have HP10 := Lib.hid (HP9.out.trans HC9.out fun b h => .inl h)
                  have hz10 := Nat.le_trans hz9 HC9.out.size
                  have hcl8 : w10.cell? ⟨ba, oa + 8, none⟩ = some (.slice A_8 r8.length c_8) := (World.cell?_of_block (a := ⟨ba, oa + 8, none⟩) (HP10.out.block ba hba (fun e => by have e : ba = w1.heap.size := e; omega))).trans HC_8.out
                  go_wp2_with fail
                  refine (rsplit_one _ (HR_8.out.chg HP10.out fun b hb h => by have h : b = w1.heap.size := h; omega) (HRL.out _ (by simp))).mono ?_
                  rintro e ws8 ⟨hbs8, As8, cs8, l8, g8, rfl, hbss8, hll8, hrl8, hsp8⟩
                  have HXS8 := Lib.hid (HX10.out.below hbs8 HX10.out.lt)
                  have HPS8 := Lib.hid (HP10.out.trans (Chg.of_below hbs8 fun b => b = w1.heap.size) fun b h => .inl h)
                  have hzs8 := Nat.le_trans hz10 hbs8.size
                  have hzt8 := hbs8.size
                  have HROW8 := Lib.hid ((hbss8.read fun y hy => by have := hrl8 y hy; omega).subs (T := fun b => b ≠ w1.heap.size) fun b hb _ => by have hb : w10.heap.size ≤ b := hb.elim id id; omega)
                  have HSPL8 := Lib.hid hsp8
                  have HRLL8 := Lib.hid hrl8
                  have HBS8 := Lib.hid hbs8
                  have HPL8 := Lib.hid (show (((((((((([] : List Value) ++ ([.int .i64 (wrap64 (m0 : Int))] : List Value)) ++ ([.int .i64 (wrap64 (m1 : Int))] : List Value)) ++ ([.int .i64 (wrap64 (m2 : Int))] : List Value)) ++ q3) ++ ([o4] : List Value)) ++ ([o5] : List Value)) ++ ([o6] : List Value)) ++ ([o7] : List Value))).length = 39 from by simp [HL3.out])
                  clear hbs8 hbss8 hrl8 hsp8 hcl8
                  go_simp
                  repeat (first
                    | ((with_reducible (show wpList _ _ _ (⟨_, .move _, _, _, _, some _⟩ :: _) _ _)); refine wpList_and kc7 g8 _ _ _ rfl rfl rfl (by cases kc7 <;> rfl) rfl (fun _ => rfl) (fun _ => rfl) ?_; intro vA8 k8 hk8; have HK8 := Lib.hid hk8; clear hk8)
                    | go_values | go_skip | go_guarded | go_step | go_upon)
                  go_loopw [7, 38] (fun a i wr => ∃ (k : Nat) (c : Bool) (o : Value), k ≤ l8.length ∧ i = .int .i64 k ∧ a = .bool (!c) ∧ Hid (RefI 72 41 tTx ws8 w1.heap.size 107 ((((((((([] : List Value) ++ ([.int .i64 (wrap64 (m0 : Int))] : List Value)) ++ ([.int .i64 (wrap64 (m1 : Int))] : List Value)) ++ ([.int .i64 (wrap64 (m2 : Int))] : List Value)) ++ q3) ++ ([o4] : List Value)) ++ ([o5] : List Value)) ++ ([o6] : List Value)) ++ ([o7] : List Value)) ([] : List Value) l8 k8 o k c wr)) (fun _ i _ => l8.length - (intOf i).toNat)
                  case atStart => exact ⟨0, k8, _, Nat.zero_le _, rfl, rfl, Lib.hid (RefI.start HXS8.out)⟩
                  case round =>
                    obtain ⟨k, kc8, o8, hk, rfl, rfl, HI⟩ := hrel
                    by_cases hlt : k < l8.length
                    · obtain ⟨css, hown, hob, hlo, hbx, hch⟩ := HI.out
                      obtain ⟨bm, om, hAm, hTm, hbm, hallm⟩ := Bsr.all HROW8.out (by omega)
                      subst hAm
                      obtain ⟨Ay, cy, hcy, hyb⟩ := hallm k l8[k] (List.getElem?_eq_getElem hlt)
                      have hcyw : wr.cell? ⟨bm, om + k, none⟩ = some (.slice Ay l8[k].length cy) := (World.cell?_of_block (a := ⟨bm, om + k, none⟩) (hch.block bm hbm (fun e => hTm e))).trans hcy
                      have htk : l8.take (k + 1) = l8.take k ++ [l8[k]] := List.take_succ_eq_append_getElem hlt
                      have hyl := HRLL8.out l8[k] (List.getElem_mem hlt)
                      have hyb2 := hyb.chg hch fun b hb h => hb h
                      obtain ⟨y, hy⟩ : ∃ y, y = l8[k] := ⟨_, rfl⟩
                      rw [← hy] at hcyw htk hyl hyb2
                      have HR := Lib.hid (rReadTx_any wr hyb2 hyl)
                      obtain ⟨Ao, co, rfl⟩ := hown.form
                      have HOWN := Lib.hid hown
                      have HOB := Lib.hid hob
                      have HLO := Lib.hid hlo
                      have HCH := Lib.hid hch
                      have HTK := Lib.hid htk
                      have HBX := Lib.hid hbx
                      have H63 := Lib.hid (show k + 1 ≤ maxLen ∧ (k + 1) * 120 ≤ 140737488355328 from ⟨by simp only [maxLen]; omega, by omega⟩)
                      have hzr := hch.size
                      clear hown hob hlo hch htk hbx hyl hy hyb hyb2 hcy hallm hTm hbm HI
                      go_wp2_with fail
                      refine HR.out.mono ?_
                      rintro e wa ⟨hba, q, g, rfl, hs, _⟩
                      have hl : q.length = 41 := hs.1
                      have HL := Lib.hid hl
                      have H1 := Lib.hid hs.2.1
                      have HIq := Lib.hid (zrTx_sized hl)
                      have HIq2 := Lib.hid (show (Tryz.prog.info? 72).map (fun i => (i.zero.map (fun z => z.cells.size), i.size)) = some (some q.length, q.length) from by rw [hl]; exact zrTx_sizes)
                      have HZ := Lib.hid (show (zrTx).length = q.length from by rw [hl]; exact zrTx_len)
                      have HXa := Lib.hid (HBX.out.below hba HBX.out.lt)
                      have HBA := Lib.hid hba
                      have HSQ := Lib.hid hs
                      have hza := hba.size
                      clear hba hs hl hcyw HR
                      go_simp
                      repeat (first
                        | (go_big_may; refine wpList_store_blk (cs0 := zrTx) (cs := q) rfl 72 _ _ rfl (Blk.new wa _ _) rfl rfl HZ.out HIq.out H1.out ?_; intro wb hbb hcb; have HBB := Lib.hid hbb; have HCB := Lib.hid (show Chg (fun _ => False) wa wb from ((Chg.refl _ wa).alloc _).trans hcb fun b h => .inr (Nat.le_of_eq h.symm)); have HXb := Lib.hid (HXa.out.chg HCB.out id); have hco : wb.cell? ⟨w1.heap.size, 39, none⟩ = some (.slice Ao k co) := blk_mid HXb.out HPL8.out; have HO2 := Lib.hid (show ∀ ob, Own (wb.alloc ob) 72 41 (.slice Ao k co) k css.flatten from fun ob => own_keep HOWN.out fun b hb => (Below.heap_alloc wb ob b (ltle (ltle (own_lt HOWN.out hb) HBA.out.size) HCB.out.size)).trans ((HCB.out.block b (ltle (own_lt HOWN.out hb) HBA.out.size) id).trans (HBA.out.block b (own_lt HOWN.out hb)))); have HS2 := Lib.hid (Cs.of_new wb 72 (size := 41) 1 (cs := q) (by rw [HL.out]) (by simp only [maxLen]; decide)); clear hbb hcb)
                        | (go_big_may; refine wpList_load_blk' rfl 72 _ rfl HBB.out rfl Tryz.underlying72 rfl HIq.out ?_)
                        | (go_big_may; refine wpList_row1 rfl 79 72 _ rfl Tryz.underlying79 (.agg q.toArray) rfl q rfl HIq2.out (by rw [HL.out]; decide) (by rw [HL.out]; decide) ?_)
                        | (go_big_may; at_builtin; refine wpList_app _ rfl _ _ _ rfl Tryz.underlying79 zrTx_info rfl (by decide) (HO2.out _) rfl HS2.out rfl H1.out H63.out.1 H63.out.2 ?_; intro v6 w6 ho6 hc6 hnil6 hat6; clear hnil6; obtain ⟨A6, c6, rfl⟩ := ho6.form; have HX6 := Lib.hid (Blk.assoc_ ((HXb.out.alloc _).chg hc6 fun h => by have := HOB.out _ h; omega)); have HO6 := Lib.hid ho6; have HC6 := Lib.hid hc6; have HAT6 := Lib.hid hat6; clear ho6 hc6 hat6)
                        | (go_big_may; refine wpList_store_part (pre := ((((((((([] : List Value) ++ ([.int .i64 (wrap64 (m0 : Int))] : List Value)) ++ ([.int .i64 (wrap64 (m1 : Int))] : List Value)) ++ ([.int .i64 (wrap64 (m2 : Int))] : List Value)) ++ q3) ++ ([o4] : List Value)) ++ ([o5] : List Value)) ++ ([o6] : List Value)) ++ ([o7] : List Value))) (old := ([.slice Ao k co] : List Value)) (vals := ([.slice A6 (k + 1) c6] : List Value)) (post := ([] : List Value)) rfl 79 _ _ rfl HX6.out HPL8.out rfl (v := .slice A6 (k + 1) c6) rfl rfl (by simp only [List.length_cons, List.length_nil]) (by kernel_rfl) (fun u hu => by obtain rfl := List.mem_singleton.1 hu; rfl) ?_; intro w7 hx7 hc7; have HX7 := Lib.hid hx7; have HC7 := Lib.hid hc7; clear hx7 hc7)
                        | ((with_reducible (show wpList _ _ _ (⟨_, .move _, _, _, _, some _⟩ :: _) _ _)); refine wpList_and kc8 g _ _ _ rfl rfl rfl (by cases kc8 <;> rfl) rfl (fun _ => rfl) (fun _ => rfl) ?_; intro vA cN hcN; have HCN := Lib.hid hcN; clear hcN)
                        | go_values | go_skip | go_guarded | go_step | go_upon)
                      go_wp2_with fail
                      exact ⟨⟨k + 1, cN, _, by omega, by push_cast; rfl, rfl, Lib.hid (RefI.step (by omega) HOWN.out HOB.out HLO.out HCH.out HBA.out HSQ.out HCB.out HTK.out HO6.out HC6.out HAT6.out HX7.out HC7.out HCN.out)⟩, by simp only [intOf]; omega⟩
                    · have hk' : k = l8.length := by omega
                      subst hk'
                      have HS8 := Lib.hid (HI.out.out rfl HSPL8.out HK8.out)
                      obtain ⟨css, hown, _, _, hbx, hch⟩ := HI.out
                      have HX11 := Lib.hid hbx
                      have HC10 := Lib.hid (show Chg (fun b => b = w1.heap.size) w10 wr from (Chg.of_below HBS8.out fun b => b = w1.heap.size).trans hch fun b h => .inl h)
                      clear hown hbx hch HI hk HXS8 HPS8 HROW8 HRLL8
                      generalize wr = w11 at *
                      have HPL8 := HPL8
                      have HP11 := Lib.hid (HP10.out.trans HC10.out fun b h => .inl h)
                      have hz11 := Nat.le_trans hz10 HC10.out.size
                      cases kc8 <;> refine Hid.out ?_
                      · refine Lib.hid ?_
                        have HRR := Lib.hid ((HR1.out.chg HP11.out (fun h => by have h : w.heap.size = w1.heap.size := h; omega)))
                        have HB0 := Lib.hid (HB1.out.trans (HP11.out.below HB1.out.size fun b h => by have h : b = w1.heap.size := h; omega))
                        have hkb3 : ∀ b, w5.heap.size ≤ b → b < wa3.heap.size → b < w6.heap.size ∧ w6.heap[b]? = wa3.heap[b]? := fun b hb hlt => ⟨ltle hlt HCD3.out.size, HCD3.out.block b hlt fun e => by have e : b = w1.heap.size := e; omega⟩
                        have ho0 : SOut i64 w3 (Nw w2.heap.size w3) r0 ([.int .i64 (wrap64 (m0 : Int))] : List Value) false g0 := (HS0.out w3 (Nw w2.heap.size w3))
                        have ho1 : SOut i64 w4 (Nw w3.heap.size w4) r1 ([.int .i64 (wrap64 (m1 : Int))] : List Value) g0 k1 := (HS1.out w4 (Nw w3.heap.size w4)).orr g0 k1 HK1.out
                        have ho2 : SOut i64 w5 (Nw w4.heap.size w5) r2 ([.int .i64 (wrap64 (m2 : Int))] : List Value) k1 k2 := (HS2.out w5 (Nw w4.heap.size w5)).orr k1 k2 HK2.out
                        have ho3 : SOut .dig w6 (Nw w5.heap.size w6) r3 q3 k2 k3 := (HS3.out.nw (k' := w5.heap.size) (w' := w6) hkb3 (Nat.le_refl _)).orr k2 k3 HK3.out
                        have ho4 : SOut (.list tBlock) w7 (Nw w6.heap.size w7) r4 ([o4] : List Value) k3 kc4 := (HS4.out.nw (k' := w6.heap.size) (fun b _ hlt => ⟨hlt, rfl⟩) hzt4)
                        have ho5 : SOut (.list tVote) w8 (Nw w7.heap.size w8) r5 ([o5] : List Value) kc4 kc5 := (HS5.out.nw (k' := w7.heap.size) (fun b _ hlt => ⟨hlt, rfl⟩) hzt5)
                        have ho6 : SOut (.list tTimeout) w9 (Nw w8.heap.size w9) r6 ([o6] : List Value) kc5 kc6 := (HS6.out.nw (k' := w8.heap.size) (fun b _ hlt => ⟨hlt, rfl⟩) hzt6)
                        have ho7 : SOut (.list tCommit) w10 (Nw w9.heap.size w10) r7 ([o7] : List Value) kc6 kc7 := (HS7.out.nw (k' := w9.heap.size) (fun b _ hlt => ⟨hlt, rfl⟩) hzt7)
                        have ho8 : SOut (.list tTx) w11 (Nw w10.heap.size w11) r8 ([o8] : List Value) kc7 false := (HS8.out.nw (k' := w10.heap.size) (fun b _ hlt => ⟨hlt, rfl⟩) hzt8)
                        have hout : Fs.Out (.cons i64 (.cons i64 (.cons i64 (.cons .dig (.cons (.list tBlock) (.cons (.list tVote) (.cons (.list tTimeout) (.cons (.list tCommit) (.cons (.list tTx) .nil))))))))) w11 (Nw (w.heap.size + 1) w11) [r0, r1, r2, r3, r4, r5, r6, r7, r8] (([.int .i64 (wrap64 (m0 : Int))] : List Value) ++ (([.int .i64 (wrap64 (m1 : Int))] : List Value) ++ (([.int .i64 (wrap64 (m2 : Int))] : List Value) ++ (q3 ++ (([o4] : List Value) ++ (([o5] : List Value) ++ (([o6] : List Value) ++ (([o7] : List Value) ++ (([o8] : List Value) ++ []))))))))) false false := Fs.Out.stepR ho0 (Fs.Out.stepR ho1 (Fs.Out.stepR ho2 (Fs.Out.stepR ho3 (Fs.Out.stepR ho4 (Fs.Out.stepR ho5 (Fs.Out.stepR ho6 (Fs.Out.stepR ho7 (Fs.Out.stepR ho8 (Fs.Out.nil_ w11 _ _) (Chg.refl (fun k => k = w1.heap.size) _) (by omega) (by omega)) HC10.out (by omega) (by omega)) (HC9.out.trans HC10.out fun b h => .inl h) (by omega) (by omega)) ((HC8.out.trans HC9.out fun b h => .inl h).trans HC10.out fun b h => .inl h) (by omega) (by omega)) (((HC7.out.trans HC8.out fun b h => .inl h).trans HC9.out fun b h => .inl h).trans HC10.out fun b h => .inl h) (by omega) (by omega)) ((((HC6.out.trans HC7.out fun b h => .inl h).trans HC8.out fun b h => .inl h).trans HC9.out fun b h => .inl h).trans HC10.out fun b h => .inl h) (by omega) (by omega)) (((((HC5.out.trans HC6.out fun b h => .inl h).trans HC7.out fun b h => .inl h).trans HC8.out fun b h => .inl h).trans HC9.out fun b h => .inl h).trans HC10.out fun b h => .inl h) (by omega) (by omega)) ((((((HC4.out.trans HC5.out fun b h => .inl h).trans HC6.out fun b h => .inl h).trans HC7.out fun b h => .inl h).trans HC8.out fun b h => .inl h).trans HC9.out fun b h => .inl h).trans HC10.out fun b h => .inl h) (by omega) (by omega)) (((((((HC3.out.trans HC4.out fun b h => .inl h).trans HC5.out fun b h => .inl h).trans HC6.out fun b h => .inl h).trans HC7.out fun b h => .inl h).trans HC8.out fun b h => .inl h).trans HC9.out fun b h => .inl h).trans HC10.out fun b h => .inl h) (by omega) (by omega)
                        have htup : SOut tMessage w11 (Nw (w.heap.size + 1) w11) bs (([.int .i64 (wrap64 (m0 : Int))] : List Value) ++ (([.int .i64 (wrap64 (m1 : Int))] : List Value) ++ (([.int .i64 (wrap64 (m2 : Int))] : List Value) ++ (q3 ++ (([o4] : List Value) ++ (([o5] : List Value) ++ (([o6] : List Value) ++ (([o7] : List Value) ++ (([o8] : List Value) ++ []))))))))) false false := Fs.Out.tup (n := 9) hout (.inl ⟨rfl, HSP.out⟩) fun l x h => Fs.decs_len _ l x h
                        have hpre : (((((((((([] : List Value) ++ ([.int .i64 (wrap64 (m0 : Int))] : List Value)) ++ ([.int .i64 (wrap64 (m1 : Int))] : List Value)) ++ ([.int .i64 (wrap64 (m2 : Int))] : List Value)) ++ q3) ++ ([o4] : List Value)) ++ ([o5] : List Value)) ++ ([o6] : List Value)) ++ ([o7] : List Value)) ++ ([o8] : List Value)) = (([.int .i64 (wrap64 (m0 : Int))] : List Value) ++ (([.int .i64 (wrap64 (m1 : Int))] : List Value) ++ (([.int .i64 (wrap64 (m2 : Int))] : List Value) ++ (q3 ++ (([o4] : List Value) ++ (([o5] : List Value) ++ (([o6] : List Value) ++ (([o7] : List Value) ++ (([o8] : List Value) ++ []))))))))) := by simp
                        obtain ⟨C, hC⟩ : ∃ C, C = (([.int .i64 (wrap64 (m0 : Int))] : List Value) ++ (([.int .i64 (wrap64 (m1 : Int))] : List Value) ++ (([.int .i64 (wrap64 (m2 : Int))] : List Value) ++ (q3 ++ (([o4] : List Value) ++ (([o5] : List Value) ++ (([o6] : List Value) ++ (([o7] : List Value) ++ (([o8] : List Value) ++ []))))))))) := ⟨_, rfl⟩
                        rw [← hC] at htup hpre
                        have hX := HX11.out
                        rw [hpre, List.append_nil] at hX
                        have HX := Lib.hid hX
                        have hCl : C.length = 40 := htup.1
                        have HI := Lib.hid (zrMessage_sized hCl)
                        have HL := Lib.hid (show zrMessage.length = C.length from by rw [hCl]; exact zrMessage_len)
                        have H1 := Lib.hid htup.2.1
                        have HT := Lib.hid htup
                        clear hout htup hpre hX hCl hC ho0 ho1 ho2 ho3 ho4 ho5 ho6 ho7 ho8 hkb3
                        go_wp2_with (first
                          | (refine wpList_load_blk' rfl 107 _ rfl HX.out rfl Tryz.underlying107 rfl HI.out ?_)
                          | (refine wpList_store_blk (cs0 := zrMessage) (cs := C) rfl 107 _ _ rfl HRR.out rfl rfl HL.out HI.out H1.out ?_; intro w9 hb9 hc9; have HB9 := Lib.hid hb9; have HC9 := Lib.hid hc9; clear hb9 hc9))
                        have hld := run_loadVar_mid (P := Tryz.prog) w9 w.heap.size 0 107 C _ HB9.out.range Tryz.underlying107 rfl HI.out
                        refine bodyPost_ret (v := .tuple #[.agg (C).toArray, .bool true]) (by simp [results, Tryz.results35, asAddr, hld]) rfl ?_
                        exact ⟨HB0.out.trans (HC9.out.below HB0.out.size fun b h => Nat.le_of_eq h.symm), C, false, rfl, HT.out.nw (w' := w9) (k' := w.heap.size) (fun b hb hlt => ⟨ltle hlt HC9.out.size, HC9.out.block b hlt fun e => by have e : b = w.heap.size := e; omega⟩) (by omega), fun h => by cases h⟩
                      · refine Lib.hid ?_
                        have HRR := Lib.hid ((HR1.out.chg HP11.out (fun h => by have h : w.heap.size = w1.heap.size := h; omega)))
                        have HB0 := Lib.hid (HB1.out.trans (HP11.out.below HB1.out.size fun b h => by have h : b = w1.heap.size := h; omega))
                        have hkb3 : ∀ b, w5.heap.size ≤ b → b < wa3.heap.size → b < w6.heap.size ∧ w6.heap[b]? = wa3.heap[b]? := fun b hb hlt => ⟨ltle hlt HCD3.out.size, HCD3.out.block b hlt fun e => by have e : b = w1.heap.size := e; omega⟩
                        have ho0 : SOut i64 w3 (Nw w2.heap.size w3) r0 ([.int .i64 (wrap64 (m0 : Int))] : List Value) false g0 := (HS0.out w3 (Nw w2.heap.size w3))
                        have ho1 : SOut i64 w4 (Nw w3.heap.size w4) r1 ([.int .i64 (wrap64 (m1 : Int))] : List Value) g0 k1 := (HS1.out w4 (Nw w3.heap.size w4)).orr g0 k1 HK1.out
                        have ho2 : SOut i64 w5 (Nw w4.heap.size w5) r2 ([.int .i64 (wrap64 (m2 : Int))] : List Value) k1 k2 := (HS2.out w5 (Nw w4.heap.size w5)).orr k1 k2 HK2.out
                        have ho3 : SOut .dig w6 (Nw w5.heap.size w6) r3 q3 k2 k3 := (HS3.out.nw (k' := w5.heap.size) (w' := w6) hkb3 (Nat.le_refl _)).orr k2 k3 HK3.out
                        have ho4 : SOut (.list tBlock) w7 (Nw w6.heap.size w7) r4 ([o4] : List Value) k3 kc4 := (HS4.out.nw (k' := w6.heap.size) (fun b _ hlt => ⟨hlt, rfl⟩) hzt4)
                        have ho5 : SOut (.list tVote) w8 (Nw w7.heap.size w8) r5 ([o5] : List Value) kc4 kc5 := (HS5.out.nw (k' := w7.heap.size) (fun b _ hlt => ⟨hlt, rfl⟩) hzt5)
                        have ho6 : SOut (.list tTimeout) w9 (Nw w8.heap.size w9) r6 ([o6] : List Value) kc5 kc6 := (HS6.out.nw (k' := w8.heap.size) (fun b _ hlt => ⟨hlt, rfl⟩) hzt6)
                        have ho7 : SOut (.list tCommit) w10 (Nw w9.heap.size w10) r7 ([o7] : List Value) kc6 kc7 := (HS7.out.nw (k' := w9.heap.size) (fun b _ hlt => ⟨hlt, rfl⟩) hzt7)
                        have ho8 : SOut (.list tTx) w11 (Nw w10.heap.size w11) r8 ([o8] : List Value) kc7 true := (HS8.out.nw (k' := w10.heap.size) (fun b _ hlt => ⟨hlt, rfl⟩) hzt8)
                        have hout : Fs.Out (.cons i64 (.cons i64 (.cons i64 (.cons .dig (.cons (.list tBlock) (.cons (.list tVote) (.cons (.list tTimeout) (.cons (.list tCommit) (.cons (.list tTx) .nil))))))))) w11 (Nw (w.heap.size + 1) w11) [r0, r1, r2, r3, r4, r5, r6, r7, r8] (([.int .i64 (wrap64 (m0 : Int))] : List Value) ++ (([.int .i64 (wrap64 (m1 : Int))] : List Value) ++ (([.int .i64 (wrap64 (m2 : Int))] : List Value) ++ (q3 ++ (([o4] : List Value) ++ (([o5] : List Value) ++ (([o6] : List Value) ++ (([o7] : List Value) ++ (([o8] : List Value) ++ []))))))))) false true := Fs.Out.stepR ho0 (Fs.Out.stepR ho1 (Fs.Out.stepR ho2 (Fs.Out.stepR ho3 (Fs.Out.stepR ho4 (Fs.Out.stepR ho5 (Fs.Out.stepR ho6 (Fs.Out.stepR ho7 (Fs.Out.stepR ho8 (Fs.Out.nil_ w11 _ _) (Chg.refl (fun k => k = w1.heap.size) _) (by omega) (by omega)) HC10.out (by omega) (by omega)) (HC9.out.trans HC10.out fun b h => .inl h) (by omega) (by omega)) ((HC8.out.trans HC9.out fun b h => .inl h).trans HC10.out fun b h => .inl h) (by omega) (by omega)) (((HC7.out.trans HC8.out fun b h => .inl h).trans HC9.out fun b h => .inl h).trans HC10.out fun b h => .inl h) (by omega) (by omega)) ((((HC6.out.trans HC7.out fun b h => .inl h).trans HC8.out fun b h => .inl h).trans HC9.out fun b h => .inl h).trans HC10.out fun b h => .inl h) (by omega) (by omega)) (((((HC5.out.trans HC6.out fun b h => .inl h).trans HC7.out fun b h => .inl h).trans HC8.out fun b h => .inl h).trans HC9.out fun b h => .inl h).trans HC10.out fun b h => .inl h) (by omega) (by omega)) ((((((HC4.out.trans HC5.out fun b h => .inl h).trans HC6.out fun b h => .inl h).trans HC7.out fun b h => .inl h).trans HC8.out fun b h => .inl h).trans HC9.out fun b h => .inl h).trans HC10.out fun b h => .inl h) (by omega) (by omega)) (((((((HC3.out.trans HC4.out fun b h => .inl h).trans HC5.out fun b h => .inl h).trans HC6.out fun b h => .inl h).trans HC7.out fun b h => .inl h).trans HC8.out fun b h => .inl h).trans HC9.out fun b h => .inl h).trans HC10.out fun b h => .inl h) (by omega) (by omega)
                        have htup : SOut tMessage w11 (Nw (w.heap.size + 1) w11) bs (([.int .i64 (wrap64 (m0 : Int))] : List Value) ++ (([.int .i64 (wrap64 (m1 : Int))] : List Value) ++ (([.int .i64 (wrap64 (m2 : Int))] : List Value) ++ (q3 ++ (([o4] : List Value) ++ (([o5] : List Value) ++ (([o6] : List Value) ++ (([o7] : List Value) ++ (([o8] : List Value) ++ []))))))))) false true := Fs.Out.tup (n := 9) hout (.inl ⟨rfl, HSP.out⟩) fun l x h => Fs.decs_len _ l x h
                        have HNO := Lib.hid (show Sh.dec tMessage bs = none from by
                          rcases htup.2.2 with ⟨_, _, h, _⟩ | ⟨h, _⟩
                          · cases h
                          · exact h)
                        clear hout htup ho0 ho1 ho2 ho3 ho4 ho5 ho6 ho7 ho8 hkb3
                        go_wp2_with (refine wpList_store_blk (cs0 := zrMessage) (cs := zrMessage) rfl 107 _ _ rfl HRR.out rfl rfl rfl zrMessage_size zrMessage_one ?_; intro w9 hb9 hc9; have HB9 := Lib.hid hb9; have HC9 := Lib.hid hc9; clear hb9 hc9)
                        have hld := run_loadVar_mid (P := Tryz.prog) w9 w.heap.size 0 107 zrMessage _ HB9.out.range Tryz.underlying107 rfl zrMessage_size
                        refine bodyPost_ret (v := .tuple #[.agg (zrMessage).toArray, .bool false]) (by simp [results, Tryz.results35, asAddr, hld]) rfl ?_
                        exact ⟨HB0.out.trans (HC9.out.below HB0.out.size fun b h => Nat.le_of_eq h.symm), _, true, rfl, ⟨zrMessage_len, zrMessage_one, .inr ⟨HNO.out, rfl⟩⟩, fun _ => rfl⟩
end
section
open Go.RowKit Go.Maps
attribute [-simp] Tryz.isAgg36 Tryz.typeInfo36 Tryz.isAgg107 Tryz.typeInfo107
set_option maxHeartbeats 8000000 in
set_option maxRecDepth 100000 in
theorem read_Message (w : World) {S : Nat → Prop} {v : Value} {bs : List UInt8} {sent : Value} (h : Bs w S v bs) (hlen : bs.length ≤ 1099511627776) (hp : Pk w sent) :
    Calls Tryz.prog 5 #[.int .i64 9, v] w (ReadAns w bs) := by
  have HF := Lib.hid (ReadMessage_any w h hp)
  have HB := Lib.hid h
  have HLEN := Lib.hid hlen
  obtain ⟨A, cap, rfl⟩ := h.form
  clear h hlen hp
  go_enter Tryz.func5, Tryz.ntmps5
  go_wp2_with fail
  refine HF.out.mono ?_
  rintro e w1 ⟨hb1, C, n, rfl, hCl, hC1, hn⟩
  have hCl : C.length = 40 := hCl
  have HZL := Lib.hid (show zrMessage.length = C.length from by rw [hCl]; exact zrMessage_len)
  have HCI := Lib.hid (zrMessage_sized hCl)
  have HC1 := Lib.hid hC1
  have HN := Lib.hid hn
  have HB1 := Lib.hid hb1
  have HBB := Lib.hid (HB.out.below hb1)
  have hz1 := hb1.size
  clear hCl hC1 hn hb1 HF
  go_wp2_with (refine wpList_store_blk (cs0 := zrMessage) (cs := C) rfl 107 _ _ rfl (Blk.new w1 _ _) rfl rfl HZL.out HCI.out HC1.out ?_; intro w2 hyy hcc; have HX2 := Lib.hid hyy; have HCw2 := Lib.hid (show Chg (fun _ => False) w1 w2 from ((Chg.refl _ w1).alloc _).trans hcc fun b h => .inr (Nat.le_of_eq h.symm)); clear hyy hcc)
  have hz2 := HCw2.out.size
  have HB2 := Lib.hid (HB1.out.trans (HCw2.out.below HB1.out.size fun b h => h.elim))
  refine (rReadMessage_any w2 (HBB.out.chg HCw2.out fun _ _ h => h) HLEN.out).mono ?_
  rintro e w3 ⟨hb3, D, g, rfl, hs, hzz⟩
  have hDl : D.length = 40 := hs.1
  have HZD := Lib.hid (show zrMessage.length = D.length from by rw [hDl]; exact zrMessage_len)
  have HDI := Lib.hid (zrMessage_sized hDl)
  have HD1 := Lib.hid hs.2.1
  have HS := Lib.hid hs
  have HZZ := Lib.hid hzz
  have HX3 := Lib.hid (HX2.out.below hb3 HX2.out.lt)
  have HB23 := Lib.hid hb3
  have HB3 := Lib.hid (HB2.out.trans (hb3.mono HB2.out.size))
  have hz3 := hb3.size
  clear hDl hs hzz hb3 HBB HX2
  by_cases hn0 : n = 0
  · subst hn0
    obtain ⟨hbl, x, hdx, hrx⟩ : bs.length ≤ 262144 ∧ ∃ x, Sh.dec tMessage bs = some x ∧ Sh.rep w1 (fun b => w.heap.size ≤ b) tMessage x C := by
      rcases HN.out with ⟨_, h⟩ | ⟨hb, ⟨x, h1, _, h3⟩ | ⟨_, h⟩⟩
      · cases h
      · exact ⟨hb, x, h1, h3⟩
      · cases h
    obtain ⟨rfl, hry⟩ : g = false ∧ Sh.rep w3 (Nw w2.heap.size w3) tMessage x D := by
      rcases HS.out.2.2 with ⟨y, h1, h2, h3⟩ | ⟨h1, _⟩
      · rw [hdx] at h1; injection h1 with h1; subst h1; exact ⟨h2, h3⟩
      · rw [hdx] at h1; cases h1
    have hex : Sh.enc tMessage x = bs := (Sh.enc_dec _ _ _ hdx).1
    have HEX := Lib.hid hex
    have HLX := Lib.hid (show (Sh.enc tMessage x).length ≤ 1099511627776 by rw [hex]; exact HLEN.out)
    have HBL := Lib.hid hbl
    have HRX := Lib.hid (Sh.rep_below (Sh.rep_chg hrx HCw2.out fun _ _ h => h) HB23.out)
    have HRY := Lib.hid hry
    clear hdx hrx hry hex hbl HN HS HZZ
    go_simp
    go_wp2_with (refine wpList_store_blk (cs0 := zrMessage) (cs := D) rfl 107 _ _ rfl (Blk.new w3 _ _) rfl rfl HZD.out HDI.out HD1.out ?_; intro w4 hyy hcc; have HY4 := Lib.hid hyy; have HCw4 := Lib.hid (show Chg (fun _ => False) w3 w4 from ((Chg.refl _ w3).alloc _).trans hcc fun b h => .inr (Nat.le_of_eq h.symm)); clear hyy hcc)
    have hx := (HX3.out.chg HCw4.out id).drew
    have hy := HY4.out.drew
    have hb := (HB3.out.trans (HCw4.out.below HB3.out.size fun b h => h.elim)).drew
    have hb4 : Below w4.heap.size w4 w4.drew := (Below.refl _ w4).drew
    have hrx := Sh.rep_below (Sh.rep_chg HRX.out HCw4.out fun _ _ h => h) hb4
    have hry := Sh.rep_below (Sh.rep_chg HRY.out HCw4.out fun _ _ h => h) hb4
    have hz4 := HCw4.out.size
    refine wp_region_segsV [([0, 2, 3, 5], [1]), ([], [4]), ([6, 7, 8, 9], [])] (by kernel_rfl) (by kernel_rfl) (by kernel_rfl) (by kernel_rfl)
      (SegV.mk (fun w' => Blk w' w1.heap.size 107 C.toArray ∧ Blk w' w3.heap.size 107 D.toArray) (fun _ _ => trivial) ⟨hx, hy⟩ ?_)
    (refine HoistK.load (by rfl) (by kernel_rfl) 107 _ rfl w1.heap.size 0 rfl C _ (fun w' hw => hw.1.range) Tryz.underlying107 rfl HCI.out ?_; simp only [Act.put, setIfInBounds_toArray, getElem_toArray, getElem_cons_zero, set_cons_succ, set_cons_zero])
    (refine HoistK.yes (by rfl) (by kernel_rfl) ⟨?_, fun w' hSw => ?_, ?_⟩; rotate_left; (· go_simp; try with_reducible rfl); simp only [Act.put, setIfInBounds_toArray, getElem_toArray, getElem_cons_succ, getElem_cons_zero, set_cons_succ, set_cons_zero])
    (refine HoistK.load (by rfl) (by kernel_rfl) 107 _ rfl w3.heap.size 0 rfl D _ (fun w' hw => hw.2.range) Tryz.underlying107 rfl HDI.out ?_; simp only [Act.put, setIfInBounds_toArray, getElem_toArray, getElem_cons_succ, getElem_cons_zero, set_cons_succ, set_cons_zero])
    (refine HoistK.yes (by rfl) (by kernel_rfl) ⟨?_, fun w' hSw => ?_, ?_⟩; rotate_left; (· go_simp; try with_reducible rfl); simp only [Act.put, setIfInBounds_toArray, getElem_toArray, getElem_cons_succ, getElem_cons_zero, set_cons_succ, set_cons_zero])
    refine HoistK.nil_ ?_
    simp only [opsAt, filterMap_cons, filterMap_nil, getElem?_toArray, getElem?_cons_succ, getElem?_cons_zero]
    refine EffS.cons_ fun _ hQ => ?_
    go_wp2_with fail
    refine (rMessage_any _ hrx HLX.out).mono ?_
    rintro e w5 ⟨v5, rfl, f5⟩
    rw [HEX.out] at f5
    obtain ⟨A5, c5, rfl⟩ := f5.1.form
    have hx5 := hx.below f5.2 hx.lt
    have hy5 := hy.below f5.2 hy.lt
    have hb5 := hb.trans (f5.2.mono hb.size)
    have hry5 := Sh.rep_below hry f5.2
    have hw5 := f5.1.sub (T := fun b => w.heap.size ≤ b) fun b hb' _ => Nat.le_trans hb.size hb'.1
    clear f5
    go_wp2_with fail
    refine hQ _ _ ⟨hx5, hy5⟩ (EffS.nil_ (SegV.mk (fun w' => (Blk w' w1.heap.size 107 C.toArray ∧ Blk w' w3.heap.size 107 D.toArray) ∧ Bs w' (fun b => w.heap.size ≤ b) (.slice A5 bs.length c5) bs) (fun _ h => h.1) ⟨⟨hx5, hy5⟩, hw5⟩ ?_))
    refine HoistK.nil_ ?_
    simp only [opsAt, filterMap_cons, filterMap_nil, getElem?_toArray, getElem?_cons_succ, getElem?_cons_zero]
    refine EffS.cons_ fun _ hQ => ?_
    go_wp2_with fail
    refine (rMessage_any _ hry5 HLX.out).mono ?_
    rintro e w6 ⟨v6, rfl, f6⟩
    rw [HEX.out] at f6
    obtain ⟨A6, c6, rfl⟩ := f6.1.form
    have hx6 := hx5.below f6.2 hx5.lt
    have hy6 := hy5.below f6.2 hy5.lt
    have hb6 := hb5.trans (f6.2.mono hb5.size)
    have hw56 := hw5.below f6.2
    have hw6 := f6.1.sub (T := fun b => w.heap.size ≤ b) fun b hb' _ => Nat.le_trans hb5.size hb'.1
    clear f6
    go_wp2_with fail
    refine hQ _ _ ⟨⟨hx6, hy6⟩, hw56⟩ (EffS.nil_ (SegV.mk (fun w' => ((Blk w' w1.heap.size 107 C.toArray ∧ Blk w' w3.heap.size 107 D.toArray) ∧ Bs w' (fun b => w.heap.size ≤ b) (.slice A5 bs.length c5) bs) ∧ Bs w' (fun b => w.heap.size ≤ b) (.slice A6 bs.length c6) bs) (fun _ h => h.1) ⟨⟨⟨hx6, hy6⟩, hw56⟩, hw6⟩ ?_))
    iterate 4 (refine HoistK.yes (by rfl) (by kernel_rfl) ⟨?_, fun w' hSw => ?_, ?_⟩; rotate_left; (· go_simp; try with_reducible rfl); simp only [Act.put, setIfInBounds_toArray, getElem_toArray, getElem_cons_succ, getElem_cons_zero, set_cons_succ, set_cons_zero])
    refine HoistK.nil_ ?_
    simp only [opsAt, filterMap_nil, getElem?_toArray]
    refine EffS.nil_ fun _ hQ => ?_
    go_wp2_with fail
    ((try simp only [Exit.inBlock, Exit.then]); refine bodyPost_ret (results_tmp4 rfl _ _ _) rfl ?_)
    exact ⟨hb6, _, _, 0, true, rfl, .inr ⟨HBL.out, .inl ⟨rfl, rfl, hw56, hw6⟩⟩⟩
  · obtain ⟨x, hrx, hlx⟩ : ∃ x, Sh.rep w3 (Nw w2.heap.size w3) tMessage x D ∧ (Sh.enc tMessage x).length ≤ 1099511627776 := by
      rcases HS.out.2.2 with ⟨x, h1, _, h3⟩ | ⟨_, h2⟩
      · exact ⟨x, h3, by rw [(Sh.enc_dec _ _ _ h1).1]; exact HLEN.out⟩
      · rw [HZZ.out h2]
        exact ⟨Sh.zel tMessage, Sh.zel_rep w3 _ tMessage, by rw [Sh.zel_len]; decide⟩
    have hans : (262144 < bs.length ∧ n = 4) ∨ (bs.length ≤ 262144 ∧ n = 5 ∧ g = true) := by
      rcases HN.out with h | ⟨hb, ⟨_, _, h, _⟩ | ⟨h1, h2⟩⟩
      · exact .inl h
      · exact absurd h hn0
      · refine .inr ⟨hb, h2, ?_⟩
        rcases HS.out.2.2 with ⟨y, h3, _, _⟩ | ⟨_, h3⟩
        · rw [h1] at h3; cases h3
        · exact h3
    have HANS := Lib.hid hans
    have HRX := Lib.hid hrx
    have HLX := Lib.hid hlx
    clear hans hrx hlx HN HS HZZ
    go_simp
    go_wp2_with (first
      | (refine wpList_store_blk (cs0 := zrMessage) (cs := D) rfl 107 _ _ rfl (Blk.new w3 _ _) rfl rfl HZD.out HDI.out HD1.out ?_; intro w4 hyy hcc; have HY4 := Lib.hid hyy; have HCw4 := Lib.hid (show Chg (fun _ => False) w3 w4 from ((Chg.refl _ w3).alloc _).trans hcc fun b h => .inr (Nat.le_of_eq h.symm)); clear hyy hcc)
      | (refine wpList_load_blk' rfl 107 _ rfl HY4.out rfl Tryz.underlying107 rfl HDI.out ?_))
    have hb4 := HB3.out.trans (HCw4.out.below HB3.out.size fun b h => h.elim)
    refine (rMessage_any _ (Sh.rep_chg HRX.out HCw4.out fun _ _ h => h) HLX.out).mono ?_
    rintro e w5 ⟨v5, rfl, f5⟩
    have hb5 := hb4.trans (f5.2.mono hb4.size)
    clear f5
    go_wp2_with fail
    ((try simp only [Exit.inBlock, Exit.then]); refine bodyPost_ret (results_tmp4 rfl _ _ _) rfl ?_)
    refine ⟨hb5, _, _, n, !g, rfl, ?_⟩
    rcases HANS.out with h | ⟨h1, h2, h3⟩
    · exact .inl h
    · exact .inr ⟨h1, .inr ⟨h2, by rw [h3]; rfl⟩⟩
end
section
open Go.RowKit Go.Maps
set_option maxHeartbeats 2000000 in
set_option maxRecDepth 100000 in
theorem listNums_any (w : World) {S : Nat → Prop} {v : Value} {l : List (Sh.list i64).El} (h : (Sh.list (Sh.list i64)).rep w S l [v]) (hl : ((Sh.list (Sh.list i64)).enc l).length ≤ 1099511627776) :
    Calls Tryz.prog 40 #[v, .func (Fn.func 39) #[] #[]] w fun e w' => ∃ v', e = .returned v' ∧ Fresh w w' v' ((Sh.list (Sh.list i64)).enc l) := by
  obtain ⟨A, cap, rfl, hlen, hat⟩ := list_at h
  have H := Lib.hid h; clear h
  have hl' : (joinB (l.map (Sh.list i64).enc)).length ≤ 1099511627776 := hl
  have hcnt := joinP_count (l.map (Sh.list i64).enc)
  rw [joinB_length] at hl'
  rw [List.length_map] at hcnt
  have HLL := Lib.hid hl
  clear hl hat
  go_enter Tryz.func40, Tryz.ntmps40
  go_wp2_with fail
  go_loopw [5, 10] (fun a i wr => ∃ k : Nat, k ≤ l.length ∧ i = .int .i64 k ∧ Bss wr (fun b => w.heap.size ≤ b) (fun b => w.heap.size ≤ b) a ((l.take k).map (Sh.list i64).enc) ∧ Below w.heap.size w wr) (fun _ i _ => l.length - (intOf i).toNat)
  case atStart => exact ⟨0, Nat.zero_le _, rfl, Bss.nil_ _ _ _, Below.refl _ _⟩
  case round =>
    obtain ⟨k, hk, rfl, hB, hbl⟩ := hrel
    by_cases hlt : k < l.length
    · obtain ⟨R, hR⟩ : ∃ R, R = (l.take k).map (Sh.list i64).enc := ⟨_, rfl⟩
      rw [← hR] at hB
      have hRl : R.length = k := by rw [hR, List.length_map, List.length_take]; omega
      have hnext : (l.take (k + 1)).map (Sh.list i64).enc = R ++ [(Sh.list i64).enc l[k]] := by rw [List.take_succ_eq_append_getElem hlt, List.map_append, ← hR]; rfl
      obtain ⟨Aa, ca, rfl⟩ := hB.form
      obtain ⟨_, _, e, _, hat⟩ := list_at (Sh.rep_below H.out hbl)
      injection e with e1 e2 e3
      subst e1 e3
      obtain ⟨b, off, c, rfl, hca, hr, hcl, _, _⟩ := hat k hlt
      obtain ⟨x, hx⟩ : ∃ x, x = l[k] := ⟨_, rfl⟩
      rw [← hx] at hr hnext
      obtain ⟨u, rfl⟩ : ∃ u, c = [u] := by obtain ⟨v, _, e, _⟩ := hr; exact ⟨v, e⟩
      have hsm2 : ((Sh.list i64).enc x).length ≤ 1099511627776 := by
        have h1 := joinP_mem (List.mem_map.2 ⟨l[k], List.getElem_mem hlt, rfl⟩ : (Sh.list i64).enc l[k] ∈ l.map (Sh.list i64).enc)
        rw [hx]; omega
      have HREP := Lib.hid hr
      have HSM := Lib.hid hsm2
      clear hr hsm2
      have hcell := Lies.one hca
      have hcell : wr.cell? ⟨b, off + k, none⟩ = some (u) := by simpa [Sh.cells, nk] using hcell
      have hown : ∀ k, (Value.slice Aa R.length ca).ownBlock = some k → k < wr.heap.size := fun k hk => by obtain ⟨vs, ho, _⟩ := hB; exact own_lt ho hk
      have HB := Lib.hid hB
      have HN := Lib.hid hnext
      have HRL := Lib.hid hRl
      have HOWN := Lib.hid hown
      clear hB hca hcl hat hx hR hnext hRl hown
      go_wp2_with fail
      refine (nums_any _ HREP.out HSM.out).mono ?_
      rintro e w1 ⟨v1, rfl, f1⟩
      have hb1 := hbl.trans (f1.2.mono hbl.size)
      obtain ⟨y, hy⟩ : ∃ y, y = (Sh.list i64).enc x := ⟨_, rfl⟩
      have f1 : Fresh wr w1 v1 y := hy ▸ f1
      rw [← hy] at HN
      obtain ⟨A1, c1, rfl⟩ := f1.1.form
      obtain ⟨vs, ho, hS, hr⟩ := HB.out.below f1.2
      have hsz1 := f1.2.size
      have hal : Below w1.heap.size w1 (w1.alloc (.cells #[.slice A1 y.length c1] 22)) := (Below.refl _ w1).alloc (Nat.le_refl _) _
      have HAL := Lib.hid hal
      have HO := Lib.hid (show Own (w1.alloc (.cells #[.slice A1 y.length c1] 22)) _ _ _ _ _ from own_keep ho fun k hk => hal.block k (own_lt ho hk))
      have HS := Lib.hid hS
      have HR := Lib.hid (fun i x u h1 h2 => (hr i x u h1 h2).below hal)
      have HU := Lib.hid ((f1.1.1.below hal).sub (T := fun b => w.heap.size ≤ b ∧ (Value.slice Aa R.length ca).ownBlock ≠ some b) fun b hb _ => ⟨Nat.le_trans hbl.size hb.1, fun e => by have := HOWN.out b e; omega⟩)
      have HS2 := Lib.hid (Cs.of_new w1 22 (size := 1) 1 (cs := [.slice A1 y.length c1]) rfl (by simp only [maxLen]; decide))
      have H63 := Lib.hid (show R.length + 1 ≤ maxLen ∧ (R.length + 1) * 24 ≤ 140737488355328 from by have := HRL.out; refine ⟨by simp only [maxLen]; omega, by omega⟩)
      clear ho hS hr hal f1 hy
      go_wp2_with (at_builtin; refine wpList_app _ rfl _ _ _ rfl Tryz.underlying121 info_row rfl (by decide) HO.out rfl HS2.out rfl (by simp [Value.oneCell']) H63.out.1 H63.out.2 ?_; intro v3 w3 ho3 hg3 hnil3 hat3; clear hnil3; have HO3 := Lib.hid ho3; clear ho3; have HG3 := Lib.hid hg3; clear hg3; have HAT3 := Lib.hid hat3; clear hat3)
      have hpush := Bss.push HO.out HS.out HR.out HU.out HO3.out HG3.out HAT3.out (by have := hb1.size; have := HAL.out.size; omega)
      rw [← HN.out] at hpush
      refine ⟨⟨k + 1, by omega, by push_cast; rfl, hpush, (hb1.trans (HAL.out.mono hb1.size)).trans (HG3.out.below (Nat.le_trans hb1.size HAL.out.size) fun b h => HS.out b h)⟩, ?_⟩
      simp only [intOf]
      omega
    · have hk' : k = l.length := by omega
      rw [hk', List.take_length] at hB
      have hsm : ∀ x ∈ l.map (Sh.list i64).enc, x.length ≤ 140737488355328 := fun x hx => by have := joinP_mem hx; omega
      have hj := join_any _ ((hB.read hsm).lt_ (T := fun b => w.heap.size ≤ b) fun b h => h.elim id id) (by rw [joinB_length]; omega) fun b h => h.2
      have HJ := Lib.hid hj
      obtain ⟨R, hR⟩ : ∃ R, R = l.map (Sh.list i64).enc := ⟨_, rfl⟩
      have HR := Lib.hid hR
      rw [← hR] at hB HJ
      obtain ⟨Aa, ca, rfl⟩ := hB.form
      clear hj hB hR hsm
      go_wp2_with fail
      refine HJ.out.mono ?_
      rintro e w1 ⟨v1, rfl, f1⟩
      go_wp2_with fail
      go_ret
      refine ⟨v1, rfl, ?_, hbl.trans (f1.2.mono hbl.size)⟩
      have := f1.1.sub (T := fun b => w.heap.size ≤ b ∧ Th w1 b) fun b hb _ => ⟨Nat.le_trans hbl.size hb.1, hb.2⟩
      rw [HR.out] at this
      exact this
end
section
open Go.RowKit Go.Maps
attribute [-simp] Tryz.isAgg36 Tryz.typeInfo36
set_option maxHeartbeats 4000000 in
set_option maxRecDepth 100000 in
theorem record_any (w : World) {S : Nat → Prop} {x : tRecord.El} {cs : List Value} (h : tRecord.rep w S x cs) (hl : (tRecord.enc x).length ≤ 1099511627776) :
    Calls Tryz.prog 6 #[.agg cs.toArray] w fun e w' => ∃ v', e = .returned v' ∧ Fresh w w' v' (tRecord.enc x) := by
  obtain ⟨x0, x1, x2, _⟩ := x
  obtain ⟨c0, _, rfl, ⟨rfl, _⟩, c1, _, rfl, r1, c2, _, rfl, r2, rfl⟩ := h
  obtain ⟨y1, rfl⟩ : ∃ y, c1 = [y] := by obtain ⟨v, _, e, _⟩ := r1; exact ⟨v, e⟩
  obtain ⟨y2, rfl⟩ : ∃ y, c2 = [y] := by obtain ⟨v, _, e, _⟩ := r2; exact ⟨v, e⟩
  have R1 := Lib.hid r1; clear r1
  have R2 := Lib.hid r2; clear r2
  simp only [nk_t]
  obtain ⟨C, hC⟩ : ∃ C, C = [Value.int .i64 x0] ++ ([y1] ++ ([y2] ++ ([]))) := ⟨_, rfl⟩
  rw [← hC]
  have hf : ∀ w', Blk w' w.heap.size 32 C.toArray → w'.cell? ⟨w.heap.size, 0, none⟩ = some (.int .i64 x0) ∧ w'.cell? ⟨w.heap.size, 1, none⟩ = some y1 ∧ w'.cell? ⟨w.heap.size, 2, none⟩ = some y2 := fun w' hb => by
    have := hb.lies [[Value.int .i64 x0], [y1], [y2]] [] (by rw [hC]; simp)
    simp only [Lies, List.length_cons, List.length_nil] at this
    obtain ⟨s0, s1, s2, _⟩ := this
    exact ⟨Lies.one s0, Lies.one s1, Lies.one s2⟩
  have HF := Lib.hid hf
  clear hf hC
  have hrows : tRecord.enc (x0, x1, x2, ()) = joinB [numB x0, (Sh.list i64).enc x1, (Sh.list (Sh.list i64)).enc x2] := rfl
  have hl' : (joinB [numB x0, (Sh.list i64).enc x1, (Sh.list (Sh.list i64)).enc x2]).length ≤ 1099511627776 := hl
  have HLL := Lib.hid hl'
  clear hl hl'
  go_enter Tryz.func6, Tryz.ntmps6
  go_wp2_with fail
  have hsz : w.heap.size < w.heap.size + 1 := by omega
  refine wp_region_hoist [0, 1, 3, 4, 6, 7] [2, 5, 8] [9, 10, 11] (fun w' => Blk w' w.heap.size 32 C.toArray)
    (by kernel_rfl) (by kernel_rfl) (by kernel_rfl) (by kernel_rfl) (by kernel_rfl) (by kernel_rfl) (Blk.new w _ _).drew ?_
  (refine HoistK.yes (by rfl) (by kernel_rfl) ⟨?_, fun w' hSw => ?_, ?_⟩; rotate_left; (· go_simp; try with_reducible rfl); simp only [Act.put, setIfInBounds_toArray, getElem_toArray, getElem_cons_zero, set_cons_succ, set_cons_zero])
  (refine HoistK.yes (by rfl) (by kernel_rfl) ⟨?_, fun w' hSw => ?_, ?_⟩; rotate_left; (· obtain ⟨s0, s1, s2⟩ := HF.out _ hSw; go_simp; try with_reducible rfl); simp only [Act.put, setIfInBounds_toArray, getElem_toArray, getElem_cons_succ, getElem_cons_zero, set_cons_succ, set_cons_zero])
  (refine HoistK.yes (by rfl) (by kernel_rfl) ⟨?_, fun w' hSw => ?_, ?_⟩; rotate_left; (· go_simp; try with_reducible rfl); simp only [Act.put, setIfInBounds_toArray, getElem_toArray, getElem_cons_succ, getElem_cons_zero, set_cons_succ, set_cons_zero])
  (refine HoistK.yes (by rfl) (by kernel_rfl) ⟨?_, fun w' hSw => ?_, ?_⟩; rotate_left; (· obtain ⟨s0, s1, s2⟩ := HF.out _ hSw; go_simp; try with_reducible rfl); simp only [Act.put, setIfInBounds_toArray, getElem_toArray, getElem_cons_succ, getElem_cons_zero, set_cons_succ, set_cons_zero])
  (refine HoistK.yes (by rfl) (by kernel_rfl) ⟨?_, fun w' hSw => ?_, ?_⟩; rotate_left; (· go_simp; try with_reducible rfl); simp only [Act.put, setIfInBounds_toArray, getElem_toArray, getElem_cons_succ, getElem_cons_zero, set_cons_succ, set_cons_zero])
  (refine HoistK.yes (by rfl) (by kernel_rfl) ⟨?_, fun w' hSw => ?_, ?_⟩; rotate_left; (· obtain ⟨s0, s1, s2⟩ := HF.out _ hSw; go_simp; try with_reducible rfl); simp only [Act.put, setIfInBounds_toArray, getElem_toArray, getElem_cons_succ, getElem_cons_zero, set_cons_succ, set_cons_zero])
  refine HoistK.nil_ ?_
  simp only [opsAt, filterMap_cons, filterMap_nil, getElem?_toArray, getElem?_cons_succ, getElem?_cons_zero]
  have hb0 : Blk (w.alloc (.cells C.toArray 32)).drew w.heap.size 32 C.toArray := (Blk.new w _ _).drew
  have g0 : Got w (w.alloc (.cells C.toArray 32)).drew [] [] := Got.start ((Below.refl _ w).alloc (Nat.le_refl _) _).drew
  refine Effects.cons_ fun _ hQ1 => ?_
  go_wp2_with fail
  refine (numInt_any _ _).mono ?_
  rintro e w1 ⟨v1, rfl, f1⟩
  have g1 := g0.step f1
  have hb1 := hb0.below f1.2 hb0.lt
  clear f1
  go_wp2_with fail
  refine hQ1 _ _ hb1 (Effects.cons_ fun _ hQ2 => ?_)
  clear hQ1 hb0 g0
  go_wp2_with fail
  refine (nums_any _ (Sh.rep_below R1.out g1.1) (by have h1 := HLL.out; rw [joinB_length] at h1; have h2 := joinP_mem (l := [numB x0, (Sh.list i64).enc x1, (Sh.list (Sh.list i64)).enc x2]) (x := (Sh.list i64).enc x1) (by simp); omega)).mono ?_
  rintro e w2 ⟨v2, rfl, f2⟩
  have g2 := g1.step f2
  have hb2 := hb1.below f2.2 hb1.lt
  clear f2
  go_wp2_with fail
  refine hQ2 _ _ hb2 (Effects.cons_ fun _ hQ3 => ?_)
  clear hQ2 hb1 g1
  go_wp2_with fail
  refine (listNums_any _ (Sh.rep_below R2.out g2.1) (by have h1 := HLL.out; rw [joinB_length] at h1; have h2 := joinP_mem (l := [numB x0, (Sh.list i64).enc x1, (Sh.list (Sh.list i64)).enc x2]) (x := (Sh.list (Sh.list i64)).enc x2) (by simp); omega)).mono ?_
  rintro e w3 ⟨v3, rfl, f3⟩
  have g3 := g2.step f3
  have hb3 := hb2.below f3.2 hb2.lt
  clear f3
  go_wp2_with fail
  refine hQ3 _ _ hb3 (Effects.nil_ fun _ hQ4 => ?_)
  clear hQ3 hb2 g2
  have hcs : ∀ v ∈ [v1, v2, v3], v.cells = #[v] := fun v hv => by
    obtain ⟨i, hi, rfl⟩ := List.getElem_of_mem hv
    obtain ⟨y, _, hr⟩ := g3.2.get i hi
    obtain ⟨A, c, e⟩ := hr.form
    have e' : [v1, v2, v3][i] = .slice A y.length c := e
    rw [e']; rfl
  refine wpList_rows rfl 3 _ rfl [v1, v2, v3] rfl (by decide) (by decide) hcs (by simp [Act.eval]) ?_
  have hr : Bsr (w3.alloc (.cells [v1, v2, v3].toArray 22)) (fun b => b < w3.heap.size + 1) (.slice (some ⟨w3.heap.size, 0, none⟩) 3 3) [numB x0, (Sh.list i64).enc x1, (Sh.list (Sh.list i64)).enc x2] := g3.row (by simp [maxLen]) 22
  have hj := join_any _ hr (by have := HLL.out; omega) (fun b hb => by simpa using hb)
  have hbb : Below w.heap.size w (w3.alloc (.cells [v1, v2, v3].toArray 22)) := g3.1.alloc g3.1.size _
  have HJ := Lib.hid hj
  have HBB := Lib.hid hbb
  clear hj hbb hr g3 hcs
  go_wp2_with fail
  refine HJ.out.mono ?_
  rintro e w4 ⟨v4, rfl, f4⟩
  go_wp2_with fail
  go_ret
  exact ⟨v4, rfl, f4.1.sub fun b hb _ => ⟨Nat.le_trans HBB.out.size hb.1, hb.2⟩, HBB.out.trans (f4.2.mono HBB.out.size)⟩
end
section
open Go.RowKit Go.Maps
theorem u8s_at {w : World} {S : Nat → Prop} {A : Option Addr} {n cap : Nat} {bs : List UInt8} (h : Cs w S 1 (.slice A n cap) n (u8s bs)) (i : Nat) (hi : i < bs.length) (hn : n = bs.length) : ∃ b off, A = some ⟨b, off, none⟩ ∧ S b ∧ b < w.heap.size ∧ w.cell? ⟨b, off + i, none⟩ = some (.int .u8 (bs[i]'hi).toNat) := by
  obtain ⟨_, A', cap', e, _, _, hp⟩ := h
  injection e with e1 _ e3
  subst e1 e3
  obtain ⟨b, off, rfl, hS, hlt, hc⟩ := hp (by omega)
  exact ⟨b, off, rfl, hS, hlt, hc i _ (u8s_get bs i hi)⟩
def rec0 : List UInt8 := tRecord.enc ((0 : Int), [], [], ())
theorem rec0_len : rec0.length = 56 := by decide
theorem rec0_7 : (rec0[7]'(by rw [rec0_len]; decide)).toNat = 3 := by decide
theorem rec0_rep (w : World) : tRecord.rep w (fun _ => False) ((0 : Int), [], [], ()) [.int .i64 0, .slice none 0 0, .slice none 0 0] :=
  ⟨[.int .i64 0], [.slice none 0 0, .slice none 0 0], rfl, ⟨rfl, by decide⟩, [.slice none 0 0], [.slice none 0 0], rfl, ⟨_, [], rfl, Cs.nil_ _ _ _, .nil⟩, [.slice none 0 0], [], rfl, ⟨_, [], rfl, Cs.nil_ _ _ _, .nil⟩, rfl⟩
theorem rec0_dec (w : World) : tRecord.dec rec0 = some ((0 : Int), [], [], ()) := Sh.dec_enc tRecord ((0 : Int), [], [], ()) (Sh.rep_wf tRecord _ _ (rec0_rep w)) (by show rec0.length < _; rw [rec0_len]; decide)
theorem tup_dec (fs : Fs) (b : List UInt8) : (Sh.tup fs).dec b = match splitB b with | none => none | some l => fs.decs l := rfl
theorem noughts_dec : tRecord.dec (List.replicate 8 0) = none := by
  rw [tup_dec, show splitB (List.replicate 8 0) = some [] by decide]
  rfl
set_option maxHeartbeats 4000000 in
set_option maxRecDepth 100000 in
theorem awake_any (w : World) {sent : Value} (hp : Pk w sent) : Calls Tryz.prog 4 #[] w fun e w' => e = .returned (.bool true) ∧ Below w.heap.size w w' := by
  obtain ⟨Y, hY⟩ : ∃ Y : List UInt8, Y = List.replicate 8 0 := ⟨_, rfl⟩
  have hYl : Y.length = 8 := by rw [hY, List.length_replicate]
  have hYd : tRecord.dec Y = none := by rw [hY]; exact noughts_dec
  have hmk8 : ∀ u, (Instr.makeSlice 22 (.int .i64 8) (.int .i64 8)).run Tryz.prog u = .ok (.slice (some ⟨u.heap.size, 0, none⟩) 8 8) (u.alloc (.cells (u8s Y).toArray 5)) := fun u => by rw [hY]; exact run_make_bytes 8 (by decide) u
  have HYL := Lib.hid hYl
  have HYD := Lib.hid hYd
  obtain ⟨Z, hZ⟩ : ∃ Z : List UInt8, Z = List.replicate 262145 0 := ⟨_, rfl⟩
  have hZl : Z.length = 262145 := by rw [hZ, List.length_replicate]
  have hmkZ : ∀ u, (Instr.makeSlice 22 (.int .i64 262145) (.int .i64 262145)).run Tryz.prog u = .ok (.slice (some ⟨u.heap.size, 0, none⟩) 262145 262145) (u.alloc (.cells (u8s Z).toArray 5)) := fun u => by rw [hZ]; exact run_make_bytes 262145 (by decide) u
  have HMK8 := Lib.hid hmk8
  have HMKZ := Lib.hid hmkZ
  have HZL := Lib.hid hZl
  clear hmk8 hZ hmkZ hZl hY hYl hYd
  have HR := Lib.hid (record_any w (rec0_rep w) (by show rec0.length ≤ _; rw [rec0_len]; decide))
  go_enter Tryz.func4, Tryz.ntmps4
  go_wp2_with fail
  refine HR.out.mono ?_
  rintro e w1 ⟨v1, rfl, f1⟩
  have f1 : Fresh w w1 v1 rec0 := f1
  have HP1 := Lib.hid (hp.below f1.2)
  have HRD := Lib.hid (ReadRecord_any w1 f1.1 HP1.out)
  have HB1 := Lib.hid f1.2
  have HF1 := Lib.hid f1.1
  obtain ⟨A1, c1, rfl⟩ := f1.1.form
  rw [rec0_len] at HRD
  simp only [rec0_len]
  clear f1 HR
  go_wp2_with fail
  refine HRD.out.mono ?_
  rintro e w2 ⟨hb2, C, n, rfl, hl, h1, hn⟩
  obtain ⟨e0, hx, rfl⟩ : ∃ e0 : Unit, tRecord.rep w2 (fun b => w1.heap.size ≤ b) ((0 : Int), [], [], ()) C ∧ n = 0 := by
    rcases hn with ⟨h1, _⟩ | ⟨_, ⟨x, hd, h2, h3⟩ | ⟨hd, _⟩⟩
    · rw [rec0_len] at h1; omega
    · rw [rec0_dec w] at hd; injection hd with hd; subst hd; exact ⟨(), h3, h2⟩
    · rw [rec0_dec w] at hd; cases hd
  obtain ⟨_, _, rfl, ⟨rfl, _⟩, _, _, rfl, ⟨q1, _, rfl, hq1, _⟩, _, _, rfl, ⟨q2, _, rfl, hq2, _⟩, rfl⟩ := hx
  obtain ⟨A2, c2, e2⟩ : ∃ A c, q1 = .slice A 0 c := hq1.form
  obtain ⟨A3, c3, e3⟩ : ∃ A c, q2 = .slice A 0 c := hq2.form
  subst e2 e3
  simp only [nk_t, List.cons_append, List.nil_append, List.append_nil]
  have HB2 := Lib.hid (HB1.out.trans (hb2.mono HB1.out.size))
  have hx7 := u8s_at (HF1.out.below hb2).1 7 (by rw [rec0_len]; decide) rfl
  obtain ⟨b7, o7, rfl, hS7, hlt7, hc7⟩ := hx7
  have hs12 := hb2.size
  have hal3 := (Below.refl w2.heap.size w2).alloc (Nat.le_refl _) (.cells #[.int .i64 0, .slice A2 0 c2, .slice A3 0 c3] 32)
  have h8 := Bs.of_new (w2.alloc (.cells #[.int .i64 0, .slice A2 0 c2, .slice A3 0 c3] 32)) 5 Y (by rw [HYL.out]; decide) (0, 0)
  rw [HYL.out, show (w2.alloc (.cells #[.int .i64 0, .slice A2 0 c2, .slice A3 0 c3] 32)).heap.size = w2.heap.size + 1 by simp] at h8
  have hal4 := hal3.alloc (by simp) (.cells (u8s Y).toArray 5)
  have HRD8 := Lib.hid (ReadRecord_any _ h8 ((HP1.out.below hb2).below hal4))
  have HX := Lib.hid ((Blk.new w2 32 #[.int .i64 0, .slice A2 0 c2, .slice A3 0 c3]).alloc (.cells (u8s Y).toArray 5))
  have HAL4 := Lib.hid hal4
  have hb2' := hb2
  have hmk8 := HMK8.out
  have HC7 := Lib.hid hc7
  clear h8 hal3 hal4 hb2 hq1 hq2 HRD hl h1 hn hc7
  go_wp2_with fail
  refine HRD8.out.mono ?_
  rintro e w3 ⟨hb3, C, n, rfl, hl, h1, hn⟩
  obtain rfl : n = 5 := by
    rcases hn with ⟨h1, _⟩ | ⟨_, ⟨x, hd, _⟩ | ⟨_, h2⟩⟩
    · rw [HYL.out] at h1; omega
    · rw [HYD.out] at hd; cases hd
    · exact h2
  have hl : C.length = 3 := hl
  have HL := Lib.hid hl
  have HI := Lib.hid (show (Tryz.prog.info? 32).map (·.size) = some C.length from by rw [hl]; kernel_rfl)
  have H1 := Lib.hid h1
  have HX3 := Lib.hid (HX.out.below hb3 HX.out.lt)
  have HB3 := Lib.hid ((HB2.out.trans (HAL4.out.mono HB2.out.size)).trans (hb3.mono (HB2.out.trans (HAL4.out.mono HB2.out.size)).size))
  have HC73 := Lib.hid ((World.cell?_of_block (a := ⟨b7, o7 + 7, none⟩) (hb3.block b7 (ltle hlt7 HAL4.out.size))).trans ((World.cell?_of_block (a := ⟨b7, o7 + 7, none⟩) (HAL4.out.block b7 hlt7)).trans HC7.out))
  have hb73 : b7 < w3.heap.size := ltle hlt7 (Nat.le_trans HAL4.out.size hb3.size)
  have HP3 := Lib.hid ((((HP1.out.below hb2').below HAL4.out)).below hb3)
  have hmkZ := HMKZ.out
  clear hmk8 hb3 HRD8 hl h1 hn HX
  go_wp2_with (refine wpList_store_blk (cs0 := [.int .i64 0, .slice none 0 0, .slice none 0 0]) (cs := C) rfl 32 _ _ rfl (Blk.new w3 _ _) rfl rfl (by rw [HL.out]; rfl) HI.out H1.out ?_; intro w4 hb4 hc4; have HC4 := Lib.hid (show Chg (fun _ => False) w3 w4 from ((Chg.refl _ w3).alloc _).trans hc4 fun b h => .inr (Nat.le_of_eq h.symm)); clear hb4 hc4)
  have hb34 := HC4.out.below (Nat.le_refl _) fun b h => h.elim
  have hZ8 := Bs.of_new w4 5 Z (by rw [HZL.out]; decide) (0, 0)
  rw [HZL.out] at hZ8
  have hal6 := (Below.refl w4.heap.size w4).alloc (Nat.le_refl _) (.cells (u8s Z).toArray 5)
  have HRD9 := Lib.hid (ReadRecord_any _ hZ8 ((HP3.out.below hb34).below hal6))
  have HX4 := Lib.hid (HX3.out.below hb34 HX3.out.lt)
  have HC74 := Lib.hid ((World.cell?_of_block (a := ⟨b7, o7 + 7, none⟩) (hb34.block b7 hb73)).trans HC73.out)
  have hb74 := ltle hb73 hb34.size
  have HB4 := Lib.hid (HB3.out.trans (hb34.mono HB3.out.size))
  have HAL6 := Lib.hid hal6
  clear hZ8 hal6 hb34 HX3 HC73 HB3 HP3
  refine HRD9.out.mono ?_
  rintro e w5 ⟨hb5, C', n, rfl, hl, h1, hn⟩
  obtain rfl : n = 4 := by
    rcases hn with ⟨_, h1⟩ | ⟨h1, _⟩
    · exact h1
    · rw [HZL.out] at h1; omega
  have hl : C'.length = 3 := hl
  have HL' := Lib.hid hl
  have HI' := Lib.hid (show (Tryz.prog.info? 32).map (·.size) = some C'.length from by rw [hl]; kernel_rfl)
  have H1' := Lib.hid h1
  have hbx : Below w4.heap.size w4 w5 := HAL6.out.trans (hb5.mono HAL6.out.size)
  have hx5 := (HX4.out.below hbx HX4.out.lt)
  have hxc := hx5.cell
  have hc5 := (World.cell?_of_block (a := ⟨b7, o7 + 7, none⟩) (hbx.block b7 hb74)).trans HC74.out
  rw [show ((rec0[7]'(by rw [rec0_len]; decide)).toNat : Int) = 3 from by rw [rec0_7]; rfl] at hc5
  have HB5 := Lib.hid (HB4.out.trans (hbx.mono HB4.out.size))
  have hb75 := ltle hb74 hbx.size
  have hx5l := hx5.lt
  have HXC := Lib.hid hxc
  have HC5 := Lib.hid hc5
  clear hl h1 hn hbx hx5 HC74 HX4 HB4 hb5 hmkZ hxc hc5
  go_wp2_with (refine wpList_store_blk (cs0 := [.int .i64 0, .slice none 0 0, .slice none 0 0]) (cs := C') rfl 32 _ _ rfl (Blk.new w5 _ _) rfl rfl (by rw [HL'.out]; rfl) HI'.out H1'.out ?_; intro w6 hb6 hc6; have HC6 := Lib.hid (show Chg (fun _ => False) w5 w6 from ((Chg.refl _ w5).alloc _).trans hc6 fun b h => .inr (Nat.le_of_eq h.symm)); clear hb6 hc6; have hxc : ∀ i, w6.cell? ⟨w2.heap.size, i, none⟩ = _ := fun i => (World.cell?_of_block (a := ⟨w2.heap.size, i, none⟩) (HC6.out.block w2.heap.size hx5l id)).trans (HXC.out i); have hc7 : w6.cell? ⟨b7, o7 + 7, none⟩ = some (.int .u8 3) := (World.cell?_of_block (a := ⟨b7, o7 + 7, none⟩) (HC6.out.block b7 hb75 id)).trans HC5.out)
  go_ret
  exact ⟨rfl, HB5.out.trans (HC6.out.below HB5.out.size fun b h => h.elim)⟩
end
section
open Go.ChangeShapes Go.WideShapes Go.ChangeAt Go.RowKit
theorem pk_gF : Tryz.prog.globalNamed "wapentake/codec.errForm" = some 1 := by kernel_rfl
theorem pk_gB : Tryz.prog.globalNamed "wapentake/codec.errBytes" = some 0 := by kernel_rfl
theorem pk_gH : Tryz.prog.globalNamed "errors.errorType" = some 2 := by kernel_rfl
theorem pk_gFt : (Tryz.prog.globals[1]?).map (·.type) = some 156 := by kernel_rfl
theorem pk_gBt : (Tryz.prog.globals[0]?).map (·.type) = some 156 := by kernel_rfl
theorem pk_rt : (Tryz.prog.cutTypes.find? (·.1 == "internal/reflectlite.rtype")).map (·.2) = some 222 := by kernel_rfl
theorem pk_rows : ((List.range Tryz.prog.types.size).filter fun t => Tryz.prog.rowNamed t [101, 114, 114, 111, 114]) = [156] := by kernel_rfl
theorem pk_cells1 : Tryz.prog.cellsOf 258 = 1 := by kernel_rfl
theorem pk_cells2 : Tryz.prog.cellsOf 9 = 1 := by kernel_rfl
theorem pk_star : "*" ++ "errors.errorString" = "*errors.errorString" := by decide
theorem pk_row (u : TypeId) (h : Tryz.prog.typeName? 3 u = some "*errors.errorString") : u = 237 :=
  typeName_ptr_named (nm := "errors.errorString") (by rw [pk_star]; kernel_rfl) (by kernel_rfl) (by decide) u (by rw [pk_star]; exact h)
def codecLaid : List (String × DataW Unit) := [("errors.errorType", Rows.laid_errors_errorType), ("wapentake/codec.errForm", Rows.laid_wapentake_codec_errForm), ("wapentake/codec.errBytes", Rows.laid_wapentake_codec_errBytes)]
theorem pk_of_laid {W : World} (h : laidMetH Tryz.prog codecLaid W) : ∃ sent, Pk W sent := by
  have h' : laidMet Tryz.prog [("wapentake/codec.errForm", Rows.laid_wapentake_codec_errForm), ("wapentake/codec.errBytes", Rows.laid_wapentake_codec_errBytes)] W ∧ handlesMet Tryz.prog [("errors.errorType", Rows.laid_errors_errorType)] W := h
  obtain ⟨name, u, ty, e1, e2, e3, e4, e5⟩ := h'.2 _ (List.mem_singleton.2 rfl)
  have en : name = [101, 114, 114, 111, 114] := (Option.some.inj e1).symm
  subst en
  obtain rfl := Option.some.inj (pk_rt.symm.trans e2)
  have hm : ty ∈ (List.range Tryz.prog.types.size).filter fun t => Tryz.prog.rowNamed t [101, 114, 114, 111, 114] := List.mem_filter.2 ⟨List.mem_range.2 e3, e4⟩
  rw [pk_rows] at hm
  obtain rfl := List.mem_singleton.1 hm
  have hh : typeHandle Tryz.prog 156 = .pointer (some ⟨nG, 156, none⟩) := by kernel_rfl
  rw [hh] at e5
  have hty : W.cell? ⟨2, 0, none⟩ = some (.iface 222 (.agg #[.pointer (some ⟨nG, 156, none⟩)])) := by simpa using World.var?_cell pk_gH e5 0
  obtain ⟨a0, a1, s0, s1, c0, c1, t0, t1, hv0, hv1, hc0, hs0, hz0, hc1, hs1, hz1, hne, hb0, hb1⟩ := laid_sentinels2 h'.1 pk_gF pk_gFt pk_gB pk_gBt Tryz.underlying156 pk_row Tryz.underlying237 Tryz.underlying258 rfl rfl Tryz.underlying9 pk_cells1 pk_cells2
  have hg0 : W.cell? ⟨1, 0, none⟩ = some (.iface 237 (.pointer (some a0))) := by simpa using World.var?_cell pk_gF hv0 0
  have hg1 : W.cell? ⟨0, 0, none⟩ = some (.iface 237 (.pointer (some a1))) := by simpa using World.var?_cell pk_gB hv1 0
  exact ⟨_, ⟨⟨a0, rfl⟩, hg0⟩, a0, a1, c0, c1, t0, t1, rfl, hne, hb0, hb1, hg1, hty⟩
abbrev formS : ByteArray := { data := #[110, 111, 32, 115, 117, 99, 104, 32, 102, 111, 114, 109] }
abbrev bytesS : ByteArray := { data := #[116, 111, 111, 32, 109, 97, 110, 121, 32, 98, 121, 116, 101, 115] }
noncomputable def codecLow : Nat := (World.holding Tryz.prog default ⟨#[], #[], []⟩).heap.size
noncomputable def codecWorld (os : Os) : World :=
  let w0 := World.holding Tryz.prog os ⟨#[.cells #[.string formS] 258, .cells #[.string bytesS] 258], #[], []⟩
  { w0 with heap := ((w0.heap.modify 1 fun
      | .cells _ t frozen => .cells #[.iface 237 (.pointer (some ⟨codecLow, 0, none⟩))] t frozen
      | o => o).modify 0 fun
      | .cells _ t frozen => .cells #[.iface 237 (.pointer (some ⟨codecLow + 1, 0, none⟩))] t frozen
      | o => o).modify 2 fun
      | .cells _ t frozen => .cells #[.iface 222 (.agg #[.pointer (some ⟨nG, 156, none⟩)])] t frozen
      | o => o }
theorem codecWorld_met (os : Os) (args : Array Value) : laidMetH Tryz.prog codecLaid ((codecWorld os).forCall (fun _ _ => 0) ⟨#[], args, []⟩).memory :=
  laidMetH_of_parts (laidMet_of_run (ps := [.cell 1 0, .cell codecLow 0, .cell 0 0, .cell (codecLow + 1) 0]) 8 (by kernel_rfl) (by kernel_rfl) (by kernel_rfl)) (by kernel_rfl)
end
section
open Go.RowKit Go.Maps
theorem read_any (w : World) (k : Nat) (hk : k < 10) {S : Nat → Prop} {v : Value} {bs : List UInt8} {sent : Value} (h : Bs w S v bs) (hlen : bs.length ≤ 1099511627776) (hp : Pk w sent) :
    Calls Tryz.prog 5 #[.int .i64 k, v] w (ReadAns w bs) := by
  match k, hk with
  | 0, _ => exact read_Header w h hlen hp
  | 1, _ => exact read_QC w h hlen hp
  | 2, _ => exact read_Commit w h hlen hp
  | 3, _ => exact read_Fact w h hlen hp
  | 4, _ => exact read_Record w h hlen hp
  | 5, _ => exact read_Tx w h hlen hp
  | 6, _ => exact read_Block w h hlen hp
  | 7, _ => exact read_Vote w h hlen hp
  | 8, _ => exact read_Timeout w h hlen hp
  | 9, _ => exact read_Message w h hlen hp
end
section
open Go.RowKit Go.Maps
set_option maxHeartbeats 8000000 in
set_option maxRecDepth 100000 in
theorem lawReads_any (hread : ∀ (w : World) (k : Nat) (_ : k < 10) {S : Nat → Prop} {v : Value} {bs : List UInt8} {sent : Value} (_ : Bs w S v bs) (_ : bs.length ≤ 1099511627776) (_ : Pk w sent), Calls Tryz.prog 5 #[.int .i64 k, v] w (ReadAns w bs))
    (w : World) {S : Nat → Prop} {v : Value} {bs : List UInt8} {sent : Value} (h : Bs w S v bs) (hlen : bs.length ≤ 1099511627776) (hp : Pk w sent) :
    Calls Tryz.prog 3 #[v] w fun e w' => e = .returned (.bool true) ∧ Below w.heap.size w w' := by
  obtain ⟨A, cap, rfl⟩ := h.form
  have HAW := Lib.hid (awake_any w hp)
  have H := Lib.hid h
  have HLEN := Lib.hid hlen
  have HP := Lib.hid hp
  have H63 := Lib.hid (show 0 + bs.length ≤ maxLen ∧ (0 + bs.length) * 1 ≤ 140737488355328 from ⟨by simp only [maxLen]; omega, by omega⟩)
  have HREAD := Lib.hid hread
  clear h hp hlen hread
  go_enter Tryz.func3, Tryz.ntmps3
  go_wp2_with fail
  refine HAW.out.mono ?_
  rintro e w1 ⟨rfl, hb1⟩
  have HB1 := Lib.hid hb1
  have HA1 := Lib.hid (H.out.below hb1)
  clear hb1 HAW
  go_wp2_with (at_builtin; refine wpList_app _ rfl _ _ _ rfl Tryz.underlying22 info_u8 rfl (by decide) (Own.empty w1 5 1) rfl (HA1.out.1.below ((Below.refl _ w1).alloc (Nat.le_refl _) _)) rfl (u8s_one _) H63.out.1 H63.out.2 ?_; intro v2 w2 ho2 hc2 hn2 hat2; clear hn2; have HO := Lib.hid ho2; clear ho2; have HC := Lib.hid hc2; clear hc2; clear hat2; obtain ⟨A2, c2, hv2⟩ := HO.out.form; rw [Nat.zero_add] at hv2; subst hv2)
  have ho := HO.out
  rw [Nat.zero_add, List.nil_append] at ho
  have hrow : Bs w2 (fun _ => True) (.slice A2 bs.length c2) bs := ⟨Cs.of_own ho fun k hk => trivial, H.out.2⟩
  have hb12 : Below w1.heap.size w1 w2 := (((Chg.refl (fun b => b = w1.heap.size) w1).alloc _).trans HC.out fun b h => .inl (by simp [Value.ownBlock] at h; exact h.symm)).below (Nat.le_refl _) fun b h => Nat.le_of_eq h.symm
  have HB2 := Lib.hid (HB1.out.trans (hb12.mono HB1.out.size))
  have HR2 := Lib.hid hrow
  clear HO HC ho hrow hb12 HA1 HB1
  go_loopw [4] (fun i wr => ∃ k : Nat, k ≤ 10 ∧ i = .int .i64 k ∧ Below w.heap.size w wr ∧ Below w2.heap.size w2 wr) (fun i _ => 10 - (intOf i).toNat)
  case atStart => exact ⟨0, by omega, rfl, HB2.out, Below.refl _ _⟩
  case round =>
    obtain ⟨k, hk, rfl, hbw, hb2⟩ := hrel
    by_cases hlt : k < 10
    · have HK := Lib.hid (HREAD.out wr k hlt (HR2.out.below hb2) HLEN.out (HP.out.below hbw))
      have HBW := Lib.hid hbw
      have HBR := Lib.hid hb2
      clear hbw hb2
      go_wp2_with fail
      refine HK.out.mono ?_
      rintro e w3 ⟨hb3, vx, vy, n, is, rfl, hans⟩
      have HBW3 := Lib.hid (HBW.out.trans (hb3.mono HBW.out.size))
      have HBR3 := Lib.hid (HBR.out.trans (hb3.mono HBR.out.size))
      clear hb3 HK
      by_cases hbig : 262144 < bs.length
      · obtain rfl : n = 4 := by
          rcases hans with ⟨_, h⟩ | ⟨h, _⟩
          · exact h
          · omega
        have hbI : (262144 : Int) < (bs.length : Int) := by omega
        clear hans
        go_wp2_with fail
        exact ⟨⟨k + 1, by omega, by push_cast; rfl, HBW3.out, HBR3.out⟩, by simp only [intOf]; omega⟩
      · have hbI : ¬ (262144 : Int) < (bs.length : Int) := by omega
        have hans : (n = 0 ∧ is = true ∧ Bs w3 (fun b => wr.heap.size ≤ b) vx bs ∧ Bs w3 (fun b => wr.heap.size ≤ b) vy bs) ∨ (n = 5 ∧ is = false) := by
          rcases hans with ⟨h, _⟩ | ⟨_, h⟩
          · omega
          · exact h
        have ha3 := Lib.hid (H.out.below HBW3.out)
        have hr3 := Lib.hid (HR2.out.below HBR3.out)
        rcases hans with ⟨rfl, rfl, hx, hy⟩ | ⟨rfl, rfl⟩
        · have e1 := run_str hx Tryz.underlying22 Tryz.underlying5 Tryz.underlying9
          have e2 := run_str hy Tryz.underlying22 Tryz.underlying5 Tryz.underlying9
          have e3 := run_str ha3.out Tryz.underlying22 Tryz.underlying5 Tryz.underlying9
          have e4 := run_str hr3.out Tryz.underlying22 Tryz.underlying5 Tryz.underlying9
          go_wp2_with fail
          exact ⟨⟨k + 1, by omega, by push_cast; rfl, HBW3.out, HBR3.out⟩, by simp only [intOf]; omega⟩
        · have e3 := run_str ha3.out Tryz.underlying22 Tryz.underlying5 Tryz.underlying9
          have e4 := run_str hr3.out Tryz.underlying22 Tryz.underlying5 Tryz.underlying9
          go_wp2_with fail
          exact ⟨⟨k + 1, by omega, by push_cast; rfl, HBW3.out, HBR3.out⟩, by simp only [intOf]; omega⟩
    · have hk' : k = 10 := by omega
      subst hk'
      have HBW := Lib.hid hbw
      clear hbw hb2
      go_wp2_with fail
      go_ret
      exact ⟨rfl, HBW.out⟩
end
section
open Go.ChangeShapes Go.WideShapes Go.ChangeAt Go.RowKit Go.Deep
section
variable {H : Type} {enc : TypeId × Value → H} {P : Program}
theorem trodAll_stays (hl : laidOutB P = true) {W W' : World} {sp : Nat → Bool} : ∀ (ts : List TypeId) (vs : List Value) (ds : List (DataW H)) (ps : List MemPlace),
    ts.all (fun t => P.readableRec t && decide (t < P.types.size)) = true → DataW.TrodAll enc P W 0 (fun _ => true) true ts vs ds ps → (∀ p ∈ ps, W.sameAt W' p) → (∀ p ∈ ps, sp p.block = true) →
    DataW.TrodAll enc P W' 0 sp true ts vs ds ps
  | [], vs, ds, ps, _, h, _, _ => by
    cases vs <;> cases ds <;> simp_all [DataW.TrodAll]
  | t :: ts, [], ds, ps, _, h, _, _ => by cases ds <;> simp [DataW.TrodAll] at h
  | t :: ts, v :: vs, [], ps, _, h, _, _ => by simp [DataW.TrodAll] at h
  | t :: ts, v :: vs, d :: ds, ps, hok, h, hsame, hsp => by
    obtain ⟨p, q, h1, h2, rfl⟩ := h
    simp only [List.all_cons, Bool.and_eq_true, decide_eq_true_eq] at hok
    exact ⟨p, q, WideElems.Trod_stays hl hok.1.1 hok.1.2 h1 (fun x hx => hsame x (by simp [hx])) (fun x hx => hsp x (by simp [hx])),
      trodAll_stays hl ts vs ds q hok.2 h2 (fun x hx => hsame x (by simp [hx])) (fun x hx => hsp x (by simp [hx])), rfl⟩
theorem trodAll_length {W : World} {base : Nat} {sp : Nat → Bool} {hd : Bool} : ∀ (ts : List TypeId) (vs : List Value) (ds : List (DataW H)) (ps : List MemPlace), DataW.TrodAll enc P W base sp hd ts vs ds ps → ds.length = ts.length
  | [], vs, ds, ps, h => by cases vs <;> cases ds <;> simp_all [DataW.TrodAll]
  | t :: ts, [], ds, ps, h => by cases ds <;> simp [DataW.TrodAll] at h
  | t :: ts, v :: vs, [], ps, h => by simp [DataW.TrodAll] at h
  | t :: ts, v :: vs, d :: ds, ps, h => by
    obtain ⟨p, q, _, h2, _⟩ := h
    simp [trodAll_length ts vs ds q h2]
theorem law_post {f : Func} {s : ChangeSpec} {W W' : World} {args : Array Value} {ds gs : List (DataW H)} {before : List MemPlace} {tb : TypeId} (hl : laidOutB P = true)
    (hok : f.params.toList.all (fun t => P.readableRec t && decide (t < P.types.size)) = true) (hr : f.resultTypes = #[tb]) (htb : P.underlying tb = some .bool)
    (hvars : s.vars = []) (hspec : ∀ ds : List (DataW H), ds.length = f.params.size → s.fn H ds = { results := [.lit (.bool true)], args := ds })
    (hW : DataW.Whole enc P f.params.toList s.vars false W args.toList ds gs before) (hb : Below W.heap.size W W') :
    s.post enc P f false true false false W args (.bool true) W' := by
  have hlt : ∀ p ∈ before, p.block < W.heap.size := fun p hp => hW.lt p hp
  have hW0 := hW
  obtain ⟨p, q, hA, hV, rfl, _, _⟩ := hW0
  rw [hvars] at hV
  obtain ⟨rfl, rfl⟩ := trodVars_none hV
  have hlen : ds.length = f.params.size := by rw [trodAll_length _ _ _ _ hA, Array.length_toList]
  have hfn := hspec ds hlen
  have hfr : f.resultTypes.toList = [tb] := by rw [hr]
  have hrl : (Value.bool true).resultList f.resultTypes.size = [.bool true] := by rw [hr]; rfl
  refine ⟨ds, [], p ++ [], [], p, [], hW, ?_, ?_, ?_, World.keptBut_mono (fun x hx => ⟨hx, ?_⟩) (hb.frame (· ∈ p ++ [])), fun h => by cases h⟩
  · rw [List.append_nil, hfn, hfr, hrl]
    exact trodAll_mk1 (shut_bool htb _)
  · rw [List.append_nil, hfn]
    exact trodAll_stays hl _ _ _ _ hok hA (fun x hx => hb.same (hlt x (by simp [hx]))) (fun x hx => by simpa using hlt x (by simp [hx]))
  · rw [List.append_nil, hfn, hvars]
    rfl
  · exact Or.inr (Or.inl (by simpa using hx))
theorem law_lifted {C : Checked} {os : Os} {f : FuncId} {fn : Func} {s : ChangeSpec} {tb : TypeId} (own : ownKnob C.prog.godebug = none) (hl : laidOutB C.prog = true) (started : os.Started)
    (noInit : C.prog.inits.idxOf? f = none) (hfn : C.prog.funcs[f]? = some fn)
    (witness : ∃ (w : World) (tape : Tape) (i : Input), w.os = os ∧ (w.forCall tape i).Shaped C.prog ∧ i.vars = [] ∧ Input.okWide C.prog (w.forCall tape i) .any w.heap.size f i ∧
      s.pre6 enc C.prog fn [] false (w.forCall tape i).memory i.args ∧ ({} : Assume).holds C.prog (lone (Frame.enter C.prog f i.args .normal) [] (w.forCall tape i)))
    (hok : fn.params.toList.all (fun t => C.prog.readableRec t && decide (t < C.prog.types.size)) = true) (hr : fn.resultTypes = #[tb]) (htb : C.prog.underlying tb = some .bool)
    (hvars : s.vars = []) (hspec : ∀ ds : List (DataW H), ds.length = fn.params.size → s.fn H ds = { results := [.lit (.bool true)], args := ds })
    (walk : ∀ (W : World) (base : Nat) (args : Array Value) (ds : List (DataW H)) (ps : List MemPlace),
      (∀ (j : Nat) t v, fn.params[j]? = some t → args[j]? = some v → Value.okWide C.prog W .any base t v) →
      DataW.TrodAll enc C.prog W 0 (fun _ => true) true fn.params.toList args.toList ds ps → (∀ p ∈ ps, p.block < W.heap.size) →
      (DataW.weightsEach C.prog fn.params.toList ds).all (· ≤ reachBytes) = true →
      Calls C.prog f args W fun e W' => e = .returned (.bool true) ∧ Below W.heap.size W W') :
    ReturnsInHanded {} C os f .any (s.pre6 enc C.prog fn [] false) (s.post enc C.prog fn false true false false) := by
  refine returnsInHanded_of_change_sized own started noInit hfn witness ?_
  intro W base args ds gs before hval hW _ hsz _
  have hlt : ∀ p ∈ before, p.block < W.heap.size := fun p hp => hW.lt p hp
  have hW0 := hW
  obtain ⟨p, q, hA, hV, rfl, _, _⟩ := hW0
  rw [hvars] at hV
  obtain ⟨rfl, rfl⟩ := trodVars_none hV
  have hvt : s.plain.varTypes C.prog = [] := by simp [DataSpec.varTypes, ChangeSpec.plain, hvars]
  rw [hvt, List.append_nil, List.append_nil] at hsz
  refine (walk W base args ds p hval hA (fun x hx => hlt x (by simp [hx])) hsz).mono fun e W' ⟨he, hb⟩ => ?_
  exact ⟨_, he, law_post hl hok hr htb hvars hspec hW hb⟩
end
section
variable {H : Type} {enc : TypeId × Value → H} {P : Program} {w : World} {base : Nat} {spare : Nat → Bool} {held : Bool}
theorem open_slice_fields {t e : TypeId} {fs : Array Field} {fuel : Nat} {cs : List Value} {x : DataW H × List MemPlace} (ht : P.underlying t = some (.slice e)) (he : P.underlying e = some (.struct fs))
    (hone : oneCellFields P fs = true) (hC : P.cellsOf e = fs.size) (h : DataW.trod enc P w base spare held fuel t cs = some x) :
    (cs = [.slice none 0 0] ∧ x = (.nil, [])) ∨
    ∃ (a : Addr) (len cap m : Nat) (D : Nat → DataW H) (Pl : Nat → List MemPlace), cs = [.slice (some a) len cap] ∧ base ≤ a.block ∧ len ≤ cap ∧ cap ≤ maxLen ∧ m = (if spare a.block then cap else len) ∧
      x = (.slice ((List.range len).map D) ((List.range (m - len)).map fun j => D (len + j)), MemPlace.row a (m * fs.size) ++ (List.range m).flatMap Pl) ∧
      ∀ i, i < m → ∃ (ys : List (DataW H × List MemPlace)) (n : Nat), D i = .agg (ys.map (·.1)) ∧ Pl i = ys.flatMap (·.2) ∧ ys.length = fs.size ∧
        ∀ (j : Nat) (f : Field), fs[j]? = some f → ∃ (v : Value) (y : DataW H × List MemPlace), w.cell? (a.add (i * fs.size + j)) = some v ∧ ys[j]? = some y ∧ DataW.trod enc P w base spare held n f.type [v] = some y := by
  rcases open_slice ht h with h0 | ⟨a, len, cap, m, n, D, Pl, hcs, hb, hl, hm, hmm, hx, hi⟩
  · exact .inl h0
  · refine .inr ⟨a, len, cap, m, D, Pl, hcs, hb, hl, hm, hmm, by rw [hC] at hx; exact hx, fun i him => ?_⟩
    obtain ⟨cs', hc, ht'⟩ := hi i him
    rw [hC] at hc
    obtain ⟨ys, n', hn', hy, hlen, hyl, hf⟩ := DataW.trod_struct he ht'
    obtain ⟨_, hcl, hat⟩ := World.cells?_some hc
    simp only [Prod.mk.injEq] at hy
    refine ⟨ys, n', hy.1, hy.2, hyl, fun j f hj => ?_⟩
    obtain ⟨ho, hk⟩ := hone_of hone j f hj
    have hjl : j < fs.size := (Array.getElem?_eq_some_iff.1 hj).1
    have hcell := hat j hjl
    have hv : cs'[j]? = some (cs'[j]'(by omega)) := List.getElem?_eq_getElem (by omega)
    have h1 := hf j f hj
    rw [ho, hk] at h1
    have hone' : (cs'.drop j).take 1 = [cs'[j]'(by omega)] := by
      rw [List.drop_eq_getElem_cons (by omega)]
      rfl
    rw [hone'] at h1
    have hys : ys[j]? = some (ys[j]'(by omega)) := List.getElem?_eq_getElem (by omega)
    refine ⟨_, _, ?_, hys, h1.trans hys⟩
    rw [← Go.Deep.add_add, hcell, hv]
theorem open_bytes {t e : TypeId} {fuel : Nat} {v : Value} {x : DataW H × List MemPlace} (ht : P.underlying t = some (.slice e)) (he : P.underlying e = some (.int .u8)) (hc : P.cellsOf e = 1)
    (h : DataW.trod enc P w base (fun _ => true) held fuel t [v] = some x) :
    ∃ bs : List UInt8, (∀ n ∈ x.1.weights P t, n ≤ reachBytes) → P.bytesOf e = 1 → Bs w (fun b => b < w.heap.size) v bs := by
  rcases open_ints ht he hc h with ⟨hcs, hx⟩ | ⟨a, len, cap, zs, hcs, _, hl, hm, hz, hx, hcell, hwz⟩
  · obtain rfl : v = .slice none 0 0 := by simpa using hcs
    exact ⟨[], fun _ _ => Bs.nil_ _ _⟩
  · obtain rfl : v = .slice (some a) len cap := by simpa using hcs
    simp only [if_true] at hz
    have hbyte : ∀ z ∈ zs, (z.toNat : Int) = z ∧ z.toNat < 256 := fun z hzm => by
      have := hwz z hzm
      simp only [Lit.wf, IntKind.min, IntKind.max, IntKind.signed, IntKind.bits, Bool.and_eq_true] at this
      simp at this
      omega
    refine ⟨(zs.take len).map fun z => UInt8.ofNat z.toNat, fun hw hb1 => ?_⟩
    have hlen : ((zs.take len).map fun z => UInt8.ofNat z.toNat).length = len := by simp; omega
    have hsz : cap ≤ reachBytes := by
      have := hw (((lits (H := H) .u8 (zs.take len)).length + (lits (H := H) .u8 (zs.drop len)).length) * P.bytesOf e) (by rw [hx]; simp [DataW.weights, ht])
      rw [hb1] at this
      simp only [lits, List.length_map, List.length_take, List.length_drop] at this
      omega
    refine ⟨⟨by rw [u8s_length]; omega, some a, cap, by rw [hlen], by rw [hlen]; exact hl, hm, fun hpos => ?_⟩, by rw [hlen]; simp only [reachBytes] at hsz; omega⟩
    rw [hlen] at hpos
    obtain ⟨b, off, spot⟩ := a
    have hc0 := hcell 0 (by omega)
    obtain rfl : spot = none := by simpa [Addr.add] using World.cell?_spot hc0
    refine ⟨b, off, rfl, by have := World.block_lt_of_cell? _ _ hc0; simpa [Addr.add] using this, by have := World.block_lt_of_cell? _ _ hc0; simpa [Addr.add] using this, fun j u hu => ?_⟩
    have hj : j < len := by
      have := (List.getElem?_eq_some_iff.1 hu).1
      rw [u8s_length] at this; omega
    have hcj := hcell j (by omega)
    rw [add_plain] at hcj
    rw [hcj]
    have hjz : j < zs.length := by omega
    simp only [u8s, List.map_map, List.getElem?_map, List.getElem?_take, if_pos hj, List.getElem?_eq_getElem hjz, Option.map_some, Function.comp_apply] at hu
    rw [← hu]
    have := hbyte zs[j] (List.getElem_mem hjz)
    simp only [List.getD, List.getElem?_eq_getElem hjz, Option.getD_some, Option.some.injEq, Value.int.injEq, true_and]
    rw [UInt8.toNat_ofNat']
    omega
theorem weights_all {ts : List TypeId} {ds : List (DataW H)} (h : (DataW.weightsEach P ts ds).all (· ≤ reachBytes) = true) {j : Nat} {t : TypeId} {d : DataW H} (ht : ts[j]? = some t) (hd : ds[j]? = some d) : ∀ n ∈ d.weights P t, n ≤ reachBytes :=
  fun n hn => by simpa using List.all_eq_true.1 h n (DataW.weights_mem_each ht hd n hn)
theorem weights_elem {t e : TypeId} (ht : P.underlying t = some (.slice e)) {elems spare' : List (DataW H)} (h : ∀ n ∈ (DataW.slice elems spare').weights P t, n ≤ reachBytes) {d : DataW H} (hd : d ∈ elems) : ∀ n ∈ d.weights P e, n ≤ reachBytes := by
  have key : ∀ (l : List (DataW H)), d ∈ l → ∀ n ∈ d.weights P e, n ∈ DataW.weightsAll P e l := by
    intro l
    induction l with
    | nil => intro h; cases h
    | cons x r ih =>
      intro hm n hn
      simp only [DataW.weightsAll, List.mem_append]
      rcases List.mem_cons.1 hm with rfl | hm
      · exact .inl hn
      · exact .inr (ih hm n hn)
  intro n hn
  refine h n ?_
  simp only [DataW.weights, ht, List.mem_cons, List.mem_append]
  exact .inr (.inl (key elems hd n hn))
theorem weights_size {t e : TypeId} (ht : P.underlying t = some (.slice e)) {elems spare' : List (DataW H)} (h : ∀ n ∈ (DataW.slice elems spare').weights P t, n ≤ reachBytes) : elems.length * P.bytesOf e ≤ reachBytes := by
  have := h ((elems.length + spare'.length) * P.bytesOf e) (by simp [DataW.weights, ht])
  exact Nat.le_trans (Nat.mul_le_mul_right _ (by omega)) this
theorem weights_field {e : TypeId} {fs : Array Field} (he : P.underlying e = some (.struct fs)) {parts : List (DataW H)} (h : ∀ n ∈ (DataW.agg parts).weights P e, n ≤ reachBytes) {j : Nat} {f : Field} {d : DataW H} (hf : fs[j]? = some f) (hd : parts[j]? = some d) :
    ∀ n ∈ d.weights P f.type, n ≤ reachBytes := fun n hn => h n (by
  simp only [DataW.weights, he]
  exact DataW.weights_mem_each (by rw [List.getElem?_map, Array.getElem?_toList, hf]; rfl) hd n hn)
end
end
section
open Go.ChangeShapes Go.WideShapes Go.ChangeAt Go.RowKit Go.Deep
section
variable {H : Type} {enc : TypeId × Value → H}
theorem upto_lifted {C : Checked} {os : Os} {f : FuncId} {fn : Func} {s : ChangeSpec} {tb : TypeId} {F : Stop.Interp} (own : ownKnob C.prog.godebug = none) (hl : laidOutB C.prog = true) (started : os.Started)
    (noInit : C.prog.inits.idxOf? f = none) (hfn : C.prog.funcs[f]? = some fn)
    (witness : ∃ (w : World) (tape : Tape) (i : Input), w.os = os ∧ (w.forCall tape i).Shaped C.prog ∧ i.vars = [] ∧ Input.okWide C.prog (w.forCall tape i) .any w.heap.size f i ∧
      (Rows.OpenSpec.upto s).pre6 enc C.prog fn [] false (w.forCall tape i).memory i.args ∧ ({} : Assume).holds C.prog (lone (Frame.enter C.prog f i.args .normal) [] (w.forCall tape i)))
    (hok : fn.params.toList.all (fun t => C.prog.readableRec t && decide (t < C.prog.types.size)) = true) (hr : fn.resultTypes = #[tb]) (htb : C.prog.underlying tb = some .bool)
    (hvars : s.vars = []) (hspec : ∀ ds : List (DataW H), ds.length = fn.params.size → s.fn H ds = { results := [.lit (.bool true)], args := ds })
    (walk : ∀ (W : World) (base : Nat) (args : Array Value) (ds : List (DataW H)) (ps : List MemPlace),
      (∀ (j : Nat) t v, fn.params[j]? = some t → args[j]? = some v → Value.okWide C.prog W .any base t v) →
      DataW.TrodAll enc C.prog W 0 (fun _ => true) true fn.params.toList args.toList ds ps → (∀ p ∈ ps, p.block < W.heap.size) → Rows.uptoBulkAll ds ≤ 1048576 →
      Calls C.prog f args W fun e W' => e = .returned (.bool true) ∧ Below W.heap.size W W') :
    ReturnsInHanded {} C os f .any ((Rows.OpenSpec.upto s).pre6 enc C.prog fn [] false) (((Rows.OpenSpec.upto s).at F).post enc C.prog fn false true false false) := by
  refine returnsInHanded_of_cond (C := C) (s := Rows.OpenSpec.upto s) (k := Rows.uptoSmall) rfl own started noInit hfn witness ?_
  intro W base args ds gs before hval hW _ hk _
  have hW0 : DataW.Whole enc C.prog fn.params.toList s.vars false W args.toList ds gs before := hW
  have hlt : ∀ p ∈ before, p.block < W.heap.size := fun p hp => hW0.lt p hp
  have hW1 := hW0
  obtain ⟨p, q, hA, hV, rfl, _, _⟩ := hW1
  rw [hvars] at hV
  obtain ⟨rfl, rfl⟩ := trodVars_none hV
  rw [List.append_nil] at hk
  refine (walk W base args ds p hval hA (fun x hx => hlt x (by simp [hx])) (bulks.bound hk)).mono fun e W' ⟨he, hb⟩ => ?_
  exact ⟨_, he, law_post hl hok hr htb hvars hspec hW0 hb⟩
end
end
end Go.Proofs.YtjjgmkfkmckkoaaGreatDoor
