/- Wal: Sync. -/
import Derived.Test.YtcgokafhkkmaoaaWkI
import Derived.Deep.AppendSrc
import Derived.Laws.CopyOwn
namespace Go.Proofs.Ytcgokafhkkmaoaa
open Go.RowKit Go.Maps

attribute [-simp] Try.isAgg37 Try.sizeOf37 Try.typeInfo37

/-- append onto a slice that is full: a new row. -/
theorem run_app_full {P : Program} (w : World) {t ty e : TypeId} {z : Value} {size bytes : Nat} (ht : P.underlying t = some (.slice e)) (hinfo : (P.info? e).map (fun i => (i.zero, i.size, i.bytes)) = some (some z, size, bytes))
    (hzs : z.cells.size = size) {S T : Nat → Prop} {A : Option Addr} {n cap : Nat} {xs : List Value} (hb : Cs w S size (.slice A n cap) n xs)
    {src : Value} {m : Nat} {news : List Value} (hr : Cs w T size src m news) (h1 : ∀ u ∈ news, u.oneCell' = true) (hm : 0 < m) (h63 : n + m ≤ maxLen) (hbytes : (n + m) * bytes ≤ 140737488355328) :
    ∃ c w', (Builtin.append_ #[t, t] ty #[.slice A n n, src]).run P w = .ok (.slice (some ⟨w.heap.size, 0, none⟩) (n + m) c) w' ∧ Own w' e size (.slice (some ⟨w.heap.size, 0, none⟩) (n + m) c) (n + m) (xs ++ news) ∧ Below w.heap.size w w' ∧ w.heap.size < w'.heap.size := by
  obtain ⟨i, hi, hz0, hz1, hz2⟩ := info_parts hinfo
  subst hz1
  subst hz2
  obtain ⟨hlo, A', cap', e1, _, _, hp⟩ := hb
  injection e1 with e1 _ e2
  subst e1
  obtain ⟨hl, A2, cap2, rfl, _, _, hp2⟩ := hr
  obtain ⟨b2, off2, rfl, _, _, hc2⟩ := hp2 hm
  have hsrc : Src P i.size t (.slice (some ⟨b2, off2, none⟩) m cap2) m news w := Src.ofSlice w ht _ m cap2 news hl (fun j u hu => by rw [add_plain]; exact hc2 j u hu) h1
  have hold : (Builtin.firstCells i.size n (.slice A n n)).run P w.drew = .ok xs.toArray w.drew := by
    cases A with
    | none =>
      have hn : n = 0 := by
        rcases Nat.eq_zero_or_pos n with h | h
        · exact h
        · obtain ⟨_, _, h, _⟩ := hp h; cases h
      subst hn
      obtain rfl : xs = [] := List.eq_nil_of_length_eq_zero (by simpa using hlo)
      exact run_firstCells_none w.drew i.size 0 0 0
    | some ad =>
      refine run_firstCells_some w.drew i.size n ad n n xs hlo fun j u hu => ?_
      rcases Nat.eq_zero_or_pos n with h | h
      · subst h
        obtain rfl : xs = [] := List.eq_nil_of_length_eq_zero (by simpa using hlo)
        simp at hu
      · obtain ⟨b, off, h, _, _, hc⟩ := hp h
        injection h with h
        subst h
        rw [add_plain]
        exact hc j u hu
  have hsmall : n + m ≤ 9223372036854775807 := by simp only [maxLen] at h63; omega
  have hlen : (xs ++ news).length = (n + m) * i.size := by rw [List.length_append, hlo, hl, Nat.add_mul]
  have hge := grownCap_ge w (n + m) n e
  have hcm : grownCap w (n + m) n e ≤ maxLen := grownCap_le_maxLen w (n + m) n e h63
  have hr := run_append_grow_src (P := P) w t t ty e i z ht hi hz0 A n n xs hold _ m news hsrc (by omega) (by omega) (growslice_fits (by omega) hbytes)
  refine ⟨_, _, hr, ⟨hlen, .inr ⟨w.heap.size, _, _, rfl, Nat.zero_le _, heap_alloc_new w.drew _, hge, hcm, ?_, ?_⟩⟩, (Below.refl _ w).drew.alloc (Nat.le_refl _) _, by simp⟩
  · simp only [Array.size_append, List.size_toArray, size_zeroCells, hzs, hlen, ← Nat.add_mul]
    congr 1
    omega
  · simp only [Array.toList_append]
    rw [← hlen]
    exact List.take_left

theorem wpList_append {P : Program} (w : World) {ops : Array Oper} {rest : List Oper} {o : Oper} {a : Act} {Q : Exit → Act → World → Prop} (hgd : o.guard = none) (d s : Operand) (t t' : TypeId)
    (ho : o.op = .call { callee := .builtin .append, args := #[d, s], argTypes := #[t, t'] }) (v u : Value) (hd : a.eval d = v) (hs : a.eval s = u) {v' : Value} {w' : World}
    (hr : (Builtin.append_ #[t, t'] o.type #[v, u]).run P w = .ok v' w') (h : wpList P ops Q rest (a.put o.dst v') w') : wpList P ops Q (o :: rest) a w :=
  wpList_plain hgd fun K hK => by
    unfold Oper.wp execOp
    simp only [ho, resolve, invoke, builtin, Sem.run_bind, Sem.run_pure, Result.andThen_ok, List.map_toArray, List.map_cons, List.map_nil, hd, hs, hr]
    exact hK _ _ h
/-- A block's share of the bytes. -/
def blkOf (all : List UInt8) (n : Nat) : List Int := ints ((all.drop (256 * n)).take 256) ++ List.replicate (256 - ((all.drop (256 * n)).take 256).length) 0
theorem blkOf_length (all : List UInt8) (n : Nat) : (blkOf all n).length = 256 := by
  have := List.length_take_le 256 (all.drop (256 * n))
  simp only [blkOf, List.length_append, ints_length, List.length_replicate]; omega
theorem splice_blk (all : List UInt8) (n : Nat) : splice (cu8 noughts) 0 (u8s ((all.drop (256 * n)).take 256)) = cu8 (blkOf all n) := by
  have := List.length_take_le 256 (all.drop (256 * n))
  simp only [splice, blkOf, List.take_zero, List.nil_append, Nat.zero_add, u8s_length]
  rw [cu8, cu8, List.map_append, ← cu8, ← cu8, cu8_ints]
  congr 1
  simp only [noughts, cu8, List.map_replicate, List.drop_replicate]

theorem Cs.lt_ {w : World} {S : Nat → Prop} {b off size n cap : Nat} {xs : List Value} (h : Cs w S size (.slice (some ⟨b, off, none⟩) n cap) n xs) (hn : 0 < n) : b < w.heap.size := by
  obtain ⟨_, A, c, e, _, _, hp⟩ := h
  obtain ⟨b', off', e', _, hlt, _⟩ := hp hn
  injection e with e
  rw [← e] at e'
  injection e' with e'
  injection e' with e1
  omega
theorem run_tail (b q n cap : Nat) (h1 : 256 * q < n) (h2 : n ≤ cap) (w : World) :
    (Instr.sliceAt 32 (.slice (some ⟨b, 0, none⟩) n cap) (some (.int .i64 ((q : Int) * 256))) none none).run Try.prog w = .ok (.slice (some ⟨b, 256 * q, none⟩) (n - 256 * q) (cap - 256 * q)) w := by
  have e : ((q : Int) * 256).toNat = 256 * q := by omega
  go_simp
  rw [if_pos (by omega), if_neg (by omega)]

theorem Cs.at_ {w : World} {S : Nat → Prop} {b off n cap : Nat} {xs : List Value} (h : Cs w S 1 (.slice (some ⟨b, off, none⟩) n cap) n xs) (j : Nat) (u : Value) (hu : xs[j]? = some u) : w.cell? ⟨b, off + j, none⟩ = some u := by
  obtain ⟨hl, A, c, e, _, _, hp⟩ := h
  have hj : j < xs.length := by
    rcases Nat.lt_or_ge j xs.length with h | h
    · exact h
    · rw [List.getElem?_eq_none h] at hu; cases hu
  obtain ⟨b', off', e', _, _, hc⟩ := hp (by omega)
  injection e with e
  rw [← e] at e'
  injection e' with e'
  injection e' with e1 e2
  subst e1 e2
  exact hc j u hu

/-- The blocks are written, from the last one down. -/
def wdown (first : Int) (all : List UInt8) (lo : Nat) : Nat → DS → DS × Int
  | 0, D => (D, 0)
  | k + 1, D => let x := D.write (first + 2 + (lo + k : Nat)) (blkOf all (lo + k)); if x.2 = 0 then wdown first all lo k x.1 else x
def LogS.count (L : LogS) : Nat := ((L.bytes ++ L.more).length - 1) / 256 + 1 - L.bytes.length / 256
def syncF (D : DS) (L : LogS) : DS × LogS × Int :=
  if L.more.length = 0 then (D, L, 0) else
    let x := wdown L.first (L.bytes ++ L.more) (L.bytes.length / 256) L.count D
    if x.2 = 0 then
      let y := x.1.sync
      if y.2 = 0 then
        let z := turnF y.1 L.first (L.number + 1) L.epoch (L.bytes ++ L.more).length
        (z.1, if z.2 = 0 then { L with number := L.number + 1, fin := (L.bytes ++ L.more).length, bytes := L.bytes ++ L.more, more := [] } else { L with more := [] }, z.2)
      else (y.1, { L with more := [] }, y.2)
    else (x.1, { L with more := [] }, x.2)

set_option maxHeartbeats 1000000 in
set_option maxRecDepth 100000 in
theorem sync_ld {w0 w : World} {g p : Nat} {S T : Nat → Prop} {L : LogS} {D : DS} {B : Nat} (h : LD w0 w g p S T L D B)
    (hf0 : 0 ≤ L.first) (hf1 : L.first ≤ 4096) (hn : L.number < 4294967296) (he : L.epoch < 4294967296) (hl : (L.bytes ++ L.more).length ≤ 1048576) (hB : (B + 5000) * 264 ≤ 140737488355328) :
    Calls Try.prog 11 #[.pointer (some ⟨g, 0, none⟩)] w fun x w' => x = .returned (.int .i64 (syncF D L).2.2) ∧
      ∃ S' T', LD w0 w' g p S' T' (syncF D L).2.1 (syncF D L).1 (B + (L.count + 1)) ∧ Mv (Or2 S T) w w' (Or2 S' T') := by
  have hLI := Lib.hid h.log
  obtain ⟨bv, mv, hg, hlt, hbk, hcs, ho, hk⟩ := h.log
  obtain ⟨A, cap, rfl⟩ := hcs.form
  obtain ⟨A2, cap2, rfl⟩ := ho.form
  have hc := hbk.cell
  have hf := hbk.frozen
  have hcap : L.bytes.length ≤ cap := by
    obtain ⟨_, _, _, e, h1, _⟩ := hcs
    injection e with _ _ e
    rw [e]; exact h1
  have hcs2 : Cs w S 1 (.slice A2 L.more.length cap2) L.more.length (u8s L.more) := Cs.of_own ho fun k hk' => (hk k hk').1
  have HCS := Lib.hid hcs; clear hcs
  have HCS2 := Lib.hid hcs2; clear hcs2
  have HK := Lib.hid hk; clear hk ho
  by_cases hm : L.more.length = 0
  · have HF := Lib.hid (show syncF D L = (D, L, 0) from if_pos hm)
    rw [hm] at hc
    go_enter Try.func11, Try.ntmps11
    go_wp2
    go_ret
    rw [HF.out]
    exact ⟨rfl, S, T, ⟨h.log, h.dk.more (by omega), h.ap, h.new, h.size⟩, Mv.refl _ _⟩
  · have HF := Lib.hid (show syncF D L = _ from if_neg hm)
    have hne : ((L.more.length : Int) == 0) = false := by simpa using hm
    have hpos : 0 < L.more.length := by omega
    clear hm
    go_enter Try.func11, Try.ntmps11
    go_wp2_with fail
    refine wp_region_hoist [0, 1, 2, 3, 4, 5, 6, 7, 8, 9, 10, 11, 12, 13, 14, 15, 16, 17, 18] [] [19, 20] (fun w' => w'.cell? ⟨g, 6, none⟩ = some (.slice A L.bytes.length cap) ∧ w'.cell? ⟨g, 7, none⟩ = some (.slice A2 L.more.length cap2))
      (by kernel_rfl) (by kernel_rfl) (by kernel_rfl) (by kernel_rfl) (by kernel_rfl) (by kernel_rfl) ⟨by rw [World.cell?_drew, hc]; rfl, by rw [World.cell?_drew, hc]; rfl⟩ ?_
    (refine HoistK.yes (by rfl) (by kernel_rfl) ⟨?_, fun w hSw => ?_, ?_⟩; rotate_left; (· obtain ⟨s0, s1⟩ := hSw; go_simp; try with_reducible rfl); simp only [Act.put, List.setIfInBounds_toArray, List.getElem_toArray, List.getElem_cons_zero, List.set_cons_succ, List.set_cons_zero])
    (iterate 18 (refine HoistK.yes (by rfl) (by kernel_rfl) ⟨?_, fun w hSw => ?_, ?_⟩; rotate_left; (· obtain ⟨s0, s1⟩ := hSw; go_simp; try with_reducible rfl); simp only [Act.put, List.setIfInBounds_toArray, List.getElem_toArray, List.getElem_cons_succ, List.getElem_cons_zero, List.set_cons_succ, List.set_cons_zero]))
    refine HoistK.nil_ ?_
    simp only [opsAt, List.filterMap_cons, List.filterMap_nil, List.getElem?_toArray, List.getElem?_cons_succ, List.getElem?_cons_zero]
    refine Effects.nil_ fun _ hQ2 => ?_
    obtain ⟨ca, wa, hrun, hoa, hba, hga⟩ := run_app_full (P := Try.prog) w.drew (t := 32) (ty := 32) Try.underlying32 info_u8 rfl HCS.out.drew HCS2.out.drew (u8s_one _) hpos (by simp only [maxLen]; rw [List.length_append] at hl; omega) (by rw [List.length_append] at hl; omega)
    refine wpList_append w.drew rfl _ _ _ _ rfl _ _ rfl rfl hrun ?_
    have hlen : (L.bytes ++ L.more).length = L.bytes.length + L.more.length := List.length_append
    have hall : u8s L.bytes ++ u8s L.more = u8s (L.bytes ++ L.more) := by simp [u8s]
    rw [hall] at hoa
    obtain ⟨all, hAll⟩ : ∃ all, all = L.bytes ++ L.more := ⟨_, rfl⟩
    obtain ⟨k0, hk0⟩ : ∃ k0, k0 = L.count := ⟨_, rfl⟩
    rw [← hAll] at hoa hl HF hlen
    rw [← hk0] at HF
    rw [← hlen] at hoa ⊢
    have HLEN := Lib.hid hlen
    have HALL := Lib.hid hAll; clear hall hAll
    have hN1 : 0 < all.length := by omega
    have hkk : (L.bytes.length / 256 : Nat) + k0 = (all.length - 1) / 256 + 1 := by
      rw [hk0, LogS.count, ← HALL.out]; omega
    have HK0 := Lib.hid hk0; clear hk0 hlen hrun
    have hsw : w.drew.heap.size = w.heap.size := rfl
    rw [hsw] at hoa hba hga ⊢
    have HOA := Lib.hid hoa; clear hoa
    have hbw : Below w.heap.size w wa := (Below.refl _ w).drew.trans hba
    have hcw := (hbk.below hbw hbk.lt).cell
    have hfw := (hbk.below hbw hbk.lt).frozen
    clear hc hf hba hsw
    have hcapa : all.length ≤ ca := by
      rcases HOA.out.2 with ⟨e, _⟩ | ⟨_, _, _, e, _, _, h1, _⟩
      · cases e
      · injection e with _ _ e; rw [e]; exact h1
    have hce : ca ≤ maxLen := by
      rcases HOA.out.2 with ⟨e, _⟩ | ⟨_, _, _, e, _, _, _, h1, _⟩
      · cases e
      · injection e with _ _ e; rw [e]; exact h1
    simp only [maxLen, Nat.reducePow, Nat.reduceSub] at hce
    go_wp2_with fail
    obtain ⟨wA, hwA⟩ : ∃ wA, wA = wa.setCell ⟨g, 7, none⟩ (.slice none 0 0) := ⟨_, rfl⟩
    rw [← hwA]
    have hgl : g < w.heap.size := hlt g hg
    have hlA : LogI wA g p S { L with more := [] } := by rw [hwA]; exact (hLI.out.below hbw).noMore
    have hdA : Dk w0 wA p T D B := by rw [hwA]; exact (h.dk.below hbw).chg ((Chg.refl (fun b => b = g) wa).setOf rfl 7 _) fun b hb e => h.ap b (e ▸ hg) hb
    have hrA : Cs wA (fun b => b = w.heap.size) 1 (.slice (some ⟨w.heap.size, 0, none⟩) all.length ca) all.length (u8s all) := by
      rw [hwA]
      exact (Cs.of_own HOA.out (S := fun b => b = w.heap.size) fun k hk => by injection hk with hk; exact hk.symm).chg ((Chg.refl (fun b => b = g) wa).setOf rfl 7 _) fun b hb e => by omega
    have hzA : w.heap.size < wA.heap.size := by rw [hwA]; simpa [World.setCell] using hga
    have hcA : Chg (Or2 S T) w wA := by rw [hwA]; exact (Chg.of_below hbw _).setOf (.inl hg) 7 _
    clear hcw hfw hwA hga hbw HOA
    obtain ⟨lo, hlo⟩ : ∃ lo, lo = L.bytes.length / 256 := ⟨_, rfl⟩
    rw [← hlo] at HF hkk
    have HLO := Lib.hid hlo; clear hlo
    have hbl : L.bytes.length ≤ 1048576 := by have := HLEN.out; omega
    obtain ⟨Z, hZ⟩ : ∃ Z, Z = (cu8 noughts).toArray := ⟨_, rfl⟩
    have hz := (zero_of_info info_block).1
    have hzs := (zero_of_info info_block).2
    rw [← hZ] at hz
    have HZ := Lib.hid hZ; clear hZ
    have hk0b : k0 ≤ 4096 := by omega
    have HB := Lib.hid (show ∀ x, x ≤ B + 5000 → x * 264 ≤ 140737488355328 from fun x hx => Nat.le_trans (Nat.mul_le_mul_right 264 hx) hB)
    clear hB
    have HKK := Lib.hid hkk; clear hkk
    go_loopw [4] (fun n wr => ∃ (k : Nat) (Tr : Nat → Prop) (Dr : DS), k ≤ k0 ∧ n = .int .i64 ((lo : Int) + k - 1) ∧ Dk w0 wr p Tr Dr (B + (k0 - k)) ∧ (∀ b, Tr b → T b ∨ wA.heap.size ≤ b) ∧ Chg T wA wr ∧ wdown L.first all lo k Dr = wdown L.first all lo k0 D) (fun n _ => (intOf n + 1).toNat)
    case atStart =>
      refine ⟨k0, T, D, Nat.le_refl _, ?_, by rw [Nat.sub_self]; exact hdA, fun b hb => .inl hb, Chg.refl _ _, rfl⟩
      have := HKK.out
      congr 1; omega
    case round =>
      obtain ⟨k, Tr, Dr, hk, hn, hdr, hTr, hcr, hwd⟩ := hrel
      subst hn
      have hlr : LogI wr g p S { L with more := [] } := hlA.chg hcr h.ap
      have hHd := Lib.hid hwd; clear hwd
      have hLR := Lib.hid hlr
      obtain ⟨bv, mv, _, _, hbr, hbc, _⟩ := hlr
      obtain ⟨A3, cap3, rfl⟩ := hbc.form
      have hc := hbr.cell
      clear hbc
      cases k with
      | zero =>
        obtain ⟨m, hm⟩ : ∃ m : Int, m = (lo : Int) + ((0 : Nat) : Int) - 1 := ⟨_, rfl⟩
        have hlt6 : ¬ ((L.bytes.length : Int) / 256 ≤ m) := by have := HLO.out; omega
        rw [← hm]
        clear hm
        have hw : wdown L.first all lo k0 D = (Dr, 0) := hHd.out.symm
        have HW := Lib.hid hw; clear hw hHd
        have hapr : ∀ b, S b → ¬ Tr b := fun b hS hT => (hTr b hT).elim (h.ap b hS) fun hk => by have := h.log.lt b hS; omega
        go_wp2_with fail
        refine (sync_dk hdr (HB.out _ (by clear hlt6; omega))).mono ?_
        rintro x w2 ⟨rfl, hd2, hc2⟩
        obtain ⟨x1, hx1⟩ : ∃ x1, x1 = Dr.sync.1 := ⟨_, rfl⟩
        obtain ⟨r1, hr1⟩ : ∃ r1, r1 = Dr.sync.2 := ⟨_, rfl⟩
        have HX1 := Lib.hid (show Dr.sync = (x1, r1) by rw [hx1, hr1])
        rw [← hx1] at hd2
        rw [← hr1]
        clear hx1 hr1
        have hl2 := hLR.out.chg hc2 hapr
        have hchA : Chg (Or2 S T) w w2 := (hcA.trans hcr fun b hb => .inl (.inr hb)).trans hc2 fun b hb => (hTr b hb).imp (fun h => .inr h) fun hk => by omega
        have hmvr : ∀ b, Or2 S Tr b → Or2 S T b ∨ w.heap.size ≤ b := fun b hb => hb.elim (fun h => .inl (.inl h)) fun hT => (hTr b hT).imp (fun h => .inr h) fun hk => by omega
        have hz2 : w0.heap.size ≤ w2.heap.size := Nat.le_trans h.size hchA.size
        have hr2 := (hrA.chg hcr fun b hb hT => by have := h.dk.lt _ hT; omega).chg hc2 fun b hb hT => (hTr b hT).elim (fun hT => by have := h.dk.lt _ hT; omega) fun hk => by omega
        clear hc
        by_cases h0 : r1 = 0
        · subst h0
          have HL2 := Lib.hid hl2
          obtain ⟨bv2, mv2, _, _, hbk2, _⟩ := hl2
          have hc := hbk2.cell
          have hg0 := hc 0
          have e1 : IntKind.u64.wrap ((L.number : Int) + 1) = ((L.number + 1 : Nat) : Int) := by simp [IntKind.wrap, IntKind.bits, IntKind.signed]; omega
          have e2 : IntKind.u64.wrap (all.length : Int) = all.length := by simp [IntKind.wrap, IntKind.bits, IntKind.signed]; omega
          clear hg0
          go_wp2_with fail
          refine wp_region_hoist [0, 1, 2, 3, 4, 5, 6, 7, 8, 9, 10, 11, 12, 13, 14, 15] [] [16, 17] (fun w' => w'.cell? ⟨g, 3, none⟩ = some (.int .u64 L.number) ∧ w'.cell? ⟨g, 4, none⟩ = some (.int .u64 L.epoch))
            (by kernel_rfl) (by kernel_rfl) (by kernel_rfl) (by kernel_rfl) (by kernel_rfl) (by kernel_rfl) ⟨by rw [World.cell?_drew, hc]; rfl, by rw [World.cell?_drew, hc]; rfl⟩ ?_
          (refine HoistK.yes (by rfl) (by kernel_rfl) ⟨?_, fun w hSw => ?_, ?_⟩; rotate_left; (· obtain ⟨s0, s1⟩ := hSw; go_simp; try with_reducible rfl); simp only [Act.put, List.setIfInBounds_toArray, List.getElem_toArray, List.getElem_cons_zero, List.set_cons_succ, List.set_cons_zero])
          (iterate 15 (refine HoistK.yes (by rfl) (by kernel_rfl) ⟨?_, fun w hSw => ?_, ?_⟩; rotate_left; (· obtain ⟨s0, s1⟩ := hSw; go_simp; try with_reducible rfl); simp only [Act.put, List.setIfInBounds_toArray, List.getElem_toArray, List.getElem_cons_succ, List.getElem_cons_zero, List.set_cons_succ, List.set_cons_zero]))
          refine HoistK.nil_ ?_
          simp only [opsAt, List.filterMap_cons, List.filterMap_nil, List.getElem?_toArray, List.getElem?_cons_succ, List.getElem?_cons_zero]
          refine Effects.nil_ fun _ hQ2 => ?_
          clear hc e1 e2
          go_wp2_with fail
          have hLD2 : LD w0 w2 g p S Tr { L with more := [] } x1 (B + (k0 - 0)) := ⟨HL2.out, hd2, hapr, h.new, hz2⟩
          refine (turn_ld (hLD2.below (Below.refl _ w2).drew) (L.number + 1) L.epoch all.length hf0 hf1 (by clear hlt6; omega) (HB.out _ (by clear hlt6; omega))).mono ?_
          rintro x w3 ⟨rfl, T3, hd3, hm3⟩
          have hr3 := hr2.drew.chg hm3.1 fun b hb hT => by
            rcases hT with hT | hT
            · have := h.log.lt _ hT; omega
            · exact (hTr b hT).elim (fun hT => by have := h.dk.lt _ hT; omega) fun hk => by omega
          have hm3' : Mv (Or2 S T) w w3 (Or2 S T3) := (show Mv (Or2 S T) w w2 (Or2 S Tr) from ⟨hchA, hmvr⟩).trans ((Mv.below (Below.refl _ w2).drew).trans hm3)
          have hnT : ¬ T3 w.heap.size := fun hT => (hm3.2 _ (.inr hT)).elim (fun hT => hT.elim (fun hT => by have := h.log.lt _ hT; omega) fun hT => (hTr _ hT).elim (fun hT => by have := h.dk.lt _ hT; omega) fun hk => by omega) fun hk => by
            have : w2.heap.size ≤ w.heap.size := hk
            have := hr2.lt_ (by omega)
            omega
          obtain ⟨x3, hx3⟩ : ∃ x3, x3 = (turnF x1 L.first (L.number + 1) L.epoch all.length).1 := ⟨_, rfl⟩
          obtain ⟨r3, hr3'⟩ : ∃ r3, r3 = (turnF x1 L.first (L.number + 1) L.epoch all.length).2 := ⟨_, rfl⟩
          have HX3 := Lib.hid (show turnF x1 L.first (L.number + 1) L.epoch all.length = (x3, r3) by rw [hx3, hr3'])
          rw [← hx3, ← hr3'] at hd3
          rw [← hr3']
          clear hx3 hr3' hm3
          by_cases h3 : r3 = 0
          · subst h3
            have hF : syncF D L = (x3, { L with number := L.number + 1, fin := all.length, bytes := all, more := [] }, 0) := by
              rw [HF.out, HW.out]
              simp only [↓reduceIte]
              rw [HX1.out]
              simp only [↓reduceIte]
              rw [HX3.out]
              simp only [↓reduceIte]
            have HF2 := Lib.hid hF; clear hF
            have hl3 : LogI w3 g p S { L with number := L.number + 1, epoch := L.epoch, fin := all.length, more := [] } := hd3.log
            have HD3 := Lib.hid hd3; clear hd3
            have HL3 := Lib.hid hl3
            obtain ⟨bv3, mv3, _, _, hbk3, _⟩ := hl3
            have hc := hbk3.cell
            have hf := hbk3.frozen
            go_wp2_with fail
            go_ret
            rw [HF2.out]
            have hnew : ∀ b, b = w.heap.size → b < w3.heap.size ∧ ¬ S b := fun b hb => ⟨by have := hr3.lt_ (by omega); omega, fun hS => by have := h.log.lt _ hS; omega⟩
            refine ⟨rfl, Or2 S (fun b => b = w.heap.size), T3, ⟨HL3.out.putBytes _ all hr3 hnew, (HD3.out.dk.chg ((Chg.refl (fun b => b = g) w3).setOf rfl 6 _) fun b hb e => HD3.out.ap b (e ▸ hg) hb).more (by have := HK0.out; omega), ?_, ?_, ?_⟩, hm3'.1.setOf (.inl hg) 6 _, ?_⟩
            · rintro b (hb | rfl) hT
              · exact HD3.out.ap b hb hT
              · exact hnT hT
            · rintro b (hb | rfl)
              · exact h.new b hb
              · exact h.size
            · simpa [World.setCell] using HD3.out.size
            · rintro b ((hb | rfl) | hb)
              · exact .inl (.inl hb)
              · exact .inr (Nat.le_refl _)
              · exact hm3'.2 b (.inr hb)
          · have hne1 : (r3 == 0) = false := by simpa using h3
            have H3 := Lib.hid h3; clear h3
            have hF : syncF D L = (x3, { L with more := [] }, r3) := by
              rw [HF.out, HW.out]
              simp only [↓reduceIte]
              rw [HX1.out]
              simp only [↓reduceIte]
              rw [HX3.out]
              simp only
              rw [if_neg H3.out]
            have HF2 := Lib.hid hF; clear hF
            have HD3 := Lib.hid hd3; clear hd3
            go_wp2_with fail
            go_ret
            rw [HF2.out]
            have h2 := HD3.out
            unfold LogS.turned at h2
            rw [if_neg H3.out] at h2
            exact ⟨rfl, S, T3, ⟨h2.log, h2.dk.more (by have := HK0.out; omega), h2.ap, h2.new, h2.size⟩, hm3'⟩
        · have hne1 : (r1 != 0) = true := by simpa using h0
          have H0 := Lib.hid h0; clear h0
          go_wp2_with fail
          go_ret
          have hF : syncF D L = (x1, { L with more := [] }, r1) := by
            rw [HF.out, HW.out]
            simp only [↓reduceIte]
            rw [HX1.out]
            simp only
            rw [if_neg H0.out]
          rw [hF]
          exact ⟨rfl, S, Tr, ⟨hl2, hd2.more (by have := HK0.out; omega), hapr, h.new, hz2⟩, hchA, hmvr⟩
      | succ j =>
        obtain ⟨q, hq⟩ : ∃ q : Nat, q = lo + j := ⟨_, rfl⟩
        rw [show (lo : Int) + ((j + 1 : Nat) : Int) - 1 = (q : Int) by omega]
        have hq1 : (L.bytes.length : Int) / 256 ≤ (q : Int) := by have := HLO.out; omega
        have hq2 : 256 * q < all.length := by have := HKK.out; omega
        have HQ := Lib.hid hq; clear hq
        go_wp2_with fail
        obtain ⟨w1, hw1⟩ : ∃ w1, w1 = wr.alloc (.cells Z 37) := ⟨_, rfl⟩
        rw [← hw1]
        have hb1 : Blk w1 wr.heap.size 37 (cu8 noughts).toArray := by rw [hw1, ← HZ.out]; exact Blk.new wr _ _
        have hbl1 : Below wr.heap.size wr w1 := by rw [hw1]; exact (Below.refl _ wr).alloc (Nat.le_refl _) _
        clear hw1
        have hr1 := (hrA.chg hcr fun b hb hT => by have := h.dk.lt _ hT; omega).below hbl1
        have e1 : IntKind.i64.wrap ((q : Int) * 256) = (q : Int) * 256 := wrap64 _ (by omega) (by omega)
        have hcut := run_tail w.heap.size q all.length ca hq2 hcapa
        refine wp_region_hoist [0, 1, 2, 3, 4] [] [5] (fun _ => True)
          (by kernel_rfl) (by kernel_rfl) (by kernel_rfl) (by kernel_rfl) (by kernel_rfl) (by kernel_rfl) trivial ?_
        (refine HoistK.yes (by rfl) (by kernel_rfl) ⟨?_, fun w hSw => ?_, ?_⟩; rotate_left; (· have e1 := run_whole_block; go_simp; try with_reducible rfl); simp only [Act.put, List.setIfInBounds_toArray, List.getElem_toArray, List.getElem_cons_zero, List.set_cons_succ, List.set_cons_zero])
        (iterate 4 (refine HoistK.yes (by rfl) (by kernel_rfl) ⟨?_, fun w hSw => ?_, ?_⟩; rotate_left; (· go_simp; try with_reducible rfl); simp only [Act.put, List.setIfInBounds_toArray, List.getElem_toArray, List.getElem_cons_succ, List.getElem_cons_zero, List.set_cons_succ, List.set_cons_zero]))
        refine HoistK.nil_ ?_
        simp only [opsAt, List.filterMap_cons, List.filterMap_nil, List.getElem?_toArray, List.getElem?_cons_succ, List.getElem?_cons_zero]
        refine Effects.nil_ fun _ hQ2 => ?_
        have hct : (u8s ((all.drop (256 * q)).take 256)).length = Nat.min (all.length - 256 * q) 256 := by
          rw [u8s_length, List.length_take, List.length_drop]; exact Nat.min_comm _ _
        have hcn : (cu8 noughts).length = 256 := by rw [cu8_length]; simp only [noughts, List.length_replicate]
        refine wpList_copy_splice rfl _ _ _ _ rfl 5 Try.underlying32 (by kernel_rfl) _ _ _ _ _ _ rfl rfl wr.heap.size 0 (cu8 noughts) 37 hb1 (u8s ((all.drop (256 * q)).take 256)) hct
          (fun _ => ⟨rfl, _, rfl, fun j v hv => ?_⟩) ?_ (u8s_one _) wr.heap.size wr hbl1.drew (Nat.le_refl _) ?_
        · rw [World.cell?_drew, add_plain]
          rw [u8s, List.getElem?_map, List.getElem?_take, List.getElem?_drop] at hv
          split at hv
          · have := hr1.at_ (256 * q + j) v (by rw [u8s, List.getElem?_map]; exact hv)
            rw [Nat.zero_add] at this
            exact this
          · cases hv
        · rw [hct, hcn, Nat.zero_add]; exact Nat.min_le_right _ _
        intro w2 hb2 hbl2
        rw [splice_blk] at hb2
        have hb2 : Blk w2 wr.heap.size 37 (cu8 (blkOf all q)).toArray := hb2.out
        have hll := blkOf_length all q
        obtain ⟨l, hl⟩ : ∃ l, l = blkOf all q := ⟨_, rfl⟩
        rw [← hl] at hb2 hll
        have HLB := Lib.hid hl; clear hl
        have hc2 := (hbr.below hbl2 hbr.lt).cell
        clear hc hct hcn hb1 hbl1 hr1 e1 hcut
        have hinfo : (Try.prog.info? 37).map (·.size) = some (cu8 l).length := by rw [cu8_length, hll]; exact hzs
        have hd2 := (hdr.below hbl2).drew
        have hz2 : w0.heap.size ≤ w2.drew.heap.size := Nat.le_trans h.size (Nat.le_trans (Nat.le_of_lt hzA) (Nat.le_trans hcr.size hbl2.size))
        have hwf : (Lit.int .i64 (L.first + 2 + (q : Int))).wf = true := wf64 _ (by omega) (by omega)
        have hBB : (B + (k0 - (j + 1)) + 1) * 264 ≤ 140737488355328 := HB.out _ (by clear hq1; omega)
        have HWF := Lib.hid hwf; clear hwf
        have h10 : -9223372036854775808 ≤ L.first + 2 ∧ L.first + 2 ≤ 9223372036854775807 ∧ -9223372036854775808 ≤ L.first + 2 + (q : Int) ∧ L.first + 2 + (q : Int) ≤ 9223372036854775807 := ⟨by omega, by omega, by omega, by omega⟩
        have e1 : IntKind.i64.wrap (L.first + 2) = L.first + 2 := wrap64 _ h10.1 h10.2.1
        have e2 : IntKind.i64.wrap (L.first + 2 + (q : Int)) = L.first + 2 + q := wrap64 _ h10.2.2.1 h10.2.2.2
        clear h10
        go_wp2_with fail
        refine wp_region_hoist [0, 1, 2, 3, 4, 5, 6, 7, 8, 9, 10, 11, 12, 13] [] [14, 15] (fun w' => w'.cell? ⟨g, 0, none⟩ = some (.pointer (some ⟨p, 0, none⟩)) ∧ w'.cell? ⟨g, 1, none⟩ = some (.int .i64 L.first) ∧ w'.rangeAt wr.heap.size 0 (cu8 l))
          (by kernel_rfl) (by kernel_rfl) (by kernel_rfl) (by kernel_rfl) (by kernel_rfl) (by kernel_rfl) ⟨by rw [World.cell?_drew, hc2]; rfl, by rw [World.cell?_drew, hc2]; rfl, hb2.drew.range⟩ ?_
        (refine HoistK.yes (by rfl) (by kernel_rfl) ⟨?_, fun w hSw => ?_, ?_⟩; rotate_left; (· obtain ⟨s0, s1, s2⟩ := hSw; clear s2; go_simp; try with_reducible rfl); simp only [Act.put, List.setIfInBounds_toArray, List.getElem_toArray, List.getElem_cons_zero, List.set_cons_succ, List.set_cons_zero])
        (iterate 12 (refine HoistK.yes (by rfl) (by kernel_rfl) ⟨?_, fun w hSw => ?_, ?_⟩; rotate_left; (· obtain ⟨s0, s1, s2⟩ := hSw; clear s2; go_simp; try with_reducible rfl); simp only [Act.put, List.setIfInBounds_toArray, List.getElem_toArray, List.getElem_cons_succ, List.getElem_cons_zero, List.set_cons_succ, List.set_cons_zero]))
        refine HoistK.load (by rfl) (by kernel_rfl) 37 _ rfl wr.heap.size 0 rfl (cu8 l) _ (fun w hw => hw.2.2) Try.underlying37 rfl hinfo ?_
        simp only [Act.put, List.setIfInBounds_toArray, List.getElem_toArray, List.getElem_cons_succ, List.getElem_cons_zero, List.set_cons_succ, List.set_cons_zero]
        refine HoistK.nil_ ?_
        simp only [opsAt, List.filterMap_cons, List.filterMap_nil, List.getElem?_toArray, List.getElem?_cons_succ, List.getElem?_cons_zero]
        refine Effects.nil_ fun _ hQ3 => ?_
        go_wp2_with fail
        refine (write_dk hd2 hz2 HWF.out hll hBB).mono ?_
        rintro x w3 ⟨rfl, T3, hd3, hc3, hT3⟩
        clear e1 e2 hd2
        have HBL2 := Lib.hid hbl2; clear hbl2
        obtain ⟨x1, hx1⟩ : ∃ x1, x1 = (Dr.write (L.first + 2 + (q : Int)) l).1 := ⟨_, rfl⟩
        obtain ⟨r1, hr1⟩ : ∃ r1, r1 = (Dr.write (L.first + 2 + (q : Int)) l).2 := ⟨_, rfl⟩
        have hw : wdown L.first all lo (j + 1) Dr = if r1 = 0 then wdown L.first all lo j x1 else (x1, r1) := by
          show (if (Dr.write (L.first + 2 + ((lo + j : Nat) : Int)) (blkOf all (lo + j))).2 = 0 then _ else _) = _
          rw [← HQ.out, ← HLB.out, ← hr1, ← hx1]
          split
          · rfl
          · rw [hr1, hx1]
        rw [hHd.out] at hw
        rw [← hx1] at hd3
        rw [← hr1]
        clear hx1 hr1
        have hT3' : ∀ b, T3 b → T b ∨ wA.heap.size ≤ b := fun b hb => (hT3 b hb).elim (hTr b) fun hk => .inr (Nat.le_trans hcr.size (Nat.le_trans HBL2.out.size hk))
        have hc3' : Chg T wA w3 := ((hcr.trans (Chg.of_below HBL2.out T) fun b hb => .inl hb).drew).trans hc3 fun b hb => hTr b hb
        have HT3 := Lib.hid hT3'; clear hT3' hT3
        have HC3 := Lib.hid hc3'; clear hc3' hc3
        by_cases h0 : r1 = 0
        · subst h0
          rw [if_pos rfl] at hw
          have HW := Lib.hid hw; clear hw
          go_wp2_with fail
          refine ⟨⟨j, T3, x1, by omega, ?_, ?_, HT3.out, HC3.out, HW.out.symm⟩, ?_⟩
          · have := HQ.out; congr 1; omega
          · rw [show B + (k0 - j) = B + (k0 - (j + 1)) + 1 by omega]; exact hd3
          · simp only [intOf]; omega
        · rw [if_neg h0] at hw
          have HW := Lib.hid hw; clear hw
          have hne1 : (r1 != 0) = true := by simpa using h0
          have H0 := Lib.hid h0; clear h0
          go_wp2_with fail
          go_ret
          have hF : syncF D L = (x1, { L with more := [] }, r1) := by
            rw [HF.out, HW.out]
            simp only
            rw [if_neg H0.out]
          rw [hF]
          have hap3 : ∀ b, S b → ¬ T3 b := fun b hS hT => (HT3.out b hT).elim (h.ap b hS) fun hk => by have := h.log.lt b hS; omega
          have hz3 : w0.heap.size ≤ w3.heap.size := Nat.le_trans h.size (Nat.le_trans (Nat.le_of_lt hzA) HC3.out.size)
          exact ⟨rfl, S, T3, ⟨hlA.chg HC3.out h.ap, hd3.more (by have := HK0.out; omega), hap3, h.new, hz3⟩, hcA.trans HC3.out fun b hb => .inl (.inr hb), fun b hb => hb.elim (fun h => .inl (.inl h)) fun hT => (HT3.out b hT).imp (fun h => .inr h) fun hk => by omega⟩

end Go.Proofs.Ytcgokafhkkmaoaa
