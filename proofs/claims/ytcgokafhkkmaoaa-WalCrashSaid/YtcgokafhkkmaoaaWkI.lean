/- Wal: a log over a disk; turn, Restart, Drop. -/
import Derived.Test.YtcgokafhkkmaoaaWkH
namespace Go.Proofs.Ytcgokafhkkmaoaa
open Go.RowKit Go.Maps

attribute [-simp] Try.isAgg37 Try.sizeOf37 Try.typeInfo37

/-- A cell of the log's own block is written. -/
theorem LogI.put {w : World} {g p : Nat} {S : Nat → Prop} {L L' : LogS} (h : LogI w g p S L) (i : Nat) (u : Value)
    (hd : ∀ bv mv, (#[.pointer (some ⟨p, 0, none⟩), .int .i64 L.first, .int .i64 L.size, .int .u64 L.number, .int .u64 L.epoch, .int .u64 L.fin, bv, mv] : Array Value).setIfInBounds i u =
      #[.pointer (some ⟨p, 0, none⟩), .int .i64 L'.first, .int .i64 L'.size, .int .u64 L'.number, .int .u64 L'.epoch, .int .u64 L'.fin, bv, mv])
    (hb : L'.bytes = L.bytes) (hm : L'.more = L.more) : LogI (w.setCell ⟨g, i, none⟩ u) g p S L' := by
  obtain ⟨bv, mv, hg, hlt, hbk, hcs, ho, hk⟩ := h
  have hc := (Chg.refl (fun b => b = g) w).setOf rfl i u
  refine ⟨bv, mv, hg, fun b hb => by simpa [World.setCell] using hlt b hb, ?_, ?_, ?_, hk⟩
  · rw [← hd]; exact hbk.set_ i u
  · rw [hb]; exact hcs.chg hc fun b hb e => hb.2.1 e
  · rw [hm]; exact own_keep ho fun k hk' => hc.block k (own_lt ho hk') (fun e => (hk k hk').2 e)
def Or2 (S T : Nat → Prop) : Nat → Prop := fun b => S b ∨ T b
/-- Its bytes go. -/
theorem LogI.noBytes {w : World} {g p : Nat} {S : Nat → Prop} {L : LogS} (h : LogI w g p S L) : LogI (w.setCell ⟨g, 6, none⟩ (.slice none 0 0)) g p S { L with bytes := [] } := by
  obtain ⟨bv, mv, hg, hlt, hbk, hcs, ho, hk⟩ := h
  have hc := (Chg.refl (fun b => b = g) w).setOf rfl 6 (.slice none 0 0)
  refine ⟨.slice none 0 0, mv, hg, fun b hb => by simpa [World.setCell] using hlt b hb, ?_, Cs.nil_ _ _ _, ?_, hk⟩
  · have := hbk.set_ 6 (.slice none 0 0)
    simpa using this
  · exact own_keep ho fun k hk' => hc.block k (own_lt ho hk') (fun e => (hk k hk').2 e)
/-- What was appended goes. -/
theorem LogI.noMore {w : World} {g p : Nat} {S : Nat → Prop} {L : LogS} (h : LogI w g p S L) : LogI (w.setCell ⟨g, 7, none⟩ (.slice none 0 0)) g p S { L with more := [] } := by
  obtain ⟨bv, mv, hg, hlt, hbk, hcs, ho, hk⟩ := h
  have hc := (Chg.refl (fun b => b = g) w).setOf rfl 7 (.slice none 0 0)
  refine ⟨bv, .slice none 0 0, hg, fun b hb => by simpa [World.setCell] using hlt b hb, ?_, ?_, Own.nil_ _ _ _, fun k hk => by simp [Value.ownBlock] at hk⟩
  · have := hbk.set_ 7 (.slice none 0 0)
    simpa using this
  · exact (hcs.chg hc fun b hb e => hb.2.1 e).sub fun b hb _ => ⟨hb.1, hb.2.1, by simp [Value.ownBlock]⟩
/-- Its bytes are others, in blocks that were not its own. -/
theorem LogI.putBytes {w : World} {g p : Nat} {S T : Nat → Prop} {L : LogS} (h : LogI w g p S L) (v : Value) (bs : List UInt8) (hv : Cs w T 1 v bs.length (u8s bs)) (hT : ∀ b, T b → b < w.heap.size ∧ ¬ S b) :
    LogI (w.setCell ⟨g, 6, none⟩ v) g p (Or2 S T) { L with bytes := bs } := by
  obtain ⟨bv, mv, hg, hlt, hbk, hcs, ho, hk⟩ := h
  have hc := (Chg.refl (fun b => b = g) w).setOf rfl 6 v
  refine ⟨v, mv, .inl hg, fun b hb => by simpa [World.setCell] using hb.elim (hlt b) fun h => (hT b h).1, ?_, ?_, ?_, fun k hk' => ⟨.inl (hk k hk').1, (hk k hk').2⟩⟩
  · have := hbk.set_ 6 v
    simpa using this
  · exact (hv.chg hc fun b hb e => (hT b hb).2 (e ▸ hg)).sub fun b hb _ => ⟨.inr hb, fun e => (hT b hb).2 (e ▸ hg), fun e => (hT b hb).2 (hk b e).1⟩
  · exact own_keep ho fun k hk' => hc.block k (own_lt ho hk') (fun e => (hk k hk').2 e)

/-- A log of this call's own over a disk of this call's own. -/
structure LD (w0 w : World) (g p : Nat) (S T : Nat → Prop) (L : LogS) (D : DS) (B : Nat) : Prop where
  log : LogI w g p S L
  dk : Dk w0 w p T D B
  ap : ∀ b, S b → ¬ T b
  new : ∀ b, S b → w0.heap.size ≤ b
  size : w0.heap.size ≤ w.heap.size
/-- Only what belongs to it, and new blocks, have turned; what belongs to it now belonged to it or is new. -/
def Mv (X : Nat → Prop) (w w' : World) (X' : Nat → Prop) : Prop := Chg X w w' ∧ ∀ b, X' b → X b ∨ w.heap.size ≤ b
theorem Mv.refl (X : Nat → Prop) (w : World) : Mv X w w X := ⟨Chg.refl _ _, fun _ h => .inl h⟩
theorem Mv.trans {X X' X'' : Nat → Prop} {w w' w'' : World} (h : Mv X w w' X') (k : Mv X' w' w'' X'') : Mv X w w'' X'' :=
  ⟨h.1.trans k.1 h.2, fun b hb => (k.2 b hb).elim (h.2 b) fun hh => .inr (Nat.le_trans h.1.size hh)⟩
theorem Mv.below {X : Nat → Prop} {w w' : World} (h : Below w.heap.size w w') : Mv X w w' X := ⟨Chg.of_below h X, fun _ h => .inl h⟩
theorem LD.below {w0 w w' : World} {g p : Nat} {S T : Nat → Prop} {L : LogS} {D : DS} {B : Nat} (h : LD w0 w g p S T L D B) (hb : Below w.heap.size w w') : LD w0 w' g p S T L D B :=
  ⟨h.log.below hb, h.dk.below hb, h.ap, h.new, Nat.le_trans h.size hb.size⟩
theorem LD.gl {w0 w : World} {g p : Nat} {S T : Nat → Prop} {L : LogS} {D : DS} {B : Nat} (h : LD w0 w g p S T L D B) : g < w.heap.size := by
  obtain ⟨bv, mv, hg, hlt, _⟩ := h.log
  exact hlt g hg
theorem LogI.lt {w : World} {g p : Nat} {S : Nat → Prop} {L : LogS} (h : LogI w g p S L) : ∀ b, S b → b < w.heap.size := by
  obtain ⟨bv, mv, _, hlt, _⟩ := h
  exact hlt
theorem LogI.in_ {w : World} {g p : Nat} {S : Nat → Prop} {L : LogS} (h : LogI w g p S L) : S g := by
  obtain ⟨bv, mv, hg, _⟩ := h
  exact hg

/-- turn: a mark is laid, and made last. -/
def turnF (D : DS) (first : Int) (n e f : Nat) : DS × Int :=
  let x := D.write (first + (n : Int) % 2) (markL n e f)
  if x.2 = 0 then x.1.sync else x
def LogS.turned (L : LogS) (r : Int) (n e f : Nat) : LogS := if r = 0 then { L with number := n, epoch := e, fin := f } else L

set_option maxHeartbeats 1000000 in
set_option maxRecDepth 100000 in
theorem turn_ld {w0 w : World} {g p : Nat} {S T : Nat → Prop} {L : LogS} {D : DS} {B : Nat} (h : LD w0 w g p S T L D B) (n e f : Nat)
    (hf0 : 0 ≤ L.first) (hf1 : L.first ≤ 4096) (hn : n < 18446744073709551616) (hB : (B + 2) * 264 ≤ 140737488355328) :
    Calls Try.prog 30 #[.pointer (some ⟨g, 0, none⟩), .agg #[.int .u64 n, .int .u64 e, .int .u64 f]] w fun x w' => x = .returned (.int .i64 (turnF D L.first n e f).2) ∧
      ∃ T', LD w0 w' g p S T' (L.turned (turnF D L.first n e f).2 n e f) (turnF D L.first n e f).1 (B + 1) ∧ Mv (Or2 S T) w w' (Or2 S T') := by
  go_enter Try.func30, Try.ntmps30
  go_wp2_with fail
  obtain ⟨wc, hwc⟩ : ∃ wc, wc = w.alloc (.cells #[.int .u64 n, .int .u64 e, .int .u64 f] 57) := ⟨_, rfl⟩
  rw [← hwc]
  have hbm : Blk wc w.heap.size 57 #[.int .u64 n, .int .u64 e, .int .u64 f] := by rw [hwc]; exact Blk.new w _ _
  have hbl : Below w.heap.size w wc := by rw [hwc]; exact (Below.refl _ w).alloc (Nat.le_refl _) _
  clear hwc
  have hd := h.below hbl
  refine wp_region_hoist [0, 1, 2, 3] [] [4, 5] (fun w' => Blk w' w.heap.size 57 #[.int .u64 n, .int .u64 e, .int .u64 f])
    (by kernel_rfl) (by kernel_rfl) (by kernel_rfl) (by kernel_rfl) (by kernel_rfl) (by kernel_rfl) hbm.drew ?_
  (refine HoistK.yes (by rfl) (by kernel_rfl) ⟨?_, fun w hSw => ?_, ?_⟩; rotate_left; (· have s0 := hSw.cell; go_simp; try with_reducible rfl); simp only [Act.put, List.setIfInBounds_toArray, List.getElem_toArray, List.getElem_cons_zero, List.set_cons_succ, List.set_cons_zero])
  (iterate 3 (refine HoistK.yes (by rfl) (by kernel_rfl) ⟨?_, fun w hSw => ?_, ?_⟩; rotate_left; (· have s0 := hSw.cell; go_simp; try with_reducible rfl); simp only [Act.put, List.setIfInBounds_toArray, List.getElem_toArray, List.getElem_cons_succ, List.getElem_cons_zero, List.set_cons_succ, List.set_cons_zero]))
  refine HoistK.nil_ ?_
  simp only [opsAt, List.filterMap_cons, List.filterMap_nil, List.getElem?_toArray, List.getElem?_cons_succ, List.getElem?_cons_zero]
  refine Effects.nil_ fun _ hQ2 => ?_
  go_wp2_with fail
  refine (lay_dk hd.dk.drew hd.log.reg hd.gl hd.size n e f hf0 hf1 hn (by omega)).mono ?_
  rintro x w2 ⟨rfl, T', hd2, hc2, hT2⟩
  have hl2 : LogI w2 g p S L := hd.log.chg (Chg.drew (Chg.refl _ wc) |>.trans hc2 fun b hb => .inl hb) hd.ap
  have hb2 := hbm.drew.chg hc2 (fun hT => by have := h.dk.lt _ hT; omega)
  obtain ⟨x1, hx1⟩ : ∃ x1, x1 = (D.write (L.first + (n : Int) % 2) (markL n e f)).1 := ⟨_, rfl⟩
  obtain ⟨r1, hr1⟩ : ∃ r1, r1 = (D.write (L.first + (n : Int) % 2) (markL n e f)).2 := ⟨_, rfl⟩
  have HX := Lib.hid (show D.write (L.first + (n : Int) % 2) (markL n e f) = (x1, r1) by rw [hx1, hr1])
  rw [← hx1] at hd2
  rw [← hr1]
  clear hx1 hr1
  by_cases h0 : r1 = 0
  · subst h0
    have HF := Lib.hid (show turnF D L.first n e f = x1.sync by unfold turnF; rw [HX.out]; simp)
    have hp2 := hl2.reg.1
    have hn2 : ∀ b, T' b → T b ∨ wc.heap.size ≤ b := hT2
    have hap2 : ∀ b, S b → ¬ T' b := fun b hS hT' => (hT2 b hT').elim (hd.ap b hS) fun hk => by
      have := h.log.lt b hS
      have := hbl.size
      have hk : wc.heap.size ≤ b := hk
      omega
    go_wp2_with fail
    refine (sync_dk hd2 (by omega)).mono ?_
    rintro x w3 ⟨rfl, hd3, hc3⟩
    have hl3 : LogI w3 g p S L := hl2.chg hc3 hap2
    have hb3 := hb2.chg hc3 (fun hT => (hT2 _ hT).elim (fun hT => by have := h.dk.lt _ hT; omega) fun hk => by
      have hk : wc.heap.size ≤ w.heap.size := hk
      have := hbm.lt
      omega)
    have hch : Chg (Or2 S T) w w3 := by
      have h1 : Chg T' w2 w3 := hc3
      refine ((((Chg.of_below hbl (Or2 S T)).drew).trans hc2 fun b hb => .inl (.inr hb)).trans h1 fun b hb => ?_)
      exact (hT2 b hb).imp (fun h => .inr h) fun hk => Nat.le_trans hbl.size hk
    have hmv : ∀ b, Or2 S T' b → Or2 S T b ∨ w.heap.size ≤ b := fun b hb => hb.elim (fun h => .inl (.inl h)) fun h => (hT2 b h).imp (fun h => .inr h) fun hk => Nat.le_trans hbl.size hk
    obtain ⟨x3, hx3⟩ : ∃ x3, x3 = x1.sync.1 := ⟨_, rfl⟩
    obtain ⟨r3, hr3⟩ : ∃ r3, r3 = x1.sync.2 := ⟨_, rfl⟩
    have HX3 := Lib.hid (show x1.sync = (x3, r3) by rw [hx3, hr3])
    rw [← hx3] at hd3
    rw [← hr3]
    clear hx3 hr3
    have hz : w0.heap.size ≤ w3.heap.size := Nat.le_trans h.size hch.size
    by_cases h1 : r3 = 0
    · subst h1
      have hc := hb3.cell
      have hlg : LogI w3 g p S L := hl3
      obtain ⟨bv, mv, _, _, hbk, _⟩ := hl3
      have hbc := hbk.cell
      have hbf := hbk.frozen
      go_wp2_with fail
      go_ret
      rw [HF.out, HX3.out]
      refine ⟨rfl, T', ⟨?_, ?_, hap2, h.new, ?_⟩, ?_, hmv⟩
      · have h4 := ((hlg.put (L' := { L with number := n }) 3 (.int .u64 n) (fun _ _ => rfl) rfl rfl).put (L' := { L with number := n, epoch := e }) 4 (.int .u64 e) (fun _ _ => rfl) rfl rfl).put (L' := { L with number := n, epoch := e, fin := f }) 5 (.int .u64 f) (fun _ _ => rfl) rfl rfl
        exact h4
      · refine hd3.chg ((((Chg.refl (fun b => b = g) w3).setOf rfl 3 _).setOf rfl 4 _).setOf rfl 5 _) fun b hb e => hap2 b (e ▸ h.log.in_) hb
      · simpa [World.setCell] using hz
      · exact ((hch.setOf (.inl h.log.in_) 3 _).setOf (.inl h.log.in_) 4 _).setOf (.inl h.log.in_) 5 _
    · have hne : (r3 != 0) = true := by simpa using h1
      have H1 := Lib.hid h1; clear h1
      go_wp2_with fail
      go_ret
      rw [HF.out, HX3.out]
      refine ⟨rfl, T', ⟨?_, hd3, hap2, h.new, hz⟩, hch, hmv⟩
      unfold LogS.turned; rw [if_neg H1.out]; exact hl3
  · have HF := Lib.hid (show turnF D L.first n e f = (x1, r1) by unfold turnF; rw [HX.out]; simp only; rw [if_neg h0])
    have H0 := Lib.hid h0
    have hne : (r1 != 0) = true := by simpa using h0
    clear h0
    have hap2 : ∀ b, S b → ¬ T' b := fun b hS hT' => (hT2 b hT').elim (hd.ap b hS) fun hk => by
      have := h.log.lt b hS
      have := hbl.size
      have hk : wc.heap.size ≤ b := hk
      omega
    go_wp2_with fail
    go_ret
    rw [HF.out]
    refine ⟨rfl, T', ⟨?_, hd2, hap2, h.new, ?_⟩, ?_, fun b hb => hb.elim (fun h => .inl (.inl h)) fun h => (hT2 b h).imp (fun h => .inr h) fun hk => Nat.le_trans hbl.size hk⟩
    · unfold LogS.turned; rw [if_neg H0.out]; exact hl2
    · exact Nat.le_trans h.size (Nat.le_trans hbl.size hc2.size)
    · exact ((Chg.of_below hbl (Or2 S T)).drew).trans hc2 fun b hb => .inl (.inr hb)

/-- Restart. -/
def restartF (D : DS) (L : LogS) : DS × LogS × Int :=
  if 0 < L.more.length then (D, L, 43) else
    let x := turnF D L.first (L.number + 1) (L.epoch + 1) 0
    (x.1, if x.2 = 0 then { L with number := L.number + 1, epoch := L.epoch + 1, fin := 0, bytes := [] } else L, x.2)

set_option maxHeartbeats 1000000 in
set_option maxRecDepth 100000 in
theorem restart_ld {w0 w : World} {g p : Nat} {S T : Nat → Prop} {L : LogS} {D : DS} {B : Nat} (h : LD w0 w g p S T L D B)
    (hf0 : 0 ≤ L.first) (hf1 : L.first ≤ 4096) (hn : L.number < 4294967296) (he : L.epoch < 4294967296) (hB : (B + 2) * 264 ≤ 140737488355328) :
    Calls Try.prog 15 #[.pointer (some ⟨g, 0, none⟩)] w fun x w' => x = .returned (.int .i64 (restartF D L).2.2) ∧
      ∃ T', LD w0 w' g p S T' (restartF D L).2.1 (restartF D L).1 (B + 1) ∧ Mv (Or2 S T) w w' (Or2 S T') := by
  have HL := Lib.hid h.log
  obtain ⟨bv, mv, hg, hlt, hbk, hcs, ho, hk⟩ := h.log
  obtain ⟨A, cap, rfl⟩ := ho.form
  have hc := hbk.cell
  clear hcs ho hk hlt
  by_cases hm : 0 < L.more.length
  · have HF := Lib.hid (show restartF D L = (D, L, 43) from if_pos hm)
    go_enter Try.func15, Try.ntmps15
    go_wp2
    go_ret
    rw [HF.out]
    exact ⟨rfl, T, ⟨h.log, h.dk.more (by omega), h.ap, h.new, h.size⟩, Mv.refl _ _⟩
  · have HF := Lib.hid (show restartF D L = _ from if_neg hm)
    have e1 : IntKind.u64.wrap ((L.number : Int) + 1) = ((L.number + 1 : Nat) : Int) := by simp [IntKind.wrap, IntKind.bits, IntKind.signed]; omega
    have e2 : IntKind.u64.wrap ((L.epoch : Int) + 1) = ((L.epoch + 1 : Nat) : Int) := by simp [IntKind.wrap, IntKind.bits, IntKind.signed]; omega
    go_enter Try.func15, Try.ntmps15
    go_wp2_with fail
    refine wp_region_hoist [0, 1, 2, 3, 4, 5, 6, 7, 8, 9, 10, 11, 12, 13] [] [14, 15] (fun w' => w'.cell? ⟨g, 3, none⟩ = some (.int .u64 L.number) ∧ w'.cell? ⟨g, 4, none⟩ = some (.int .u64 L.epoch))
      (by kernel_rfl) (by kernel_rfl) (by kernel_rfl) (by kernel_rfl) (by kernel_rfl) (by kernel_rfl) ⟨by rw [World.cell?_drew, hc]; rfl, by rw [World.cell?_drew, hc]; rfl⟩ ?_
    (refine HoistK.yes (by rfl) (by kernel_rfl) ⟨?_, fun w hSw => ?_, ?_⟩; rotate_left; (· obtain ⟨s0, s1⟩ := hSw; go_simp; try with_reducible rfl); simp only [Act.put, List.setIfInBounds_toArray, List.getElem_toArray, List.getElem_cons_zero, List.set_cons_succ, List.set_cons_zero])
    (iterate 13 (refine HoistK.yes (by rfl) (by kernel_rfl) ⟨?_, fun w hSw => ?_, ?_⟩; rotate_left; (· obtain ⟨s0, s1⟩ := hSw; go_simp; try with_reducible rfl); simp only [Act.put, List.setIfInBounds_toArray, List.getElem_toArray, List.getElem_cons_succ, List.getElem_cons_zero, List.set_cons_succ, List.set_cons_zero]))
    refine HoistK.nil_ ?_
    simp only [opsAt, List.filterMap_cons, List.filterMap_nil, List.getElem?_toArray, List.getElem?_cons_succ, List.getElem?_cons_zero]
    refine Effects.nil_ fun _ hQ2 => ?_
    clear hc
    go_wp2_with fail
    refine (turn_ld (h.below ((Below.refl _ w).drew)) (L.number + 1) (L.epoch + 1) 0 hf0 hf1 (by omega) hB).mono ?_
    rintro x w2 ⟨rfl, T', hd2, hmv⟩
    have hmv' : Mv (Or2 S T) w w2 (Or2 S T') := (Mv.below (Below.refl _ w).drew).trans hmv
    clear hmv
    obtain ⟨x1, hx1⟩ : ∃ x1, x1 = (turnF D L.first (L.number + 1) (L.epoch + 1) 0).1 := ⟨_, rfl⟩
    obtain ⟨r1, hr1⟩ : ∃ r1, r1 = (turnF D L.first (L.number + 1) (L.epoch + 1) 0).2 := ⟨_, rfl⟩
    have HX := Lib.hid (show turnF D L.first (L.number + 1) (L.epoch + 1) 0 = (x1, r1) by rw [hx1, hr1])
    rw [← hx1, ← hr1] at hd2
    rw [← hr1]
    clear hx1 hr1
    rw [HX.out] at HF
    by_cases h0 : r1 = 0
    · subst h0
      have hl2 : LogI w2 g p S { L with number := L.number + 1, epoch := L.epoch + 1, fin := 0 } := hd2.log
      have hd2 := Lib.hid hd2
      have HL2 := Lib.hid hl2
      obtain ⟨_, _, _, _, hbk2, _⟩ := hl2
      have hc2 := hbk2.cell
      have hf2 := hbk2.frozen
      go_wp2_with fail
      go_ret
      rw [HF.out]
      have hs : S g := hg
      refine ⟨rfl, T', ⟨HL2.out.noBytes, hd2.out.dk.chg ((Chg.refl (fun b => b = g) w2).setOf rfl 6 _) fun b hb e => hd2.out.ap b (e ▸ hs) hb, hd2.out.ap, hd2.out.new, ?_⟩, hmv'.1.setOf (.inl hs) 6 _, hmv'.2⟩
      simpa [World.setCell] using hd2.out.size
    · have hne : (r1 == 0) = false := by simpa using h0
      have H0 := Lib.hid h0; clear h0
      have HD2 := Lib.hid hd2; clear hd2
      go_wp2_with fail
      go_ret
      rw [HF.out]
      simp only
      rw [if_neg H0.out]
      have h2 := HD2.out
      unfold LogS.turned at h2
      rw [if_neg H0.out] at h2
      exact ⟨rfl, T', h2, hmv'⟩

end Go.Proofs.Ytcgokafhkkmaoaa
