/- Wal: what the laws' walks share; WalFull's walk. -/
import Derived.Test.YtcgokafhkkmaoaaWkT
namespace Go.Proofs.Ytcgokafhkkmaoaa
open Go.RowKit Go.Maps

/-- Rows that lie apart from what may turn. -/
structure Kept (w : World) (R X : Nat → Prop) (v : Value) (rows : List (List UInt8)) : Prop where
  row : Bsr w R v rows
  lt : ∀ b, R b → b < w.heap.size
  ap : ∀ b, R b → ¬ X b
theorem Kept.mv {w w' : World} {R X X' : Nat → Prop} {v : Value} {rows : List (List UInt8)} (h : Kept w R X v rows) (hm : Mv X w w' X') : Kept w' R X' v rows :=
  ⟨h.row.chg hm.1 h.ap, fun b hb => Nat.lt_of_lt_of_le (h.lt b hb) hm.1.size, fun b hb hx => (hm.2 b hx).elim (h.ap b hb) fun hn => by have := h.lt b hb; omega⟩
theorem Kept.below {w w' : World} {R X : Nat → Prop} {v : Value} {rows : List (List UInt8)} (h : Kept w R X v rows) (hb : Below w.heap.size w w') : Kept w' R X v rows := h.mv (Mv.below hb)
theorem Kept.with_ {w : World} {R X Y : Nat → Prop} {v : Value} {rows : List (List UInt8)} (h : Kept w R X v rows) (hy : ∀ b, R b → ¬ Y b) : Kept w R Y v rows := ⟨h.row, h.lt, hy⟩
theorem Bss.kept {w : World} {R X : Nat → Prop} {v : Value} {rows : List (List UInt8)} {lo : Nat} (h : Bss w R R v rows) (hl : ∀ x ∈ rows, x.length ≤ 140737488355328) (hR : ∀ b, R b → lo ≤ b) (hX : ∀ b, X b → b < lo) : Kept w (fun b => lo ≤ b ∧ b < w.heap.size) X v rows := by
  obtain ⟨vs, ho, hS, hr⟩ := h
  refine ⟨⟨vs, (Cs.of_own ho hS).sub fun b hb hlt => ⟨hR b hb, hlt⟩, fun i x u h1 h2 => ⟨(hr i x u h1 h2).sub fun b hb hlt => ⟨hR b hb.1, hlt⟩, hl x (List.mem_of_getElem? h1)⟩⟩, fun b hb => hb.2, fun b hb hx => by have := hX b hx; omega⟩
theorem LD.lt {w0 w : World} {g p : Nat} {S T : Nat → Prop} {L : LogS} {D : DS} {B : Nat} (h : LD w0 w g p S T L D B) : ∀ b, Or2 S T b → b < w.heap.size := fun b hb => hb.elim (h.log.lt b) (h.dk.lt b)

/-- A log to which records were appended. -/
structure AppI (L0 L : LogS) (rows : List (List UInt8)) : Prop where
  is : L = { L0 with more := enc rows }
  area : ((L.bytes ++ L.more).length : Int) ≤ (L.size - 2) * 256
  small : ∀ x ∈ rows, x.length ≤ 140737488355328
theorem AppI.start {L0 : LogS} (hm : L0.more = []) (ha : (L0.bytes.length : Int) ≤ (L0.size - 2) * 256) : AppI L0 L0 [] := ⟨by cases L0; simp at hm; simp [hm, enc], by rw [hm, List.append_nil]; exact ha, fun x hx => by cases hx⟩
theorem AppI.more {L0 L : LogS} {rows : List (List UInt8)} (h : AppI L0 L rows) (x : List UInt8) (hx : x.length ≤ 140737488355328) :
    (L.append x = (L, 42) ∧ AppI L0 (L.append x).1 rows) ∨ ((L.append x).2 = 0 ∧ AppI L0 (L.append x).1 (rows ++ [x])) := by
  by_cases hf : L.left < 8 + x.length
  · have e : L.append x = (L, 42) := by unfold LogS.append; rw [if_pos hf]
    exact .inl ⟨e, by rw [e]; exact h⟩
  · have e := L.append_ok x hf
    refine .inr ⟨by rw [e], by rw [e, h.is]; simp [enc_append, enc_one], ?_, fun y hy => ?_⟩
    · rw [e]
      simp only [List.length_append, encR_length]
      unfold LogS.left at hf
      omega
    · rcases List.mem_append.1 hy with hy | hy
      · exact h.small y hy
      · rw [List.mem_singleton.1 hy]; exact hx
theorem AppI.small_ {L0 L : LogS} {rows : List (List UInt8)} (h : AppI L0 L rows) (hs : L.size ≤ 4096) : L.bytes.length ≤ 1048576 ∧ L.more.length ≤ 1048576 ∧ (L.bytes ++ L.more).length ≤ 1048576 := by
  have := h.area
  simp only [List.length_append] at this ⊢
  omega
theorem small_rows {rows : List (List UInt8)} (h : (enc rows).length ≤ 1048576) : ∀ x ∈ rows, x.length ≤ 1048576 := by
  induction rows with
  | nil => intro x hx; cases hx
  | cons y r ih =>
    rw [enc_cons, List.length_append, encR_length] at h
    intro x hx
    rcases List.mem_cons.1 hx with e | hx
    · subst e; omega
    · exact ih (by omega) x hx
theorem parse_small {rows : List (List UInt8)} (h : (enc rows).length ≤ 1048576) : parse (enc rows).length (enc rows) = some rows :=
  parse_enc rows fun x hx => by have := small_rows h x hx; omega

theorem open_at {w0 w : World} {p : Nat} {T : Nat → Prop} {D : DS} {B : Nat} {L : LogS} {rows : List (List UInt8)} (first size : Int) (h : Dk w0 w p T D B) (hz : w0.heap.size ≤ w.heap.size) (hW : WalI D L) (hm : L.more = []) (e1 : L.first = first) (e2 : L.size = size)
    (hp : parse L.bytes.length L.bytes = some rows) (hB : (B + 4) * 264 ≤ 140737488355328) :
    Calls Try.prog 9 #[.pointer (some ⟨p, 0, none⟩), .int .i64 first, .int .i64 size] w fun e w' => ∃ (g : Nat) (S R : Nat → Prop) (v : Value), e = .returned (.tuple #[.pointer (some ⟨g, 0, none⟩), v, .int .i64 0]) ∧
      LD w0 w' g p S T L D B ∧ Bss w' R R v rows ∧ (∀ b, S b → w.heap.size ≤ b) ∧ (∀ b, R b → w.heap.size ≤ b) ∧ (∀ b, S b → ¬ R b) ∧ Below w.heap.size w w' := by
  subst e1 e2
  have := open_wal h hz hW hp hB
  rw [show ({ L with more := [] } : LogS) = L by cases L; simp at hm; simp [hm]] at this
  exact this
theorem DS.room_back (D : DS) (r : Int) (h : D.room = 40) : ({ ({ D with room := r } : DS) with room := max 40 0 } : DS) = D := by cases D; simp only at h; subst h; rfl
theorem WalI.room_ {D : DS} {L : LogS} (h : WalI D L) (r : Int) : WalI { D with room := r } L := ⟨h.down, h.loose, ⟨h.byt.loose, h.byt.firm⟩, h.ok, h.fit, h.blk, h.num1, h.num2, h.ep, h.fin, h.area, h.mark, h.other, h.data⟩
/-- Sync with room, no fuse. -/
theorem WalI.sync_any {D : DS} {L0 L : LogS} {rows : List (List UInt8)} (h : WalI D L0) (hA : AppI L0 L rows) (hm0 : L0.more = []) (hf : D.fuse < 0) (hr : L0.first + L0.size ≤ D.room) (hn : L0.number + 1 < 4294967296) :
    ∃ D' L', syncF D L = (D', L', 0) ∧ WalI D' L' ∧ L'.more = [] ∧ L'.bytes = L0.bytes ++ enc rows ∧ L'.first = L0.first ∧ L'.size = L0.size ∧ L'.number ≤ L0.number + 1 ∧ L'.epoch = L0.epoch ∧ Rooms D D' := by
  have hL := hA.is
  have hW : WalI D L := by rw [hL]; exact h.with_ _
  have hb := hW.bounds
  have ha := hA.area
  have e1 : L.first = L0.first := by rw [hL]
  have e2 : L.size = L0.size := by rw [hL]
  have e3 : L.number = L0.number := by rw [hL]
  have e4 : L.epoch = L0.epoch := by rw [hL]
  have e5 : L.bytes = L0.bytes := by rw [hL]
  have e6 : L.more = enc rows := by rw [hL]
  by_cases hm : L.more.length = 0
  · have hmn := List.eq_nil_of_length_eq_zero hm
    exact ⟨D, L, by unfold syncF; rw [if_pos hm], hW, hmn, by rw [← e6, hmn, List.append_nil, e5], e1, e2, by omega, e4, rfl, rfl, fun h => h⟩
  · rcases hW.syncs hm ha (by omega) (by omega) with ⟨D', hs, hW', _, hR⟩ | ⟨hf', _⟩
    · exact ⟨D', _, hs, hW', rfl, by simp only; rw [e5, e6], e1, e2, by simp only; omega, e4, hR⟩
    · omega

set_option maxHeartbeats 2000000 in
set_option maxRecDepth 100000 in
theorem full_law (w : World) {va vb : Value} {a b : List (List UInt8)} (room : Int) (ha : Bsr w (fun b => b < w.heap.size) va a) (hb : Bsr w (fun b => b < w.heap.size) vb b) :
    Calls Try.prog 3 #[va, vb, .int .i64 room] w fun e w' => e = .returned (.bool true) ∧ Below w.heap.size w w' := by
  obtain ⟨D1, hF1, hW1, _, hR1⟩ := formats (D := DS.new 40) (first := 3) (size := 30) rfl (by simp [DS.new]) (new_byt 40) (DS.Fine.new 40).ok (by simp [fitsB, DS.new]) (by simp [DS.new]) (by simp [DS.new])
  obtain ⟨L0, hL0⟩ : ∃ L0 : LogS, L0 = ⟨3, 30, 1, 1, 0, [], []⟩ := ⟨_, rfl⟩
  rw [← hL0] at hW1
  have HF1 := Lib.hid hF1; clear hF1
  have HW1 := Lib.hid hW1; clear hW1
  have hr1 : D1.room = 40 := hR1.1
  have hu1 : D1.fuse < 0 := hR1.2.2 (by simp [DS.new])
  have HR1 := Lib.hid hr1; clear hr1 hR1
  obtain ⟨A1, c1, rfl⟩ := ha.form
  obtain ⟨A2, c2, rfl⟩ := hb.form
  have hal : a.length ≤ 9223372036854775807 := by
    obtain ⟨_, ⟨_, _, _, e, h1, h2, _⟩, _⟩ := ha
    injection e with _ e1 _
    simp only [maxLen] at h2
    omega
  have hbl0 : b.length ≤ 9223372036854775807 := by
    obtain ⟨_, ⟨_, _, _, e, h1, h2, _⟩, _⟩ := hb
    injection e with _ e1 _
    simp only [maxLen] at h2
    omega
  have HA := Lib.hid ha
  have HB := Lib.hid hb
  clear ha hb
  have HL0 := Lib.hid hL0; clear hL0
  go_enter Try.func3, Try.ntmps3
  go_wp2_with fail
  refine (fixed_any w).mono ?_
  rintro e w1 ⟨rfl, hb1⟩
  go_wp2_with fail
  refine (new_dk 40 (by omega) (by omega) w w1 hb1.size).mono ?_
  rintro e w2 ⟨p, T0, rfl, hd0, hb12, hT0⟩
  have hb2 := hb1.trans (hb12.mono hb1.size)
  go_wp2_with fail
  refine (format_dk hd0 hb2.size (first := 3) (size := 30) (by omega) (by omega) (by omega) (by omega) (by simp [DS.new]) (by simp [DS.new]) (by omega)).mono ?_
  intro e w3 hP
  rw [HF1.out] at hP
  obtain ⟨rfl, T1, hd1, hm1⟩ := hP
  have hb3 : Below w.heap.size w w3 := hb2.trans (hm1.1.below hb2.size fun b hb => hd0.new b hb)
  clear hd0 hm1 hT0 hb2 hb12 hb1
  go_wp2_with fail
  refine (open_at (rows := []) 3 30 hd1 hb3.size HW1.out (by rw [HL0.out]) (by rw [HL0.out]) (by rw [HL0.out]) (by rw [HL0.out]; rfl) (by omega)).mono ?_
  rintro e w4 ⟨g, S, R, v, rfl, hl4, hv4, hS4, hR4, hSR4, hb34⟩
  have hb4 : Below w.heap.size w w4 := hb3.trans (hb34.mono hb3.size)
  obtain ⟨Av, cv, rfl⟩ := hv4.form
  clear hv4 hR4 hSR4 hS4 hb34 hb3 hd1
  have hap0 : AppI L0 L0 [] := AppI.start (by rw [HL0.out]) (by rw [HL0.out]; simp)
  go_wp2_with fail
  go_loopw [11] (fun i wr => ∃ (k : Nat) (rows : List (List UInt8)) (S : Nat → Prop) (L : LogS), k ≤ a.length ∧ i = .int .i64 k ∧ AppI L0 L rows ∧ LD w wr g p S T1 L D1 (0 + 2) ∧ Below w.heap.size w wr) (fun i _ => a.length - (intOf i).toNat)
  case atStart => exact ⟨0, [], S, L0, Nat.zero_le _, rfl, hap0, hl4, hb4⟩
  case round =>
    clear hl4 hb4 hap0
    obtain ⟨k, rows, S, L, hk, rfl, hap, hld, hbl⟩ := hrel
    have HSZ := Lib.hid (show L0.size = 30 by rw [HL0.out])
    by_cases hlt : k < a.length
    · as_aux_lemma =>
      obtain ⟨ba, oa, u, rfl, hcell, hu, _, _⟩ := (HA.out.below hbl).at_ hlt
      obtain ⟨x, hx⟩ : ∃ x, x = a[k] := ⟨_, rfl⟩
      rw [← hx] at hu
      clear hx
      have hltI : (k : Int) < (a.length : Int) := by omega
      have hsm := hap.small_ (by rw [hap.is]; simp only; rw [HSZ.out]; omega)
      obtain ⟨Au, cu, rfl⟩ := hu.form
      have hSz : L.size = 30 := by rw [hap.is]; exact HSZ.out
      have hmore := hap.more x hu.2
      have HAP := Lib.hid hap; clear hap
      have happ := append_ld hld x _ hu.1 (fun b hb hlt => Nat.not_lt.2 (hld.new b hb) hlt) (by rw [hSz]; omega) (by rw [hSz]; omega) (Nat.le_trans hsm.1 (by omega)) hsm.2.1 hu.2
      have HAPP := Lib.hid happ; clear happ hSz
      have HSM := Lib.hid hsm; clear hsm
      have HU := Lib.hid hu; clear hu
      go_wp2_with fail
      refine HAPP.out.mono ?_
      rintro e w5 ⟨rfl, S', hld', hmv⟩
      have hbl' := hld.out hmv hbl
      have hex : ∃ rows', AppI L0 (L.append x).1 rows' := by
        rcases hmore with ⟨_, h⟩ | ⟨_, h⟩
        · exact ⟨_, h⟩
        · exact ⟨_, h⟩
      obtain ⟨rows', hap'⟩ := hex
      clear hmore
      go_wp2_with fail
      exact ⟨⟨k + 1, rows', S', _, by omega, by go_num, hap', hld', hbl'⟩, by simp only [intOf]; omega⟩
    · have hka : ¬ (k : Int) < (a.length : Int) := by omega
      have hsy := HW1.out.sync_any hap (by rw [HL0.out]) hu1 (by rw [HL0.out, HR1.out]; simp) (by rw [HL0.out]; simp)
      obtain ⟨D2, L1, hs, hW2, hm1, hby1, hf1, hs1, hn1, he1, hR2⟩ := hsy
      have hsm := hap.small_ (by rw [hap.is]; simp only; rw [HSZ.out]; omega)
      have hLis := hap.is
      have q1 : L.first = 3 := by rw [hLis, HL0.out]
      have q2 : L.number = 1 := by rw [hLis, HL0.out]
      have q3 : L.epoch = 1 := by rw [hLis, HL0.out]
      have hsync := sync_ld hld (by rw [q1]; omega) (by rw [q1]; omega) (by rw [q2]; omega) (by rw [q3]; omega) hsm.2.2 (by omega)
      have hcnt := L.count_le hsm.2.2
      have hby1' : L1.bytes = enc rows := by rw [hby1, HL0.out]; rfl
      have hfirst1 : L1.first = 3 := by rw [hf1, HL0.out]
      have hsize1 : L1.size = 30 := by rw [hs1, HL0.out]
      have hnum1 : L1.number ≤ 2 := by rw [HL0.out] at hn1; exact hn1
      have hep1 : L1.epoch = 1 := by rw [he1, HL0.out]
      have hroom2 : D2.room = 40 := hR2.1.trans HR1.out
      have hfuse2 : D2.fuse < 0 := hR2.2.2 hu1
      rw [hs] at hsync
      have HSY := Lib.hid hsync; clear hsync
      have HX := Lib.hid (And.intro hm1 (And.intro hby1' (And.intro hfirst1 (And.intro hsize1 hep1))))
      have HR2 := Lib.hid hroom2
      have HW2 := Lib.hid hW2
      have hsmall : (enc rows).length ≤ 1048576 := by rw [← hby1']; exact hW2.small
      clear hs hm1 hby1 hf1 hs1 he1 hR2 hLis q1 q2 q3 hby1' hfirst1 hsize1 hep1 hroom2 hsm hap hW2 hn1
      go_wp2_with fail
      refine HSY.out.mono ?_
      rintro e w5 ⟨rfl, S5, T5, hl5, hm5⟩
      have hb5 := hld.out hm5 hbl
      have hl5 : LD w w5 g p S5 T5 L1 D2 5000 := ⟨hl5.log, hl5.dk.more (by omega), hl5.ap, hl5.new, hl5.size⟩
      clear hld hm5 hbl HSY hcnt
      go_wp2_with fail
      refine (open_at (rows := rows) 3 30 hl5.dk hb5.size HW2.out HX.out.1 HX.out.2.2.1 HX.out.2.2.2.1 (by rw [HX.out.2.1]; exact parse_small hsmall) (by omega)).mono ?_
      rintro e w6 ⟨g6, S6, R6, v6, rfl, _, hv6, _, hR6, _, hb56⟩
      have hb6 : Below w.heap.size w w6 := hb5.trans (hb56.mono hb5.size)
      have hl6 := hl5.below hb56
      have hk6 := hv6.kept (fun x hx => by have := small_rows hsmall x hx; omega) hR6 hl5.lt
      obtain ⟨A6, c6, rfl⟩ := hv6.form
      clear hv6 hR6 hb56 hl5 hb5
      go_wp2_with fail
      refine (room_dk hl6.dk room).mono ?_
      rintro e w7 ⟨rfl, hd7, hc7⟩
      have hl7 : LD w w7 g p S5 T5 L1 { D2 with room := max room 0 } 5000 := ⟨hl6.log.chg hc7 hl6.ap, hd7, hl6.ap, hl6.new, Nat.le_trans hl6.size hc7.size⟩
      have hm7 : Mv (Or2 S5 T5) w6 w7 (Or2 S5 T5) := ⟨hc7.mono fun b hb => .inr hb, fun b hb => .inl hb⟩
      have hb7 := hl6.out hm7 hb6
      have hk7 := hk6.mv hm7
      clear hl6 hm7 hb6 hk6 hd7 hc7
      have HW3 := Lib.hid (HW2.out.room_ (max room 0))
      have hfuse3 : ({ D2 with room := max room 0 } : DS).fuse < 0 := hfuse2
      obtain ⟨D3, hD3⟩ : ∃ D3 : DS, D3 = { D2 with room := max room 0 } := ⟨_, rfl⟩
      have HB40 := Lib.hid (show ({ D3 with room := max 40 0 } : DS) = D2 by rw [hD3]; exact D2.room_back _ HR2.out)
      rw [← hD3] at HW3 hl7 hfuse3
      clear hD3
      have hap1 : AppI L1 L1 [] := AppI.start HX.out.1 HW3.out.area
      have HSZ1 := Lib.hid HX.out.2.2.2.1
      go_wp2_with fail
      go_loopw [15] (fun i wr => ∃ (k : Nat) (rws : List (List UInt8)) (S : Nat → Prop) (L : LogS), k ≤ b.length ∧ i = .int .i64 k ∧ AppI L1 L rws ∧ LD w wr g p S T5 L D3 5000 ∧ Kept wr (fun b => w5.heap.size ≤ b ∧ b < w6.heap.size) (Or2 S T5) (.slice A6 rows.length c6) rows ∧ Below w.heap.size w wr) (fun i _ => b.length - (intOf i).toNat)
      case atStart => exact ⟨0, [], S5, L1, Nat.zero_le _, rfl, hap1, hl7, hk7, hb7⟩
      case round =>
        clear hl7 hb7 hap1 hk7
        obtain ⟨k, rws, S, L, hk, rfl, hap, hld, hkp, hbl⟩ := hrel
        by_cases hlt : k < b.length
        · as_aux_lemma =>
          obtain ⟨ba, oa, u, rfl, hcell, hu, _, _⟩ := (HB.out.below hbl).at_ hlt
          obtain ⟨x, hx⟩ : ∃ x, x = b[k] := ⟨_, rfl⟩
          rw [← hx] at hu
          clear hx
          have hltI : (k : Int) < (b.length : Int) := by omega
          have hsm := hap.small_ (by rw [hap.is]; simp only; rw [HSZ1.out]; omega)
          obtain ⟨Au, cu, rfl⟩ := hu.form
          have hSz : L.size = 30 := by rw [hap.is]; exact HSZ1.out
          have hmore := hap.more x hu.2
          have HAP := Lib.hid hap; clear hap
          have happ := append_ld hld x _ hu.1 (fun b hb hlt => Nat.not_lt.2 (hld.new b hb) hlt) (by rw [hSz]; omega) (by rw [hSz]; omega) (Nat.le_trans hsm.1 (by omega)) hsm.2.1 hu.2
          have HAPP := Lib.hid happ; clear happ hSz
          have HSM := Lib.hid hsm; clear hsm
          have HU := Lib.hid hu; clear hu
          go_wp2_with fail
          refine HAPP.out.mono ?_
          rintro e w5 ⟨rfl, S', hld', hmv⟩
          have hbl' := hld.out hmv hbl
          have hex : ∃ rows', AppI L1 (L.append x).1 rows' := by
            rcases hmore with ⟨_, h⟩ | ⟨_, h⟩
            · exact ⟨_, h⟩
            · exact ⟨_, h⟩
          obtain ⟨rows', hap'⟩ := hex
          clear hmore
          go_wp2_with fail
          exact ⟨⟨k + 1, rows', S', _, by omega, by go_num, hap', hld', hkp.mv hmv, hbl'⟩, by simp only [intOf]; omega⟩
        · as_aux_lemma =>
          have hkb : ¬ (k : Int) < (b.length : Int) := by omega
          have hLis := hap.is
          have hW : WalI D3 L := by rw [hLis]; exact HW3.out.with_ _
          have hsm := hap.small_ (by rw [hLis]; simp only; rw [HSZ1.out]; omega)
          have q1 : L.first = 3 := by rw [hLis]; exact HX.out.2.2.1
          have q2 : L.number ≤ 2 := by rw [hLis]; exact hnum1
          have q3 : L.epoch = 1 := by rw [hLis]; exact HX.out.2.2.2.2
          have q4 : ({ L with more := [] } : LogS) = L1 := by
            have := HX.out.1
            rw [hLis]; cases L1; simp only at this ⊢; rw [this]
          have hsync := sync_ld hld (by rw [q1]; omega) (by rw [q1]; omega) (by omega) (by rw [q3]; omega) hsm.2.2 (by omega)
          have hcnt := L.count_le hsm.2.2
          have hfull : (syncF D3 L).2.2 = 42 → syncF D3 L = (D3, L1, 42) := fun h => by
            have hm : L.more.length ≠ 0 := fun h0 => by unfold syncF at h; rw [if_pos h0] at h; simp at h
            rw [hW.full hfuse3 hm hap.area (by omega) h, q4]
          obtain ⟨r, hr⟩ : ∃ r, r = (syncF D3 L).2.2 := ⟨_, rfl⟩
          by_cases h42 : r = 42
          · have hs := hfull (by rw [← hr]; exact h42)
            rw [hs] at hsync
            have HSY := Lib.hid hsync; clear hsync
            clear hs h42 hr hfull q1 q2 q3 q4 hsm hW hap hLis
            go_wp2_with fail
            refine HSY.out.mono ?_
            rintro e w8 ⟨rfl, S8, T8, hl8, hm8⟩
            have hb8 := hld.out hm8 hbl
            have hk8 := hkp.mv hm8
            have hl8 : LD w w8 g p S8 T8 L1 D3 10000 := ⟨hl8.log, hl8.dk.more (by omega), hl8.ap, hl8.new, hl8.size⟩
            clear hld hm8 hbl HSY hcnt hkp
            go_wp2_with fail
            refine (open_at (rows := rows) 3 30 hl8.dk hb8.size HW3.out HX.out.1 HX.out.2.2.1 HX.out.2.2.2.1 (by rw [HX.out.2.1]; exact parse_small hsmall) (by omega)).mono ?_
            rintro e w9 ⟨g9, S9, R9, v9, rfl, _, hv9, _, hR9, _, hb89⟩
            have hb9 : Below w.heap.size w w9 := hb8.trans (hb89.mono hb8.size)
            have hl9 := hl8.below hb89
            have hk9 := hk8.below hb89
            have hj9 := hv9.kept (fun x hx => by have := small_rows hsmall x hx; omega) hR9 hl8.lt
            obtain ⟨A9, c9, rfl⟩ := hv9.form
            clear hv9 hR9 hb89 hl8 hb8 hk8
            go_wp2_with fail
            refine (room_dk hl9.dk 40).mono ?_
            rintro e w10 ⟨rfl, hd10, hc10⟩
            rw [HB40.out] at hd10
            have hl10 : LD w w10 g p S8 T8 L1 D2 10000 := ⟨hl9.log.chg hc10 hl9.ap, hd10, hl9.ap, hl9.new, Nat.le_trans hl9.size hc10.size⟩
            have hm10 : Mv (Or2 S8 T8) w9 w10 (Or2 S8 T8) := ⟨hc10.mono fun b hb => .inr hb, fun b hb => .inl hb⟩
            have hb10 := hl9.out hm10 hb9
            have hk10 := hk9.mv hm10
            have hj10 := hj9.mv hm10
            clear hl9 hm10 hb9 hk9 hj9 hd10 hc10
            go_wp2_with fail
            refine (same_any w10 hk10.row hj10.row).mono ?_
            rintro e w11 ⟨rfl, hb1011⟩
            rw [show sameB rows rows = true by simp [sameB]]
            have hl11 := hl10.below hb1011
            have hb11 := hb10.trans (hb1011.mono hb10.size)
            clear hk10 hj10 hl10 hb10 hb1011
            have hs2 : syncF D2 L1 = (D2, L1, 0) := by unfold syncF; rw [if_pos (by rw [HX.out.1]; rfl)]
            have hsy2 := sync_ld hl11 (by rw [HX.out.2.2.1]; omega) (by rw [HX.out.2.2.1]; omega) (by omega) (by rw [HX.out.2.2.2.2]; omega) (by rw [HX.out.1, List.append_nil]; exact HW3.out.small) (by omega)
            rw [hs2] at hsy2
            have HSY2 := Lib.hid hsy2; clear hsy2 hs2
            go_wp2_with fail
            refine HSY2.out.mono ?_
            rintro e w12 ⟨rfl, S12, T12, hl12, hm12⟩
            have hb12 := hl11.out hm12 hb11
            clear hl11 hb11 hm12 HSY2
            go_wp2_with fail
            have hx := Cs.of_new w12 5 (size := 1) 1 (cs := [.int .u8 1]) rfl (by simp [maxLen])
            have hl13 := hl12.below ((Below.refl _ w12).alloc (Nat.le_refl _) (.cells #[.int .u8 1] 5))
            have hb13 : Below w.heap.size w (w12.alloc (.cells #[.int .u8 1] 5)) := hb12.alloc hb12.size _
            have hres : ((L1.append [1]).2 != 43) = true := by
              unfold LogS.append; split <;> rfl
            refine (append_ld hl13 [1] _ (show Cs _ _ 1 _ 1 (u8s [1]) from hx) (fun k hk e => by have := hl12.log.lt k hk; omega) (by rw [HX.out.2.2.2.1]; omega) (by rw [HX.out.2.2.2.1]; omega) (by have := HW3.out.small; omega) (by rw [HX.out.1]; simp) (by simp)).mono ?_
            rintro e w14 ⟨rfl, S14, hl14, hm14⟩
            have hb14 := hl13.out hm14 hb13
            obtain ⟨rr, hrr⟩ : ∃ rr, rr = (L1.append [1]).2 := ⟨_, rfl⟩
            rw [← hrr] at hres ⊢
            clear hrr hm14 hl13 hb13 hl14
            go_wp2_with fail
            go_ret
            exact ⟨rfl, hb14⟩
          · rw [← hr] at hsync
            have hne : (r != 42) = true := by simpa using h42
            have HSY := Lib.hid hsync; clear hsync
            clear h42 hr hfull q1 q2 q3 q4 hsm hW hap hLis
            go_wp2_with fail
            refine HSY.out.mono ?_
            rintro e w8 ⟨rfl, S8, T8, hl8, hm8⟩
            have hb8 := hld.out hm8 hbl
            go_wp2_with fail
            go_ret
            exact ⟨rfl, hb8⟩

end Go.Proofs.Ytcgokafhkkmaoaa
