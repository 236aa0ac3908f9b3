/- Wal: WalCrash's walk. -/
import Derived.Test.YtcgokafhkkmaoaaWkX
namespace Go.Proofs.Ytcgokafhkkmaoaa
open Go.RowKit Go.Maps

theorem wpList_app_g {ops : Array Oper} {rest : List Oper} {o : Oper} {a : Act} {w : World} {Q : Exit → Act → World → Prop} (hw : Region.wanted o (yielded ops a.tmps) = true) (s x : Operand) (t : TypeId)
    (ho : o.op = .call { callee := .builtin .append, args := #[s, x], argTypes := #[t, t] }) {e : TypeId} {z : Value} {size bytes : Nat} (ht : Try.prog.underlying t = some (.slice e))
    (hinfo : (Try.prog.info? e).map (fun i => (i.zero, i.size, i.bytes)) = some (some z, size, bytes)) (hzs : z.cells.size = size) (hsz : 0 < size)
    {v : Value} {n : Nat} {xs : List Value} (hown : Own w e size v n xs) (hs : a.eval s = v) {S : Nat → Prop} {src : Value} {m : Nat} {news : List Value} (hr : Cs w S size src m news) (hx : a.eval x = src)
    (h1 : ∀ u ∈ news, u.oneCell' = true) (h63 : n + m ≤ maxLen) (hbytes : (n + m) * bytes ≤ 140737488355328)
    (h : ∀ v' w', Own w' e size v' (n + m) (xs ++ news) → Chg (fun b => v.ownBlock = some b) w w' → (v' = .slice none 0 0 ↔ v = .slice none 0 0 ∧ m = 0) →
      (v'.ownBlock = v.ownBlock ∨ v'.ownBlock = some w.heap.size) → wpList Try.prog ops Q rest (a.put o.dst v') w') : wpList Try.prog ops Q (o :: rest) a w :=
  wpList_step fun _ hK => by rw [if_pos hw]; exact wp_app w s x t ho ht hinfo hzs hsz hown hs hr hx h1 h63 hbytes fun v' w' h2 h3 h4 h5 => hK _ _ (h v' w' h2 h3 h4 h5)

/-- Groups of records that came in. -/
def Bsg (w : World) (S : Nat → Prop) (v : Value) (gs : List (List (List UInt8))) : Prop := ∃ us : List Value, Cs w S 1 v gs.length us ∧ ∀ (i : Nat) (rows : List (List UInt8)) (u : Value), gs[i]? = some rows → us[i]? = some u → Bsr w S u rows
theorem Bsg.form {w : World} {S : Nat → Prop} {v : Value} {gs : List (List (List UInt8))} (h : Bsg w S v gs) : ∃ A cap, v = .slice A gs.length cap := by
  obtain ⟨us, h, _⟩ := h
  exact h.form
theorem Bsg.below {w w' : World} {S : Nat → Prop} {v : Value} {gs : List (List (List UInt8))} (h : Bsg w S v gs) (hb : Below w.heap.size w w') : Bsg w' S v gs := by
  obtain ⟨us, h1, h2⟩ := h
  exact ⟨us, h1.below hb, fun i x u a b => (h2 i x u a b).below hb⟩
theorem Bsg.len {w : World} {S : Nat → Prop} {v : Value} {gs : List (List (List UInt8))} (h : Bsg w S v gs) : gs.length ≤ 9223372036854775807 := by
  obtain ⟨_, ⟨_, _, _, _, h1, h2, _⟩, _⟩ := h
  simp only [maxLen] at h2
  omega
theorem Bsg.at_ {w : World} {S : Nat → Prop} {A : Option Addr} {cap : Nat} {gs : List (List (List UInt8))} (h : Bsg w S (.slice A gs.length cap) gs) {k : Nat} (hk : k < gs.length) :
    ∃ b off u, A = some ⟨b, off, none⟩ ∧ w.cell? ⟨b, off + k, none⟩ = some u ∧ Bsr w S u gs[k] ∧ b < w.heap.size ∧ S b := by
  obtain ⟨vs, h1, h2⟩ := h
  have hl := h1.1
  obtain ⟨_, A', cap', e, _, _, hp⟩ := h1
  injection e with e
  subst e
  obtain ⟨b, off, rfl, hS, hlt, hc⟩ := hp (by omega)
  have hg : vs[k]? = some (vs[k]'(by omega)) := List.getElem?_eq_getElem _
  exact ⟨b, off, vs[k]'(by omega), rfl, hc k _ hg, h2 k _ _ (List.getElem?_eq_getElem hk) hg, hlt, hS⟩
/-- Rows that are read: their cells lie in P, what they hold in Q. -/
def Rr (w : World) (P Q : Nat → Prop) (v : Value) (rows : List (List UInt8)) : Prop := ∃ vs : List Value, Cs w P 1 v rows.length vs ∧ ∀ (i : Nat) (x : List UInt8) (u : Value), rows[i]? = some x → vs[i]? = some u → Bs w Q u x
theorem Rr.nil_ (w : World) (P Q : Nat → Prop) : Rr w P Q (.slice none 0 0) [] := ⟨[], Cs.nil_ _ _ _, fun i x u h => by simp at h⟩
theorem Rr.form {w : World} {P Q : Nat → Prop} {v : Value} {rows : List (List UInt8)} (h : Rr w P Q v rows) : ∃ A cap, v = .slice A rows.length cap := by
  obtain ⟨vs, h, _⟩ := h
  exact h.form
theorem Rr.mv {w w' : World} {P P' Q X : Nat → Prop} {v : Value} {rows : List (List UInt8)} (h : Rr w P Q v rows) (hP' : ∀ k, P k → k < w.heap.size → P' k) (hc : Chg X w w') (hP : ∀ k, P k → ¬ X k) (hQ : ∀ k, Q k → ¬ X k) : Rr w' P' Q v rows := by
  obtain ⟨vs, h1, h2⟩ := h
  exact ⟨vs, (h1.chg hc hP).sub' h1 hP', fun i x u a b => (h2 i x u a b).chg hc hQ⟩
theorem Rr.below {w w' : World} {P Q : Nat → Prop} {v : Value} {rows : List (List UInt8)} (h : Rr w P Q v rows) (hb : Below w.heap.size w w') : Rr w' P Q v rows := by
  obtain ⟨vs, h1, h2⟩ := h
  exact ⟨vs, h1.below hb, fun i x u a b => (h2 i x u a b).below hb⟩
theorem Rr.read {w : World} {P Q : Nat → Prop} {v : Value} {rows : List (List UInt8)} (h : Rr w P Q v rows) : Bsr w (fun b => P b ∨ Q b) v rows := by
  obtain ⟨vs, h1, h2⟩ := h
  exact ⟨vs, h1.sub fun b hb _ => .inl hb, fun i x u a b => (h2 i x u a b).sub fun b hb _ => .inr hb⟩
theorem Bss.rr {w : World} {P Q : Nat → Prop} {v : Value} {rows : List (List UInt8)} (h : Bss w P Q v rows) (hl : ∀ x ∈ rows, x.length ≤ 140737488355328) : Rr w P Q v rows := by
  obtain ⟨vs, ho, hS, hr⟩ := h
  exact ⟨vs, Cs.of_own ho hS, fun i x u h1 h2 => ⟨(hr i x u h1 h2).sub fun b hb _ => hb.1, hl x (List.mem_of_getElem? h1)⟩⟩
/-- What the law keeps beside the log. -/
def Fre (w0 : World) (S T : Nat → Prop) : Nat → Prop := fun b => w0.heap.size ≤ b ∧ ¬ Or2 S T b
theorem Fre.mv {w0 w w' : World} {S T S' T' : Nat → Prop} (hm : Mv (Or2 S T) w w' (Or2 S' T')) : ∀ k, Fre w0 S T k → k < w.heap.size → Fre w0 S' T' k := fun k hP hlt => ⟨hP.1, fun hx => (hm.2 k hx).elim hP.2 fun hn => by omega⟩
theorem LD.arg {w0 w : World} {g p : Nat} {S T : Nat → Prop} {L : LogS} {D : DS} {B : Nat} (h : LD w0 w g p S T L D B) : ∀ k, k < w0.heap.size → ¬ Or2 S T k := fun k hQ hx => hx.elim (fun h' => Nat.not_lt.2 (h.new k h') hQ) fun h' => Nat.not_lt.2 (h.dk.new k h') hQ
theorem sync_nil {w0 w : World} {g p : Nat} {S T : Nat → Prop} {L : LogS} {D : DS} {B : Nat} (h : LD w0 w g p S T L D B) (hm : L.more.length = 0) :
    Calls Try.prog 11 #[.pointer (some ⟨g, 0, none⟩)] w fun x w' => x = .returned (.int .i64 0) ∧ w' = w := by
  obtain ⟨bv, mv, hg, hlt, hbk, hcs, ho, hk⟩ := h.log
  obtain ⟨A, cap, rfl⟩ := hcs.form
  obtain ⟨A2, cap2, rfl⟩ := ho.form
  have hc := hbk.cell
  rw [hm] at hc
  clear hcs ho
  go_enter Try.func11, Try.ntmps11
  go_wp2
  go_ret
  exact ⟨rfl, rfl⟩

theorem sync_up {w0 w : World} {g p : Nat} {S T : Nat → Prop} {L L2 : LogS} {D : DS} {B c : Nat} {F rs : List (List UInt8)} (h : LD w0 w g p S T L2 D B) (hu : UpI D L F) (hap : AppI L L2 rs) (hN : NumI L c) (hB : B ≤ 5000 * L.number + 2) :
    Calls Try.prog 11 #[.pointer (some ⟨g, 0, none⟩)] w fun e w' => ∃ (S' T' : Nat → Prop) (L' : LogS) (D' : DS) (B' : Nat) (r : Int), e = .returned (.int .i64 r) ∧ LD w0 w' g p S' T' L' D' B' ∧ Mv (Or2 S T) w w' (Or2 S' T') ∧
      ((r = 0 ∧ UpI D' L' (F ++ rs) ∧ NumI L' c ∧ B' ≤ 5000 * L'.number + 2) ∨ (r = 44 ∧ D'.down = true ∧ EndI D' F (F ++ rs) ∧ B' ≤ 9000000)) := by
  have hnum := hN.le hu
  have hLis := hap.is
  have hsm := hap.small_ (by rw [hLis]; simp only; rw [hu.size]; omega)
  have q1 : L2.first = 3 := by rw [hLis]; exact hu.first
  have q2 : L2.number = L.number := by rw [hLis]
  have q3 : L2.epoch = L.epoch := by rw [hLis]
  have q4 : L2.more = enc rs := by rw [hLis]
  by_cases hm : L2.more.length = 0
  · have hrs : rs = [] := by
      cases rs with
      | nil => rfl
      | cons x r => rw [q4, enc_cons, List.length_append, encR_length] at hm; omega
    have hL : L2 = L := by
      have := hu.more
      rw [hLis, hrs]; cases L; simp only at this ⊢; rw [this]; rfl
    refine (sync_nil h hm).mono ?_
    rintro e w' ⟨rfl, rfl⟩
    subst hrs
    exact ⟨S, T, L, D, B, 0, rfl, hL ▸ h, Mv.refl _ _, .inl ⟨rfl, by rw [List.append_nil]; exact hu, hN, hB⟩⟩
  · have hcnt := L2.count_le hsm.2.2
    have hep := hN.2.2
    have hs := sync_ld h (by rw [q1]; omega) (by rw [q1]; omega) (by omega) (by omega) hsm.2.2 (by omega)
    rcases hu.syncs hap hm hN with ⟨D', L', e, hu', hN', hn'⟩ | ⟨D', e, hd, hE⟩
    · rw [e] at hs
      refine hs.mono ?_
      rintro x w' ⟨rfl, S', T', hl, hmv⟩
      exact ⟨S', T', L', D', _, 0, rfl, hl, hmv, .inl ⟨rfl, hu', hN', by omega⟩⟩
    · rw [e] at hs
      refine hs.mono ?_
      rintro x w' ⟨rfl, S', T', hl, hmv⟩
      exact ⟨S', T', L, D', _, 44, rfl, hl, hmv, .inr ⟨rfl, hd, hE, by omega⟩⟩
theorem restart_up {w0 w : World} {g p : Nat} {S T : Nat → Prop} {L : LogS} {D : DS} {B : Nat} {F : List (List UInt8)} (h : LD w0 w g p S T L D B) (hu : UpI D L F) (hN : NumI L 0) (hB : B ≤ 5000 * L.number + 2) :
    Calls Try.prog 15 #[.pointer (some ⟨g, 0, none⟩)] w fun e w' => ∃ (T' : Nat → Prop) (L' : LogS) (D' : DS) (B' : Nat) (r : Int), e = .returned (.int .i64 r) ∧ LD w0 w' g p S T' L' D' B' ∧ Mv (Or2 S T) w w' (Or2 S T') ∧
      ((r = 0 ∧ UpI D' L' [] ∧ NumI L' 7200 ∧ B' ≤ 5000 * L'.number + 2) ∨ (r = 44 ∧ D'.down = true ∧ EndI D' F [] ∧ B' ≤ 9000000)) := by
  have hnum := hN.le hu
  have hep := hN.2.2
  have hs := restart_ld h (by rw [hu.first]; omega) (by rw [hu.first]; omega) (by omega) (by omega) (by omega)
  rcases hu.restarts hN with ⟨D', L', e, hu', hN', hn'⟩ | ⟨D', e, hd, hE⟩
  · rw [e] at hs
    refine hs.mono ?_
    rintro x w' ⟨rfl, T', hl, hmv⟩
    exact ⟨T', L', D', _, 0, rfl, hl, hmv, .inl ⟨rfl, hu', hN', by omega⟩⟩
  · rw [e] at hs
    refine hs.mono ?_
    rintro x w' ⟨rfl, T', hl, hmv⟩
    exact ⟨T', L, D', _, 44, rfl, hl, hmv, .inr ⟨rfl, hd, hE, by omega⟩⟩

/-- How it stands at the loop's head. -/
def CrS (restart : Int) (k : Nat) (D : DS) (L : LogS) (F N : List (List UInt8)) (B : Nat) : Prop :=
  (UpI D L F ∧ (∃ c, NumI L c ∧ (c = 0 ∨ restart < (k : Int))) ∧ B ≤ 5000 * L.number + 2) ∨ (D.down = true ∧ EndI D F N ∧ B ≤ 9000000)
theorem one_cells {w : World} {P Q : Nat → Prop} {v : Value} {rows : List (List UInt8)} {vs : List Value} (h : Cs w P 1 v rows.length vs) (hr : ∀ (i : Nat) (x : List UInt8) (u : Value), rows[i]? = some x → vs[i]? = some u → Bs w Q u x) : ∀ u ∈ vs, u.oneCell' = true := by
  intro u hu
  obtain ⟨i, hi, e⟩ := List.getElem_of_mem hu
  have hl := h.1
  obtain ⟨A, c, e2⟩ := (hr i rows[i] u (List.getElem?_eq_getElem (by omega)) (by rw [List.getElem?_eq_getElem hi, e])).form
  subst e2
  rfl

set_option maxHeartbeats 8000000 in
set_option maxRecDepth 100000 in
theorem crash_law (w : World) {vg vk : Value} {gs : List (List (List UInt8))} {keep : List Bool} (fuse restart torn : Int) (hfu : (Lit.int .i64 fuse).wf = true) (hg : Bsg w (fun b => b < w.heap.size) vg gs) (hkp : Cs w (fun b => b < w.heap.size) 1 vk keep.length (bools keep)) :
    Calls Try.prog 5 #[vg, .int .i64 fuse, .int .i64 restart, vk, .int .i64 torn] w fun e w' => e = .returned (.bool true) ∧ Below w.heap.size w w' := by
  obtain ⟨D1, hF1, hW1, hS1, hR1⟩ := formats (D := DS.new 40) (first := 3) (size := 30) rfl (by simp [DS.new]) (new_byt 40) (DS.Fine.new 40).ok (by simp [fitsB, DS.new]) (by simp [DS.new]) (by simp [DS.new])
  obtain ⟨L0, hL0⟩ : ∃ L0 : LogS, L0 = ⟨3, 30, 1, 1, 0, [], []⟩ := ⟨_, rfl⟩
  rw [← hL0] at hW1 hS1
  have hr1 : D1.room = 40 := hR1.1
  have hgl := hg.len
  obtain ⟨Ag, cg, rfl⟩ := hg.form
  obtain ⟨Ak, ck, rfl⟩ := hkp.form
  have HG := Lib.hid hg
  have HKP := Lib.hid hkp
  have HF1 := Lib.hid hF1
  have HW1 := Lib.hid hW1
  have HS1 := Lib.hid hS1
  have HR1 := Lib.hid hr1
  have HL0 := Lib.hid hL0
  have HFU := Lib.hid hfu
  clear hF1 hW1 hS1 hR1 hr1 hL0 hg hkp hfu
  have kc := fun (w : World) (C : Array Value) (n c : Nat) => Lib.run_convert_bytes_const (P := Try.prog) w 32 5 C n c Try.underlying32 Try.underlying5
  go_enter Try.func5, Try.ntmps5
  go_wp2_with fail
  refine (fixed_any w).mono ?_
  rintro e w1 ⟨rfl, hb1⟩
  go_wp2_with fail
  refine (new_dk 40 (by omega) (by omega) w w1 hb1.size).mono ?_
  rintro e w2 ⟨p, T0, rfl, hd0, hb12, hT0⟩
  have hb2 := hb1.trans (hb12.mono hb1.size)
  go_wp2_with fail
  refine (format_dk hd0 hb2.size (first := 3) (size := 30) (by omega) (by omega) (by omega) (by omega) (by simp [DS.new]) (by simp [DS.new]) (by omega)).mono ?_
  intro e w3 hP
  rw [HF1.out] at hP
  obtain ⟨rfl, T1, hd1, hm1⟩ := hP
  have hb3 : Below w.heap.size w w3 := hb2.trans (hm1.1.below hb2.size fun b hb => hd0.new b hb)
  clear hd0 hm1 hT0 hb2 hb12 hb1
  go_wp2_with fail
  refine (open_at (rows := []) 3 30 hd1 hb3.size HW1.out (by rw [HL0.out]) (by rw [HL0.out]) (by rw [HL0.out]) (by rw [HL0.out]; rfl) (by omega)).mono ?_
  rintro e w4 ⟨g, S4, R4, v4, rfl, hl4, hv4, hS4, hR4, hSR4, hb34⟩
  have hb4 : Below w.heap.size w w4 := hb3.trans (hb34.mono hb3.size)
  obtain ⟨Av, cv, rfl⟩ := hv4.form
  clear hv4 hR4 hSR4 hS4 hb34 hb3 hd1
  go_wp2_with fail
  refine (arm_dk hl4.dk HFU.out).mono ?_
  rintro e w5 ⟨rfl, hd5, hc5⟩
  have hl5 : LD w w5 g p S4 T1 L0 { D1 with fuse := max fuse (-1) } 5002 := (LD.more ⟨hl4.log.chg hc5 hl4.ap, hd5, hl4.ap, hl4.new, Nat.le_trans hl4.size hc5.size⟩ (by omega))
  have hb5 : Below w.heap.size w w5 := hb4.trans (hc5.below hb4.size fun b hb => hl4.dk.new b hb)
  have hup5 : UpI { D1 with fuse := max fuse (-1) } L0 [] := by
    have h := HW1.out
    refine ⟨⟨h.down, h.loose, ⟨h.byt.loose, h.byt.firm⟩, h.ok, h.fit, h.blk, h.num1, h.num2, h.ep, h.fin, h.area, h.mark, h.other, h.data⟩, HS1.out, ?_, ?_, ?_, ?_, HR1.out⟩ <;> rw [HL0.out]
    rfl
  have hnum5 : NumI L0 0 := by rw [HL0.out]; exact ⟨by simp, by omega, by simp⟩
  clear hl4 hb4 hd5 hc5
  have HL5 := Lib.hid hl5; clear hl5
  go_wp2_with fail
  obtain ⟨X6, hX6⟩ : ∃ X6, X6 = w5.heap.size := ⟨_, rfl⟩
  obtain ⟨w7, hw7⟩ : ∃ w7, w7 = (w5.alloc (.cells #[] 32)).alloc (.cells #[] 32) := ⟨_, rfl⟩
  rw [← hX6, ← hw7]
  have hb57 : Below w5.heap.size w5 w7 := by rw [hw7]; exact ((Below.refl _ w5).alloc (Nat.le_refl _) _).alloc (by simp) _
  have hl7 := HL5.out.below hb57
  have hb7 := hb5.trans (hb57.mono hb5.size)
  have hf7 : Rr w7 (Fre w S4 T1) (fun b => b < w.heap.size) (.slice (some ⟨X6, 0, none⟩) 0 0) [] := by
    refine ⟨[], ⟨rfl, _, _, rfl, Nat.le_refl _, by simp [maxLen], fun h => by simp at h⟩, fun i x u h => by simp at h⟩
  have hn7 : Rr w7 (Fre w S4 T1) (fun b => b < w.heap.size) (.slice (some ⟨X6 + 1, 0, none⟩) 0 0) [] := by
    refine ⟨[], ⟨rfl, _, _, rfl, Nat.le_refl _, by simp [maxLen], fun h => by simp at h⟩, fun i x u h => by simp at h⟩
  clear hw7 hX6 HL5 hb57 hb5
  go_loopw [15, 16, 17] (fun vf vn i wr => ∃ (k : Nat) (F N : List (List UInt8)) (S T : Nat → Prop) (L : LogS) (D : DS) (B : Nat), k ≤ gs.length ∧ i = .int .i64 k ∧ LD w wr g p S T L D B ∧ Rr wr (Fre w S T) (fun b => b < w.heap.size) vf F ∧ Rr wr (Fre w S T) (fun b => b < w.heap.size) vn N ∧ Below w.heap.size w wr ∧ CrS restart k D L F N B) (fun _ _ i _ => gs.length - (intOf i).toNat)
  case atStart => exact ⟨0, [], [], S4, T1, L0, _, 5002, Nat.zero_le _, rfl, hl7, hf7, hn7, hb7, .inl ⟨hup5, ⟨0, hnum5, .inl rfl⟩, by rw [HL0.out]; simp⟩⟩
  case round =>
    clear hl7 hf7 hn7 hb7 hup5 hnum5
    obtain ⟨k, F, N, S, T, L, D, B, hk, rfl, hld, hvf, hvn, hbl, hcr⟩ := hrel
    obtain ⟨wo, rfl⟩ : ∃ wo : World, wo = wr := ⟨_, rfl⟩
    obtain ⟨Af, cf, rfl⟩ := hvf.form
    obtain ⟨An, cn, rfl⟩ := hvn.form
    by_cases hlt : k < gs.length
    · have hltI : (k : Int) < (gs.length : Int) := by omega
      rcases hcr with ⟨hu, hc, hB⟩ | ⟨hdn, hE, hB⟩
      · as_aux_lemma =>
        have hdw := down_any p T D wo hld.dk.is
        rw [hu.wal.down] at hdw
        have HDW := Lib.hid hdw; clear hdw
        have HU := Lib.hid hu
        have HC := Lib.hid hc; clear hc
        have HVF := Lib.hid hvf
        obtain ⟨vs, hcf, hrf⟩ := hvf
        have hFl : 8 * F.length ≤ 7168 := by
          have h1 := enc_count F
          have h2 := hu.area
          rw [hu.bytes] at h2
          omega
        have h1c := one_cells hcf hrf
        have HCF := Lib.hid (hcf.below ((Below.refl _ wo).alloc (Nat.le_refl _) (.cells #[] 32)))
        have HRF := Lib.hid hrf
        have H1C := Lib.hid h1c
        have H63 := Lib.hid (show 0 + F.length ≤ maxLen ∧ (0 + F.length) * 24 ≤ 140737488355328 from ⟨by simp only [maxLen]; omega, by omega⟩)
        clear hcf hrf h1c hu
        go_wp2_with fail
        refine HDW.out.mono ?_
        rintro e w8 ⟨rfl, rfl⟩
        go_wp2_with (at_builtin; refine wpList_app _ rfl _ _ _ rfl Try.underlying22 info_row rfl (by decide) (Own.empty _ _ _) rfl HCF.out rfl H1C.out H63.out.1 H63.out.2 ?_; intro v9 w9 ho9 hc9 hnil9 hat9; clear hnil9; rw [Nat.zero_add, List.nil_append] at ho9; obtain ⟨A9, c9, rfl⟩ := ho9.form; have HO9 := Lib.hid ho9; clear ho9; have HC9 := Lib.hid hc9; clear hc9; have HAT9 := Lib.hid hat9; clear hat9)
        have hal8 : w8.heap.size ≤ (w8.alloc (.cells #[] 32)).heap.size := by simp
        have hb89 : Below w8.heap.size w8 w9 := ((Below.refl _ w8).alloc (Nat.le_refl _) _).trans (HC9.out.below hal8 fun b hb => by injection hb with hb; exact Nat.le_of_eq hb)
        have hown9 : ∀ q, (Value.slice A9 F.length c9).ownBlock = some q → w8.heap.size ≤ q := fun q hq => by
          rcases HAT9.out with e | e
          · rw [e] at hq; injection hq with hq; exact Nat.le_of_eq hq
          · rw [e] at hq; injection hq with hq; rw [← hq]; exact hal8
        have hl9 := hld.below hb89
        have hb9 : Below w.heap.size w w9 := hbl.trans (hb89.mono hbl.size)
        have hvf9 : Rr w9 (fun b => Fre w S T b ∧ b < w8.heap.size) (fun b => b < w.heap.size) (.slice Af F.length cf) F := by
          have h1 : Rr w8 (Fre w S T) (fun b => b < w.heap.size) (.slice Af F.length cf) F := HVF.out
          exact (h1.mv (P' := fun b => Fre w S T b ∧ b < w8.heap.size) (X := fun _ => False) (fun k hP hlt => ⟨hP, hlt⟩) (Chg.refl _ w8) (fun _ _ h => h) (fun _ _ h => h)).below hb89
        have hvn9 : Bss w9 (fun b => Fre w S T b ∧ w8.heap.size ≤ b) (fun b => b < w.heap.size) (.slice A9 F.length c9) F := by
          refine ⟨vs, HO9.out, fun q hq => ⟨⟨Nat.le_trans hbl.size (hown9 q hq), fun hx => Nat.not_lt.2 (hown9 q hq) (hld.lt q hx)⟩, hown9 q hq⟩, fun i x u h1 h2 => ?_⟩
          exact ((HRF.out i x u h1 h2).1.below hb89).sub fun b hb _ => ⟨hb, fun e => Nat.not_lt.2 (Nat.le_trans hbl.size (hown9 b e)) hb⟩
        have hwo9 := hb89.size
        have hapL : AppI L L [] := AppI.start HU.out.more HU.out.wal.area
        have HSZ := Lib.hid HU.out.size
        clear hld hb89 hbl HDW hal8 hown9 HO9 HC9 HAT9 HCF
        go_wp2_with fail
        obtain ⟨bg, og, ug, rfl, hcg, hug, _, hbg⟩ := (HG.out.below hb9).at_ hlt
        obtain ⟨rows, hrows⟩ : ∃ rows, rows = gs[k] := ⟨_, rfl⟩
        rw [← hrows] at hug
        obtain ⟨Ar, cr, rfl⟩ := hug.form
        have hrl := hug.len
        have HUGA := Lib.hid (show ∀ w', Below w.heap.size w w' → Bsr w' (fun b => b < w.heap.size) (.slice Ar rows.length cr) rows from fun w' hb => by
          obtain ⟨_, _, _, e1, e2, hx, _⟩ := (HG.out.below hb).at_ hlt
          injection e1 with e1
          injection e1 with e1 e3
          subst e1 e3
          have e4 := (World.cell?_of_block (a := ⟨bg, og + k, none⟩) ((hb.block bg hbg).trans (hb9.block bg hbg).symm)).trans hcg
          rw [e4] at e2
          injection e2 with e2
          subst e2
          rw [← hrows] at hx
          exact hx)
        clear hug hrows
        have HCG := Lib.hid hcg; clear hcg
        have HB9 := Lib.hid hb9
        go_loopw [16, 18] (fun v i wr => ∃ (m : Nat) (rs N2 : List (List UInt8)) (S2 : Nat → Prop) (L2 : LogS), m ≤ rows.length ∧ i = .int .i64 m ∧ AppI L L2 rs ∧ Hid (N2 = F ++ rs) ∧ LD w wr g p S2 T L2 D B ∧ Bss wr (fun b => Fre w S2 T b ∧ w8.heap.size ≤ b) (fun b => b < w.heap.size) v N2 ∧
          Rr wr (fun b => Fre w S2 T b ∧ b < w8.heap.size) (fun b => b < w.heap.size) (.slice Af F.length cf) F ∧ w8.heap.size ≤ wr.heap.size ∧ Below w.heap.size w wr) (fun _ i _ => rows.length - (intOf i).toNat)
        case atStart => exact ⟨0, [], F, S, L, Nat.zero_le _, rfl, hapL, Lib.hid (List.append_nil F).symm, hl9, hvn9, hvf9, hwo9, hb9⟩
        case round =>
          clear hl9 hvn9 hvf9 hb9 hapL
          obtain ⟨m, rs, N2, S2, L2, hm, rfl, hap, hn2, hld, hwant, hvf, hwo, hbl⟩ := hrel
          have HN2 := Lib.hid hn2.out; clear hn2
          have HWO := Lib.hid hwo; clear hwo
          have hcg := (World.cell?_of_block (a := ⟨bg, og + k, none⟩) ((hbl.block bg hbg).trans (HB9.out.block bg hbg).symm)).trans HCG.out
          by_cases hlm : m < rows.length
          · as_aux_lemma =>
            have hug : Bsr wr (fun b => b < w.heap.size) (.slice Ar rows.length cr) rows := HUGA.out wr hbl
            obtain ⟨ba, oa, u, rfl, hcell, hu, _, hba⟩ := hug.at_ hlm
            clear hug
            obtain ⟨x, hx⟩ : ∃ x, x = rows[m] := ⟨_, rfl⟩
            rw [← hx] at hu
            clear hx
            have hltI2 : (m : Int) < (rows.length : Int) := by omega
            have hsm := hap.small_ (by rw [hap.is]; simp only; rw [HSZ.out]; omega)
            obtain ⟨Au, cu, rfl⟩ := hu.form
            obtain ⟨Ao, co, rfl⟩ := hwant.form
            have hSz : L2.size = 30 := by rw [hap.is]; exact HSZ.out
            have hmore := hap.more x hu.2
            have hrl2 : 8 * N2.length ≤ 1048576 := by
              have h1 := enc_count rs
              have h2 := hsm.2.2
              have h3 := enc_count F
              have h5 := HN2.out
              have h4 := hap.is
              rw [h4] at h2
              rw [h5]
              simp only [HU.out.bytes, List.length_append] at h2 ⊢
              omega
            have happ := append_ld hld x _ hu.1 (fun b hb hlt => Nat.not_lt.2 (hld.new b hb) hlt) (by rw [hSz]; omega) (by rw [hSz]; omega) (Nat.le_trans hsm.1 (by omega)) hsm.2.1 hu.2
            have HUX := Lib.hid hu
            have HWANT := Lib.hid hwant
            have HVFX := Lib.hid hvf
            have HAP := Lib.hid hap
            clear hSz hsm hu hwant hap hvf
            rcases hmore with ⟨he, hap'⟩ | ⟨he, hap'⟩
            · rw [he] at happ
              have HAPP := Lib.hid happ; clear happ he hap'
              go_wp2_with fail
              refine HAPP.out.mono ?_
              rintro e w10 ⟨rfl, S', hld', hmv⟩
              have hbl' := hld.out hmv hbl
              have hw10 := HWANT.out.mv (P' := fun b => Fre w S' T b ∧ w8.heap.size ≤ b) (fun k hP hlt => ⟨Fre.mv hmv k hP.1 hlt, hP.2⟩) hmv.1 (fun k hP => hP.1.2) hld.arg
              have hf10 := HVFX.out.mv (P' := fun b => Fre w S' T b ∧ b < w8.heap.size) (fun k hP hlt => ⟨Fre.mv hmv k hP.1 hlt, hP.2⟩) hmv.1 (fun k hP => hP.1.2) hld.arg
              have HW10 := Lib.hid hw10
              have HF10 := Lib.hid hf10
              clear hw10 hf10 hcell hcg
              go_wp2_with fail
              exact ⟨⟨m + 1, rs, N2, S', _, by omega, by go_num, HAP.out, HN2, hld', HW10.out, HF10.out, Nat.le_trans HWO.out hmv.1.size, hbl'⟩, by simp only [intOf]; omega⟩
            · rw [he] at happ
              have HAPP := Lib.hid happ; clear happ he
              have HAP' := Lib.hid hap'; clear hap'
              have H63B := Lib.hid (show N2.length + 1 ≤ maxLen ∧ (N2.length + 1) * 24 ≤ 140737488355328 from ⟨by simp only [maxLen]; omega, by omega⟩)
              go_wp2_with fail
              refine HAPP.out.mono ?_
              rintro e w10 ⟨rfl, S', hld', hmv⟩
              have hbl' := hld.out hmv hbl
              have hw10 := HWANT.out.mv (P' := fun b => Fre w S' T b ∧ w8.heap.size ≤ b) (fun k hP hlt => ⟨Fre.mv hmv k hP.1 hlt, hP.2⟩) hmv.1 (fun k hP => hP.1.2) hld.arg
              have hf10 := HVFX.out.mv (P' := fun b => Fre w S' T b ∧ b < w8.heap.size) (fun k hP hlt => ⟨Fre.mv hmv k hP.1 hlt, hP.2⟩) hmv.1 (fun k hP => hP.1.2) hld.arg
              have hcell10 := (World.cell?_of_block (a := ⟨ba, oa + m, none⟩) ((hbl'.block ba hba).trans (hbl.block ba hba).symm)).trans hcell
              have hcg10 := (World.cell?_of_block (a := ⟨bg, og + k, none⟩) ((hbl'.block bg hbg).trans (hbl.block bg hbg).symm)).trans hcg
              have hu10 := HUX.out.keep (w' := w10) hmv.1.size fun b hb _ => (hbl'.block b hb).trans (hbl.block b hb).symm
              clear hcell hcg
              obtain ⟨vs2, ho, hS, hr⟩ := hw10
              have HO := Lib.hid (show ∀ ob, Own (w10.alloc ob) 32 1 (.slice Ao N2.length co) N2.length vs2 from fun ob => own_keep ho fun k hk => Below.heap_alloc w10 ob k (own_lt ho hk))
              have HS2 := Lib.hid (Cs.of_new w10 32 (size := 1) 1 (cs := [.slice Au x.length cu]) rfl (by simp only [maxLen]; decide))
              have HS := Lib.hid hS
              have HR := Lib.hid hr
              have HU10 := Lib.hid hu10
              have HF10 := Lib.hid hf10
              clear hS hr ho hu10 hf10
              go_wp2_with (at_builtin; refine wpList_app _ rfl _ _ _ rfl Try.underlying22 info_row rfl (by decide) (HO.out _) rfl HS2.out rfl (by simp [Value.oneCell']) H63B.out.1 H63B.out.2 ?_; intro v2 w11 ho9 hc9 hnil9 hat9; clear hnil9; obtain ⟨A9, c9, rfl⟩ := ho9.form; have HO9 := Lib.hid ho9; clear ho9; have HC9 := Lib.hid hc9; clear hc9; have HAT9 := Lib.hid hat9; clear hat9)
              have hal8 : w10.heap.size ≤ (w10.alloc (.cells #[.slice Au x.length cu] 32)).heap.size := by simp
              have hbX : Below w10.heap.size w10 (w10.alloc (.cells #[.slice Au x.length cu] 32)) := (Below.refl _ w10).alloc (Nat.le_refl _) _
              have hpush := Bss.push (S := fun b => Fre w S' T b ∧ w8.heap.size ≤ b) (T := fun b => b < w.heap.size) (HO.out _) HS.out (fun i y u h1 h2 => (HR.out i y u h1 h2).below hbX)
                ((HU10.out.1.below hbX).sub fun b hb _ => ⟨hb, fun e => Nat.not_le.2 hb (HS.out b e).1.1⟩) HO9.out HC9.out HAT9.out ⟨⟨Nat.le_trans hbl'.size hal8, fun hx => by have := hld'.lt _ hx; omega⟩, Nat.le_trans HWO.out (Nat.le_trans hmv.1.size hal8)⟩
              have hl9 := (hld'.below hbX).chg HC9.out fun b hb e => (HS.out b e).1.2 hb
              have hbX' : Below w.heap.size w (w10.alloc (.cells #[.slice Au x.length cu] 32)) := hbl'.alloc hbl'.size _
              have hb9 : Below w.heap.size w w11 := hbX'.trans (HC9.out.below hbX'.size fun b e => (HS.out b e).1.1)
              have hf11 := (HF10.out.below hbX).mv (P' := fun b => Fre w S' T b ∧ b < w8.heap.size) (fun k hP _ => hP) HC9.out (fun b hP e => Nat.not_lt.2 (HS.out b e).2 hP.2) (fun b hQ e => Nat.not_le.2 hQ (HS.out b e).1.1)
              exact ⟨⟨m + 1, rs ++ [x], N2 ++ [x], S', _, by omega, by go_num, HAP'.out, Lib.hid (by rw [HN2.out, List.append_assoc]), hl9, hpush, hf11, Nat.le_trans (Nat.le_trans HWO.out (Nat.le_trans hmv.1.size hal8)) HC9.out.size, hb9⟩, by simp only [intOf]; omega⟩
          · as_aux_lemma =>
            have hlmI : ¬ (m : Int) < (rows.length : Int) := by omega
            obtain ⟨c, hN, hcc⟩ := HC.out
            have hsy := sync_up hld HU.out hap hN hB
            have HSY := Lib.hid hsy; clear hsy
            have HCC := Lib.hid hcc; clear hcc
            obtain ⟨Ao, co, rfl⟩ := hwant.form
            have hls : ∀ x ∈ N2, x.length ≤ 140737488355328 := fun x hx => by
              rw [HN2.out] at hx
              rcases List.mem_append.1 hx with hx | hx
              · have h1 := HU.out.area
                rw [HU.out.bytes] at h1
                have := small_rows (rows := F) (by omega) x hx; omega
              · exact hap.small x hx
            have hwr := hwant.rr hls
            have HWR := Lib.hid hwr
            have HVF2 := Lib.hid hvf
            rw [← HN2.out] at HSY
            clear hwr hwant hvf hls hap
            go_wp2_with fail
            refine HSY.out.mono ?_
            clear HSY
            rintro e w10 ⟨S', T', L', D', B', r, rfl, hl10, hmv, hres⟩
            have hb10 := hld.out hmv hbl
            have hn10 : Rr w10 (Fre w S' T') (fun b => b < w.heap.size) (.slice Ao N2.length co) N2 := HWR.out.mv (fun k hP hlt => Fre.mv hmv k hP.1 hlt) hmv.1 (fun k hP => hP.1.2) hld.arg
            have hf10 : Rr w10 (Fre w S' T') (fun b => b < w.heap.size) (.slice Af F.length cf) F := HVF2.out.mv (fun k hP hlt => Fre.mv hmv k hP.1 hlt) hmv.1 (fun k hP => hP.1.2) hld.arg
            have HN10 := Lib.hid hn10
            have HF10 := Lib.hid hf10
            clear hn10 hf10 HWR HVF2 hcg hmv hld
            by_cases hkr : (k : Int) = restart
            · have hkrB : ((k : Int) == restart) = true := by simpa using hkr
              have HKR := Lib.hid hkr; clear hkr
              have hdw := down_any p T' D' w10 hl10.dk.is
              rcases hres with ⟨rfl, hu', hN', hB'⟩ | ⟨rfl, hd', hE', hB'⟩
              · rw [hu'.wal.down] at hdw
                have HDW2 := Lib.hid hdw; clear hdw
                have hc0 : c = 0 := by rcases HCC.out with h | h; exact h; have := HKR.out; omega
                have hrs := restart_up hl10 hu' (hc0 ▸ hN') hB'
                have HRS := Lib.hid hrs
                clear hc0 hrs hu' hN'
                go_wp2_with fail
                refine HDW2.out.mono ?_
                rintro e w11 ⟨rfl, rfl⟩
                go_wp2_with fail
                refine HRS.out.mono ?_
                clear HRS
                rintro e w12 ⟨T12, L12, D12, B12, r12, rfl, hl12, hm12, hres⟩
                have hb12 := hl10.out hm12 hb10
                have hn12 := HN10.out.mv (Fre.mv hm12) hm12.1 (fun k hP => hP.2) hl10.arg
                have HN12 := Lib.hid hn12
                clear hn12 hl10 hm12 hb10
                rcases hres with ⟨rfl, hu', hN', hB'⟩ | ⟨rfl, hd', hE', hB'⟩
                · have HU2 := Lib.hid hu'
                  have HN2' := Lib.hid hN'
                  clear hu' hN'
                  go_wp2_with fail
                  exact ⟨⟨k + 1, [], [], S', T12, L12, D12, B12, by omega, by go_num, hl12, Rr.nil_ _ _ _, Rr.nil_ _ _ _, hb12, .inl ⟨HU2.out, ⟨7200, HN2'.out, .inr (by have := HKR.out; omega)⟩, hB'⟩⟩, by simp only [intOf]; omega⟩
                · have HE2 := Lib.hid hE'
                  have HD2 := Lib.hid hd'
                  clear hE' hd'
                  go_wp2_with fail
                  exact ⟨⟨k + 1, N2, [], S', T12, L12, D12, B12, by omega, by go_num, hl12, HN12.out, Rr.nil_ _ _ _, hb12, .inr ⟨HD2.out, HE2.out, hB'⟩⟩, by simp only [intOf]; omega⟩
              · rw [hd'] at hdw
                have HDW2 := Lib.hid hdw; clear hdw
                have HE2 := Lib.hid hE'
                have HD2 := Lib.hid hd'
                clear hE' hd'
                go_wp2_with fail
                refine HDW2.out.mono ?_
                rintro e w11 ⟨rfl, rfl⟩
                go_wp2_with fail
                exact ⟨⟨k + 1, F, N2, S', T', L', D', B', by omega, by go_num, hl10, HF10.out, HN10.out, hb10, .inr ⟨HD2.out, HE2.out, hB'⟩⟩, by simp only [intOf]; omega⟩
            · have hkrB : ((k : Int) == restart) = false := by simpa using hkr
              clear hkr
              have hcc' : c = 0 ∨ restart < ((k + 1 : Nat) : Int) := HCC.out.imp id fun h => by omega
              have HCC' := Lib.hid hcc'; clear hcc'
              rcases hres with ⟨rfl, hu', hN', hB'⟩ | ⟨rfl, hd', hE', hB'⟩
              · have HU2 := Lib.hid hu'
                have HN2' := Lib.hid hN'
                clear hu' hN'
                go_wp2_with fail
                exact ⟨⟨k + 1, N2, N2, S', T', L', D', B', by omega, by go_num, hl10, HN10.out, HN10.out, hb10, .inl ⟨HU2.out, ⟨c, HN2'.out, HCC'.out⟩, hB'⟩⟩, by simp only [intOf]; omega⟩
              · have HE2 := Lib.hid hE'
                have HD2 := Lib.hid hd'
                clear hE' hd'
                go_wp2_with fail
                exact ⟨⟨k + 1, F, N2, S', T', L', D', B', by omega, by go_num, hl10, HF10.out, HN10.out, hb10, .inr ⟨HD2.out, HE2.out, hB'⟩⟩, by simp only [intOf]; omega⟩
      · as_aux_lemma =>
        have hdw := down_any p T D wo hld.dk.is
        rw [hdn] at hdw
        have HDW := Lib.hid hdw; clear hdw hdn
        go_wp2_with fail
        refine HDW.out.mono ?_
        rintro e w7 ⟨rfl, rfl⟩
        clear HDW
        have hE2 := hE.2 keep torn
        have hroom := hE.1
        obtain ⟨L', r, hW, e1, e2, e3, e4, e5, e6⟩ := hE2
        have hup := up_dk hld.dk (HKP.out.below hbl) torn (by omega)
        obtain ⟨D2, hD2⟩ : ∃ D2, D2 = D.up keep torn := ⟨_, rfl⟩
        have hfu2 : D2.fuse < 0 := by rw [hD2]; show (-1 : Int) < 0; omega
        have hrm2 : D2.room = 40 := by rw [hD2]; exact hroom
        rw [← hD2] at hup hW
        have HUP := Lib.hid hup
        have HX := Lib.hid (And.intro e1 (And.intro e2 (And.intro e3 (And.intro e4 e5))))
        have HW := Lib.hid hW
        have HRM := Lib.hid hrm2
        have hsmall : (enc r).length ≤ 1048576 := by rw [← e4]; exact hW.small
        have HVF := Lib.hid hvf
        have HVN := Lib.hid hvn
        clear hup e1 e2 e3 e4 e5 hW hrm2 hroom hD2 hE hvf hvn
        go_wp2_with fail
        refine HUP.out.mono ?_
        rintro e w8 ⟨rfl, hd8, hc8⟩
        have hb8 : Below w.heap.size w w8 := hbl.trans (hc8.below hbl.size fun b hb => hld.dk.new b hb)
        have hm8 : Mv (Or2 S T) w7 w8 (Or2 S T) := ⟨hc8.mono fun b hb => .inr hb, fun b hb => .inl hb⟩
        have hf8 := HVF.out.mv (P' := fun b => w.heap.size ≤ b ∧ ¬ T b) (fun k hP _ => ⟨hP.1, fun h => hP.2 (.inr h)⟩) hm8.1 (fun k hP => hP.2) hld.arg
        have hn8 := HVN.out.mv (P' := fun b => w.heap.size ≤ b ∧ ¬ T b) (fun k hP _ => ⟨hP.1, fun h => hP.2 (.inr h)⟩) hm8.1 (fun k hP => hP.2) hld.arg
        clear HUP HVF HVN hc8 hm8 hld hbl
        have HF8 := Lib.hid hf8
        have HN8 := Lib.hid hn8
        clear hf8 hn8
        go_wp2_with fail
        refine (open_at (rows := r) 3 30 hd8 hb8.size HW.out HX.out.2.2.1 HX.out.1 HX.out.2.1 (by rw [HX.out.2.2.2.1]; exact parse_small hsmall) (by omega)).mono ?_
        rintro e w9 ⟨g9, S9, R9, v9, rfl, hl9, hv9, hS9, hR9, hSR9, hb89⟩
        have hb9 : Below w.heap.size w w9 := hb8.trans (hb89.mono hb8.size)
        obtain ⟨A9, c9, rfl⟩ := hv9.form
        have hsl : ∀ x ∈ r, x.length ≤ 140737488355328 := fun x hx => by have := small_rows hsmall x hx; omega
        have hei := either_any w9 (hv9.read hsl) (HF8.out.below hb89).read (HN8.out.below hb89).read
        have htrue : (sameB r F || sameB r N) = true := by
          rcases HX.out.2.2.2.2 with h | h
          · rw [h]; simp [sameB]
          · rw [h]; simp [sameB]
        rw [htrue] at hei
        have HEI := Lib.hid hei
        have hv9' : Bss w9 (fun b => R9 b ∧ b < w9.heap.size) (fun b => R9 b ∧ b < w9.heap.size) (.slice A9 r.length c9) r := by
          obtain ⟨vs, ho, hS, hr⟩ := hv9
          exact ⟨vs, ho, fun k hk => ⟨hS k hk, own_lt ho hk⟩, fun i x u h1 h2 => (hr i x u h1 h2).sub fun b hb hlt => ⟨⟨hb.1, hlt⟩, hb.2⟩⟩
        have hap9 : ∀ b, (R9 b ∧ b < w9.heap.size) → ¬ Or2 S9 T b := fun b hb hx => hx.elim (fun h => hSR9 b h hb.1) fun h => by have := hd8.lt b h; have := hR9 b hb.1; omega
        have HR9 := Lib.hid (show ∀ b, R9 b → w.heap.size ≤ b from fun b hb => Nat.le_trans hb8.size (hR9 b hb))
        clear hei htrue hd8 hv9 hS9 hR9 hSR9 HF8 HN8 hb8 hb89
        go_wp2_with fail
        refine HEI.out.mono ?_
        rintro e w10 ⟨rfl, hb910⟩
        have hl10 := hl9.below hb910
        have hb10 := hb9.trans (hb910.mono hb9.size)
        have hv10 := hv9'.below hb910
        have hlt10 : ∀ b, (R9 b ∧ b < w9.heap.size) → b < w10.heap.size := fun b hb => Nat.lt_of_lt_of_le hb.2 hb910.size
        have HV10 := Lib.hid hv10
        have HAP9 := Lib.hid hap9
        have HLT10 := Lib.hid hlt10
        clear hl9 hb9 hb910 hv9' HEI hv10 hap9 hlt10
        have hap0 : AppI L' L' [] := AppI.start HX.out.2.2.1 HW.out.area
        have hmore := hap0.more [108, 97, 115, 116] (by simp)
        go_wp2_with fail
        have hx := Cs.of_new' w10 5 (size := 1) 4 (cs := [.int .u8 108, .int .u8 97, .int .u8 115, .int .u8 116]) rfl (by simp [maxLen]) (4, 5)
        have hb1011 : Below w10.heap.size w10 (w10.alloc (.cells #[.int .u8 108, .int .u8 97, .int .u8 115, .int .u8 116] 5 (4, 5))) := (Below.refl _ w10).alloc (Nat.le_refl _) _
        have hl11 := hl10.below hb1011
        have hb11 := hb10.trans (hb1011.mono hb10.size)
        have hv11 := HV10.out.below hb1011
        have happ := append_ld hl11 [108, 97, 115, 116] _ (show Cs _ _ 1 _ 4 (u8s [108, 97, 115, 116]) from hx) (fun k hk e => by have := hl10.log.lt k hk; omega) (by rw [HX.out.2.1]; omega) (by rw [HX.out.2.1]; omega) (by have := HW.out.small; omega) (by rw [HX.out.2.2.1]; simp) (by simp)
        have hsz11 := hb1011.size
        have HV11 := Lib.hid hv11
        clear hx hl10 hb10 hv11 HV10 hb1011
        rcases hmore with ⟨he, hap⟩ | ⟨he, hap⟩
        · rw [he] at happ hap
          have hsy := HW.out.sync_any hap HX.out.2.2.1 hfu2 (by rw [HX.out.1, HX.out.2.1, HRM.out]; omega) (by omega)
          obtain ⟨D3, L3, hs, hW3, hm3, hby3, hf3, hs3, hn3, he3, hR3⟩ := hsy
          have hby3' : L3.bytes = enc r := by rw [hby3, HX.out.2.2.2.1]; simp [enc]
          have HAPP := Lib.hid happ
          have HS3 := Lib.hid hs
          have HW3 := Lib.hid hW3
          have HX3 := Lib.hid (And.intro hm3 (And.intro hby3' (And.intro (hf3.trans HX.out.1) (hs3.trans HX.out.2.1))))
          have hsm := hap.small_ (by rw [HX.out.2.1]; omega)
          have hcnt := L'.count_le hsm.2.2
          have HSM := Lib.hid hsm
          clear happ he hap hs hW3 hm3 hby3 hf3 hs3 hn3 he3 hR3 hby3' hsm
          go_wp2_with fail
          refine HAPP.out.mono ?_
          rintro e w12 ⟨rfl, S12, hl12, hm12⟩
          have hb12 := hl11.out hm12 hb11
          have hv12 := HV11.out.mv (P' := fun b => R9 b ∧ b < w9.heap.size) (fun k hP _ => hP) hm12.1 HAP9.out HAP9.out
          have hap12 : ∀ b, (R9 b ∧ b < w9.heap.size) → ¬ Or2 S12 T b := fun b hb hx => (hm12.2 b hx).elim (HAP9.out b hb) fun hn => by have := HLT10.out b hb; omega
          have hsync := sync_ld hl12 (by rw [HX.out.1]; omega) (by rw [HX.out.1]; omega) (by omega) (by have := HW.out.ep; omega) HSM.out.2.2 (by omega)
          rw [HS3.out] at hsync
          have HSYNC := Lib.hid hsync
          have HV12 := Lib.hid hv12
          have HAP12 := Lib.hid hap12
          clear hsync hv12 hap12 hl11 hb11 hm12 HV11 HAPP
          go_wp2_with fail
          refine HSYNC.out.mono ?_
          rintro e w13 ⟨rfl, S13, T13, hl13, hm13⟩
          have hb13 := hl12.out hm13 hb12
          have hv13 := HV12.out.mv (P' := fun b => R9 b ∧ b < w9.heap.size) (fun k hP _ => hP) hm13.1 HAP12.out HAP12.out
          have HV13 := Lib.hid hv13
          clear hv13 hl12 hb12 hm13 HV12 HSYNC HAP12
          go_wp2_with fail
          refine (open_at (rows := r) 3 30 hl13.dk hb13.size HW3.out HX3.out.1 HX3.out.2.2.1 HX3.out.2.2.2 (by rw [HX3.out.2.1]; exact parse_small hsmall) (by omega)).mono ?_
          rintro e w14 ⟨g14, S14, R14, v14, rfl, _, hv14, _, _, _, hb1314⟩
          have hb14 : Below w.heap.size w w14 := hb13.trans (hb1314.mono hb13.size)
          have hsa := same_any w14 (hv14.read hsl) ((HV13.out.below hb1314).read hsl)
          rw [show sameB r r = true by simp [sameB]] at hsa
          have HSA := Lib.hid hsa
          obtain ⟨A14, c14, rfl⟩ := hv14.form
          clear hsa hv14 hb1314 hl13 hb13 HV13
          go_wp2_with fail
          refine HSA.out.mono ?_
          rintro e w15 ⟨rfl, hb1415⟩
          go_wp2_with fail
          go_ret
          exact ⟨rfl, hb14.trans (hb1415.mono hb14.size)⟩
        · rw [he] at happ
          have hsy := HW.out.sync_any hap HX.out.2.2.1 hfu2 (by rw [HX.out.1, HX.out.2.1, HRM.out]; omega) (by omega)
          obtain ⟨D3, L3, hs, hW3, hm3, hby3, hf3, hs3, hn3, he3, hR3⟩ := hsy
          have hby3' : L3.bytes = enc (r ++ [[108, 97, 115, 116]]) := by rw [hby3, HX.out.2.2.2.1, ← enc_append, List.nil_append]
          have HAPP := Lib.hid happ
          have HS3 := Lib.hid hs
          have HW3 := Lib.hid hW3
          have HX3 := Lib.hid (And.intro hm3 (And.intro hby3' (And.intro (hf3.trans HX.out.1) (hs3.trans HX.out.2.1))))
          have hsmall3 : (enc (r ++ [[108, 97, 115, 116]])).length ≤ 1048576 := by rw [← hby3']; exact hW3.small
          have hLis := hap.is
          obtain ⟨L2, hL2⟩ : ∃ L2, L2 = (L'.append [108, 97, 115, 116]).1 := ⟨_, rfl⟩
          rw [← hL2] at hLis hap hs HAPP HS3
          have q1 : L2.first = 3 := by rw [hLis]; exact HX.out.1
          have q2 : L2.number ≤ 4000000 := by rw [hLis]; exact e6
          have q3 : L2.epoch < 4294967296 := by rw [hLis]; exact HW.out.ep
          have hsm := hap.small_ (by rw [hLis]; simp only; rw [HX.out.2.1]; omega)
          have hcnt := L2.count_le hsm.2.2
          have hsl3 : ∀ x ∈ r ++ [[108, 97, 115, 116]], x.length ≤ 140737488355328 := fun x hx => by have := small_rows hsmall3 x hx; omega
          have hrl : 8 * r.length ≤ 1048576 := Nat.le_trans (enc_count r) hsmall
          have HQ := Lib.hid (And.intro q1 (And.intro q3 hsm.2.2))
          have H63 := Lib.hid (show r.length + 1 ≤ maxLen ∧ (r.length + 1) * 24 ≤ 140737488355328 from ⟨by simp only [maxLen]; omega, by omega⟩)
          obtain ⟨N3, hN3⟩ : ∃ N3, N3 = r ++ [[108, 97, 115, 116]] := ⟨_, rfl⟩
          have HN3 := Lib.hid hN3
          rw [← hN3] at HX3 hsmall3 hsl3
          clear happ he hap hs hW3 hm3 hby3 hf3 hs3 hn3 he3 hR3 hby3' hsm hLis hL2 q1 q3 hN3
          go_wp2_with fail
          refine HAPP.out.mono ?_
          rintro e w12 ⟨rfl, S12, hl12, hm12⟩
          have hb12 := hl11.out hm12 hb11
          have hv12 := HV11.out.mv (P' := fun b => R9 b ∧ b < w9.heap.size) (fun k hP _ => hP) hm12.1 HAP9.out HAP9.out
          have hap12 : ∀ b, (R9 b ∧ b < w9.heap.size) → ¬ Or2 S12 T b := fun b hb hx => (hm12.2 b hx).elim (HAP9.out b hb) fun hn => by have := HLT10.out b hb; omega
          have hsync := sync_ld hl12 (by rw [HQ.out.1]; omega) (by rw [HQ.out.1]; omega) (by omega) HQ.out.2.1 HQ.out.2.2 (by omega)
          rw [HS3.out] at hsync
          have HSYNC := Lib.hid hsync
          have HV12 := Lib.hid hv12
          have HAP12 := Lib.hid hap12
          have hsz12 := hm12.1.size
          clear hsync hv12 hap12 hl11 hb11 hm12 HV11 HAPP
          go_wp2_with fail
          refine HSYNC.out.mono ?_
          rintro e w13 ⟨rfl, S13, T13, hl13, hm13⟩
          have hb13 := hl12.out hm13 hb12
          have hv13 := HV12.out.mv (P' := fun b => R9 b ∧ b < w9.heap.size) (fun k hP _ => hP) hm13.1 HAP12.out HAP12.out
          have HV13 := Lib.hid hv13
          have hsz13 := hm13.1.size
          clear hv13 hl12 hb12 hm13 HV12 HSYNC HAP12
          go_wp2_with fail
          refine (open_at (rows := N3) 3 30 hl13.dk hb13.size HW3.out HX3.out.1 HX3.out.2.2.1 HX3.out.2.2.2 (by rw [HX3.out.2.1]; exact parse_small hsmall3) (by omega)).mono ?_
          rintro e w14 ⟨g14, S14, R14, v14, rfl, _, hv14, _, hR14, _, hb1314⟩
          have hb14 : Below w.heap.size w w14 := hb13.trans (hb1314.mono hb13.size)
          have hv14r := HV13.out.below hb1314
          obtain ⟨A14, c14, rfl⟩ := hv14.form
          have HS14 := Lib.hid (hv14.read hsl3)
          have HR14 := Lib.hid hR14; clear hR14
          obtain ⟨vs, ho, hS, hr⟩ := hv14r
          have HO := Lib.hid (show ∀ w', Below w14.heap.size w14 w' → Own w' 32 1 (.slice A9 r.length c9) r.length vs from fun w' hb => own_keep ho fun k hk => hb.block k (own_lt ho hk))
          have hwa : Below w14.heap.size w14 (w14.alloc (.cells #[.int .u8 108, .int .u8 97, .int .u8 115, .int .u8 116] 5 (4, 5))) := (Below.refl _ w14).alloc (Nat.le_refl _) _
          have hwb : Below w14.heap.size w14 ((w14.alloc (.cells #[.int .u8 108, .int .u8 97, .int .u8 115, .int .u8 116] 5 (4, 5))).alloc (.cells #[.slice (some ⟨w14.heap.size, 0, none⟩) 4 4] 32)) := hwa.alloc (by simp) _
          have HWB := Lib.hid hwb
          have HO := Lib.hid (HO.out _ hwb)
          have hs2 := Cs.of_new (w14.alloc (.cells #[.int .u8 108, .int .u8 97, .int .u8 115, .int .u8 116] 5 (4, 5))) 32 (size := 1) 1 (cs := [.slice (some ⟨w14.heap.size, 0, none⟩) 4 4]) rfl (by simp only [maxLen]; decide)
          rw [show (w14.alloc (.cells #[.int .u8 108, .int .u8 97, .int .u8 115, .int .u8 116] 5 (4, 5))).heap.size = w14.heap.size + 1 by simp] at hs2
          have HS2 := Lib.hid hs2
          have hxl : Cs (w14.alloc (.cells #[.int .u8 108, .int .u8 97, .int .u8 115, .int .u8 116] 5 (4, 5))) (fun b => b = w14.heap.size) 1 (.slice (some ⟨w14.heap.size, 0, none⟩) 4 4) 4 (u8s [108, 97, 115, 116]) := Cs.of_new' w14 5 (size := 1) 4 (cs := [.int .u8 108, .int .u8 97, .int .u8 115, .int .u8 116]) rfl (by simp [maxLen]) (4, 5)
          have hxl2 := hxl.below ((Below.refl _ _).alloc (Nat.le_refl _) (.cells #[.slice (some ⟨w14.heap.size, 0, none⟩) 4 4] 32))
          have HXL := Lib.hid hxl2
          have hox : ∀ k, (Value.slice A9 r.length c9).ownBlock = some k → k < w14.heap.size := fun k hk => own_lt ho hk
          have HOX := Lib.hid hox
          have HS := Lib.hid hS
          have HR := Lib.hid hr
          have hsz : w14.heap.size + 1 + 1 = ((w14.alloc (.cells #[.int .u8 108, .int .u8 97, .int .u8 115, .int .u8 116] 5 (4, 5))).alloc (.cells #[.slice (some ⟨w14.heap.size, 0, none⟩) 4 4] 32)).heap.size := by simp
          have HSZ := Lib.hid hsz
          clear ho hS hr hs2 hox hxl hxl2 hwa hwb hsz hv14 hb1314 hl13 hb13 HV13
          go_wp2_with (at_builtin; go_loud (refine wpList_app_g (by rfl) _ _ _ rfl Try.underlying22 info_row rfl (by decide) HO.out rfl HS2.out rfl (by simp [Value.oneCell']) H63.out.1 H63.out.2 ?_); intro v2 w15 ho9 hc9 hnil9 hat9; clear hnil9; obtain ⟨A15, c15, rfl⟩ := ho9.form; have HO9 := Lib.hid ho9; clear ho9; have HC9 := Lib.hid hc9; clear hc9; have HAT9 := Lib.hid hat9; clear hat9)
          have hpush : Bss w15 (fun _ => True) (fun _ => True) (.slice A15 (r.length + 1) c15) (r ++ [[108, 97, 115, 116]]) :=
            Bss.push (S := fun _ => True) (T := fun _ => True) HO.out (fun _ _ => trivial) (fun i x u h1 h2 => ((HR.out i x u h1 h2).below HWB.out).sub fun b hb _ => ⟨trivial, hb.2⟩) (x := [108, 97, 115, 116]) (HXL.out.sub fun b hb _ => ⟨trivial, fun e => by have := HOX.out b e; omega⟩) HO9.out HC9.out HAT9.out trivial
          rw [← HN3.out] at hpush
          have hown9 : ∀ k, (Value.slice A9 r.length c9).ownBlock = some k → k < w13.heap.size ∧ w.heap.size ≤ k := fun k hk => by
            have h1 := HS.out k hk
            have h2 := HLT10.out k h1
            exact ⟨by omega, HR9.out k h1.1⟩
          have hs15 := (HS14.out.below HWB.out).chg HC9.out (fun b hb e => by
            have h1 := (hown9 b e).1
            have h2 := HR14.out b (hb.elim id id)
            omega)
          have hsa := same_any w15 hs15 (hpush.read hsl3)
          rw [show sameB N3 N3 = true by simp [sameB]] at hsa
          have hb15 : Below w.heap.size w w15 := hb14.trans ((HWB.out.mono hb14.size).trans (HC9.out.below (Nat.le_trans hb14.size HWB.out.size) fun b hb => (hown9 b hb).2))
          refine hsa.mono ?_
          rintro e w16 ⟨rfl, hb16⟩
          go_wp2_with fail
          go_ret
          exact ⟨rfl, hb15.trans (hb16.mono hb15.size)⟩
    · as_aux_lemma =>
      have hltI : ¬ (k : Int) < (gs.length : Int) := by omega
      have hE : EndI D F N := by
        rcases hcr with ⟨hu, ⟨c, hN, _⟩, _⟩ | ⟨_, hE, _⟩
        · exact hu.ends N (by have := hN.le hu; omega)
        · exact hE
      have hB : B ≤ 9000000 := by
        rcases hcr with ⟨hu, ⟨c, hN, _⟩, hB⟩ | ⟨_, _, hB⟩
        · have := hN.le hu; omega
        · exact hB
      clear hcr
      have hE2 := hE.2 keep torn
      have hroom := hE.1
      obtain ⟨L', r, hW, e1, e2, e3, e4, e5, e6⟩ := hE2
      have hup := up_dk hld.dk (HKP.out.below hbl) torn (by omega)
      obtain ⟨D2, hD2⟩ : ∃ D2, D2 = D.up keep torn := ⟨_, rfl⟩
      have hfu2 : D2.fuse < 0 := by rw [hD2]; show (-1 : Int) < 0; omega
      have hrm2 : D2.room = 40 := by rw [hD2]; exact hroom
      rw [← hD2] at hup hW
      have HUP := Lib.hid hup
      have HX := Lib.hid (And.intro e1 (And.intro e2 (And.intro e3 (And.intro e4 e5))))
      have HW := Lib.hid hW
      have HRM := Lib.hid hrm2
      have hsmall : (enc r).length ≤ 1048576 := by rw [← e4]; exact hW.small
      have HVF := Lib.hid hvf
      have HVN := Lib.hid hvn
      clear hup e1 e2 e3 e4 e5 hW hrm2 hroom hD2 hE hvf hvn
      go_wp2_with fail
      refine HUP.out.mono ?_
      rintro e w8 ⟨rfl, hd8, hc8⟩
      have hb8 : Below w.heap.size w w8 := hbl.trans (hc8.below hbl.size fun b hb => hld.dk.new b hb)
      have hm8 : Mv (Or2 S T) wo w8 (Or2 S T) := ⟨hc8.mono fun b hb => .inr hb, fun b hb => .inl hb⟩
      have hf8 := HVF.out.mv (P' := fun b => w.heap.size ≤ b ∧ ¬ T b) (fun k hP _ => ⟨hP.1, fun h => hP.2 (.inr h)⟩) hm8.1 (fun k hP => hP.2) hld.arg
      have hn8 := HVN.out.mv (P' := fun b => w.heap.size ≤ b ∧ ¬ T b) (fun k hP _ => ⟨hP.1, fun h => hP.2 (.inr h)⟩) hm8.1 (fun k hP => hP.2) hld.arg
      clear HUP HVF HVN hc8 hm8 hld hbl
      have HF8 := Lib.hid hf8
      have HN8 := Lib.hid hn8
      clear hf8 hn8
      go_wp2_with fail
      refine (open_at (rows := r) 3 30 hd8 hb8.size HW.out HX.out.2.2.1 HX.out.1 HX.out.2.1 (by rw [HX.out.2.2.2.1]; exact parse_small hsmall) (by omega)).mono ?_
      rintro e w9 ⟨g9, S9, R9, v9, rfl, hl9, hv9, hS9, hR9, hSR9, hb89⟩
      have hb9 : Below w.heap.size w w9 := hb8.trans (hb89.mono hb8.size)
      obtain ⟨A9, c9, rfl⟩ := hv9.form
      have hsl : ∀ x ∈ r, x.length ≤ 140737488355328 := fun x hx => by have := small_rows hsmall x hx; omega
      have hei := either_any w9 (hv9.read hsl) (HF8.out.below hb89).read (HN8.out.below hb89).read
      have htrue : (sameB r F || sameB r N) = true := by
        rcases HX.out.2.2.2.2 with h | h
        · rw [h]; simp [sameB]
        · rw [h]; simp [sameB]
      rw [htrue] at hei
      have HEI := Lib.hid hei
      have hv9' : Bss w9 (fun b => R9 b ∧ b < w9.heap.size) (fun b => R9 b ∧ b < w9.heap.size) (.slice A9 r.length c9) r := by
        obtain ⟨vs, ho, hS, hr⟩ := hv9
        exact ⟨vs, ho, fun k hk => ⟨hS k hk, own_lt ho hk⟩, fun i x u h1 h2 => (hr i x u h1 h2).sub fun b hb hlt => ⟨⟨hb.1, hlt⟩, hb.2⟩⟩
      have hap9 : ∀ b, (R9 b ∧ b < w9.heap.size) → ¬ Or2 S9 T b := fun b hb hx => hx.elim (fun h => hSR9 b h hb.1) fun h => by have := hd8.lt b h; have := hR9 b hb.1; omega
      have HR9 := Lib.hid (show ∀ b, R9 b → w.heap.size ≤ b from fun b hb => Nat.le_trans hb8.size (hR9 b hb))
      clear hei htrue hd8 hv9 hS9 hR9 hSR9 HF8 HN8 hb8 hb89
      go_wp2_with fail
      refine HEI.out.mono ?_
      rintro e w10 ⟨rfl, hb910⟩
      have hl10 := hl9.below hb910
      have hb10 := hb9.trans (hb910.mono hb9.size)
      have hv10 := hv9'.below hb910
      have hlt10 : ∀ b, (R9 b ∧ b < w9.heap.size) → b < w10.heap.size := fun b hb => Nat.lt_of_lt_of_le hb.2 hb910.size
      have HV10 := Lib.hid hv10
      have HAP9 := Lib.hid hap9
      have HLT10 := Lib.hid hlt10
      clear hl9 hb9 hb910 hv9' HEI hv10 hap9 hlt10
      have hap0 : AppI L' L' [] := AppI.start HX.out.2.2.1 HW.out.area
      have hmore := hap0.more [108, 97, 115, 116] (by simp)
      go_wp2_with fail
      have hx := Cs.of_new' w10 5 (size := 1) 4 (cs := [.int .u8 108, .int .u8 97, .int .u8 115, .int .u8 116]) rfl (by simp [maxLen]) (4, 5)
      have hb1011 : Below w10.heap.size w10 (w10.alloc (.cells #[.int .u8 108, .int .u8 97, .int .u8 115, .int .u8 116] 5 (4, 5))) := (Below.refl _ w10).alloc (Nat.le_refl _) _
      have hl11 := hl10.below hb1011
      have hb11 := hb10.trans (hb1011.mono hb10.size)
      have hv11 := HV10.out.below hb1011
      have happ := append_ld hl11 [108, 97, 115, 116] _ (show Cs _ _ 1 _ 4 (u8s [108, 97, 115, 116]) from hx) (fun k hk e => by have := hl10.log.lt k hk; omega) (by rw [HX.out.2.1]; omega) (by rw [HX.out.2.1]; omega) (by have := HW.out.small; omega) (by rw [HX.out.2.2.1]; simp) (by simp)
      have hsz11 := hb1011.size
      have HV11 := Lib.hid hv11
      clear hx hl10 hb10 hv11 HV10 hb1011
      rcases hmore with ⟨he, hap⟩ | ⟨he, hap⟩
      · rw [he] at happ hap
        have hsy := HW.out.sync_any hap HX.out.2.2.1 hfu2 (by rw [HX.out.1, HX.out.2.1, HRM.out]; omega) (by omega)
        obtain ⟨D3, L3, hs, hW3, hm3, hby3, hf3, hs3, hn3, he3, hR3⟩ := hsy
        have hby3' : L3.bytes = enc r := by rw [hby3, HX.out.2.2.2.1]; simp [enc]
        have HAPP := Lib.hid happ
        have HS3 := Lib.hid hs
        have HW3 := Lib.hid hW3
        have HX3 := Lib.hid (And.intro hm3 (And.intro hby3' (And.intro (hf3.trans HX.out.1) (hs3.trans HX.out.2.1))))
        have hsm := hap.small_ (by rw [HX.out.2.1]; omega)
        have hcnt := L'.count_le hsm.2.2
        have HSM := Lib.hid hsm
        clear happ he hap hs hW3 hm3 hby3 hf3 hs3 hn3 he3 hR3 hby3' hsm
        go_wp2_with fail
        refine HAPP.out.mono ?_
        rintro e w12 ⟨rfl, S12, hl12, hm12⟩
        have hb12 := hl11.out hm12 hb11
        have hv12 := HV11.out.mv (P' := fun b => R9 b ∧ b < w9.heap.size) (fun k hP _ => hP) hm12.1 HAP9.out HAP9.out
        have hap12 : ∀ b, (R9 b ∧ b < w9.heap.size) → ¬ Or2 S12 T b := fun b hb hx => (hm12.2 b hx).elim (HAP9.out b hb) fun hn => by have := HLT10.out b hb; omega
        have hsync := sync_ld hl12 (by rw [HX.out.1]; omega) (by rw [HX.out.1]; omega) (by omega) (by have := HW.out.ep; omega) HSM.out.2.2 (by omega)
        rw [HS3.out] at hsync
        have HSYNC := Lib.hid hsync
        have HV12 := Lib.hid hv12
        have HAP12 := Lib.hid hap12
        clear hsync hv12 hap12 hl11 hb11 hm12 HV11 HAPP
        go_wp2_with fail
        refine HSYNC.out.mono ?_
        rintro e w13 ⟨rfl, S13, T13, hl13, hm13⟩
        have hb13 := hl12.out hm13 hb12
        have hv13 := HV12.out.mv (P' := fun b => R9 b ∧ b < w9.heap.size) (fun k hP _ => hP) hm13.1 HAP12.out HAP12.out
        have HV13 := Lib.hid hv13
        clear hv13 hl12 hb12 hm13 HV12 HSYNC HAP12
        go_wp2_with fail
        refine (open_at (rows := r) 3 30 hl13.dk hb13.size HW3.out HX3.out.1 HX3.out.2.2.1 HX3.out.2.2.2 (by rw [HX3.out.2.1]; exact parse_small hsmall) (by omega)).mono ?_
        rintro e w14 ⟨g14, S14, R14, v14, rfl, _, hv14, _, _, _, hb1314⟩
        have hb14 : Below w.heap.size w w14 := hb13.trans (hb1314.mono hb13.size)
        have hsa := same_any w14 (hv14.read hsl) ((HV13.out.below hb1314).read hsl)
        rw [show sameB r r = true by simp [sameB]] at hsa
        have HSA := Lib.hid hsa
        obtain ⟨A14, c14, rfl⟩ := hv14.form
        clear hsa hv14 hb1314 hl13 hb13 HV13
        go_wp2_with fail
        refine HSA.out.mono ?_
        rintro e w15 ⟨rfl, hb1415⟩
        go_wp2_with fail
        go_ret
        exact ⟨rfl, hb14.trans (hb1415.mono hb14.size)⟩
      · rw [he] at happ
        have hsy := HW.out.sync_any hap HX.out.2.2.1 hfu2 (by rw [HX.out.1, HX.out.2.1, HRM.out]; omega) (by omega)
        obtain ⟨D3, L3, hs, hW3, hm3, hby3, hf3, hs3, hn3, he3, hR3⟩ := hsy
        have hby3' : L3.bytes = enc (r ++ [[108, 97, 115, 116]]) := by rw [hby3, HX.out.2.2.2.1, ← enc_append, List.nil_append]
        have HAPP := Lib.hid happ
        have HS3 := Lib.hid hs
        have HW3 := Lib.hid hW3
        have HX3 := Lib.hid (And.intro hm3 (And.intro hby3' (And.intro (hf3.trans HX.out.1) (hs3.trans HX.out.2.1))))
        have hsmall3 : (enc (r ++ [[108, 97, 115, 116]])).length ≤ 1048576 := by rw [← hby3']; exact hW3.small
        have hLis := hap.is
        obtain ⟨L2, hL2⟩ : ∃ L2, L2 = (L'.append [108, 97, 115, 116]).1 := ⟨_, rfl⟩
        rw [← hL2] at hLis hap hs HAPP HS3
        have q1 : L2.first = 3 := by rw [hLis]; exact HX.out.1
        have q2 : L2.number ≤ 4000000 := by rw [hLis]; exact e6
        have q3 : L2.epoch < 4294967296 := by rw [hLis]; exact HW.out.ep
        have hsm := hap.small_ (by rw [hLis]; simp only; rw [HX.out.2.1]; omega)
        have hcnt := L2.count_le hsm.2.2
        have hsl3 : ∀ x ∈ r ++ [[108, 97, 115, 116]], x.length ≤ 140737488355328 := fun x hx => by have := small_rows hsmall3 x hx; omega
        have hrl : 8 * r.length ≤ 1048576 := Nat.le_trans (enc_count r) hsmall
        have HQ := Lib.hid (And.intro q1 (And.intro q3 hsm.2.2))
        have H63 := Lib.hid (show r.length + 1 ≤ maxLen ∧ (r.length + 1) * 24 ≤ 140737488355328 from ⟨by simp only [maxLen]; omega, by omega⟩)
        obtain ⟨N3, hN3⟩ : ∃ N3, N3 = r ++ [[108, 97, 115, 116]] := ⟨_, rfl⟩
        have HN3 := Lib.hid hN3
        rw [← hN3] at HX3 hsmall3 hsl3
        clear happ he hap hs hW3 hm3 hby3 hf3 hs3 hn3 he3 hR3 hby3' hsm hLis hL2 q1 q3 hN3
        go_wp2_with fail
        refine HAPP.out.mono ?_
        rintro e w12 ⟨rfl, S12, hl12, hm12⟩
        have hb12 := hl11.out hm12 hb11
        have hv12 := HV11.out.mv (P' := fun b => R9 b ∧ b < w9.heap.size) (fun k hP _ => hP) hm12.1 HAP9.out HAP9.out
        have hap12 : ∀ b, (R9 b ∧ b < w9.heap.size) → ¬ Or2 S12 T b := fun b hb hx => (hm12.2 b hx).elim (HAP9.out b hb) fun hn => by have := HLT10.out b hb; omega
        have hsync := sync_ld hl12 (by rw [HQ.out.1]; omega) (by rw [HQ.out.1]; omega) (by omega) HQ.out.2.1 HQ.out.2.2 (by omega)
        rw [HS3.out] at hsync
        have HSYNC := Lib.hid hsync
        have HV12 := Lib.hid hv12
        have HAP12 := Lib.hid hap12
        have hsz12 := hm12.1.size
        clear hsync hv12 hap12 hl11 hb11 hm12 HV11 HAPP
        go_wp2_with fail
        refine HSYNC.out.mono ?_
        rintro e w13 ⟨rfl, S13, T13, hl13, hm13⟩
        have hb13 := hl12.out hm13 hb12
        have hv13 := HV12.out.mv (P' := fun b => R9 b ∧ b < w9.heap.size) (fun k hP _ => hP) hm13.1 HAP12.out HAP12.out
        have HV13 := Lib.hid hv13
        have hsz13 := hm13.1.size
        clear hv13 hl12 hb12 hm13 HV12 HSYNC HAP12
        go_wp2_with fail
        refine (open_at (rows := N3) 3 30 hl13.dk hb13.size HW3.out HX3.out.1 HX3.out.2.2.1 HX3.out.2.2.2 (by rw [HX3.out.2.1]; exact parse_small hsmall3) (by omega)).mono ?_
        rintro e w14 ⟨g14, S14, R14, v14, rfl, _, hv14, _, hR14, _, hb1314⟩
        have hb14 : Below w.heap.size w w14 := hb13.trans (hb1314.mono hb13.size)
        have hv14r := HV13.out.below hb1314
        obtain ⟨A14, c14, rfl⟩ := hv14.form
        have HS14 := Lib.hid (hv14.read hsl3)
        have HR14 := Lib.hid hR14; clear hR14
        obtain ⟨vs, ho, hS, hr⟩ := hv14r
        have HO := Lib.hid (show ∀ w', Below w14.heap.size w14 w' → Own w' 32 1 (.slice A9 r.length c9) r.length vs from fun w' hb => own_keep ho fun k hk => hb.block k (own_lt ho hk))
        have hwa : Below w14.heap.size w14 (w14.alloc (.cells #[.int .u8 108, .int .u8 97, .int .u8 115, .int .u8 116] 5 (4, 5))) := (Below.refl _ w14).alloc (Nat.le_refl _) _
        have hwb : Below w14.heap.size w14 ((w14.alloc (.cells #[.int .u8 108, .int .u8 97, .int .u8 115, .int .u8 116] 5 (4, 5))).alloc (.cells #[.slice (some ⟨w14.heap.size, 0, none⟩) 4 4] 32)) := hwa.alloc (by simp) _
        have HWB := Lib.hid hwb
        have HO := Lib.hid (HO.out _ hwb)
        have hs2 := Cs.of_new (w14.alloc (.cells #[.int .u8 108, .int .u8 97, .int .u8 115, .int .u8 116] 5 (4, 5))) 32 (size := 1) 1 (cs := [.slice (some ⟨w14.heap.size, 0, none⟩) 4 4]) rfl (by simp only [maxLen]; decide)
        rw [show (w14.alloc (.cells #[.int .u8 108, .int .u8 97, .int .u8 115, .int .u8 116] 5 (4, 5))).heap.size = w14.heap.size + 1 by simp] at hs2
        have HS2 := Lib.hid hs2
        have hxl : Cs (w14.alloc (.cells #[.int .u8 108, .int .u8 97, .int .u8 115, .int .u8 116] 5 (4, 5))) (fun b => b = w14.heap.size) 1 (.slice (some ⟨w14.heap.size, 0, none⟩) 4 4) 4 (u8s [108, 97, 115, 116]) := Cs.of_new' w14 5 (size := 1) 4 (cs := [.int .u8 108, .int .u8 97, .int .u8 115, .int .u8 116]) rfl (by simp [maxLen]) (4, 5)
        have hxl2 := hxl.below ((Below.refl _ _).alloc (Nat.le_refl _) (.cells #[.slice (some ⟨w14.heap.size, 0, none⟩) 4 4] 32))
        have HXL := Lib.hid hxl2
        have hox : ∀ k, (Value.slice A9 r.length c9).ownBlock = some k → k < w14.heap.size := fun k hk => own_lt ho hk
        have HOX := Lib.hid hox
        have HS := Lib.hid hS
        have HR := Lib.hid hr
        have hsz : w14.heap.size + 1 + 1 = ((w14.alloc (.cells #[.int .u8 108, .int .u8 97, .int .u8 115, .int .u8 116] 5 (4, 5))).alloc (.cells #[.slice (some ⟨w14.heap.size, 0, none⟩) 4 4] 32)).heap.size := by simp
        have HSZ := Lib.hid hsz
        clear ho hS hr hs2 hox hxl hxl2 hwa hwb hsz hv14 hb1314 hl13 hb13 HV13
        go_wp2_with (at_builtin; go_loud (refine wpList_app_g (by rfl) _ _ _ rfl Try.underlying22 info_row rfl (by decide) HO.out rfl HS2.out rfl (by simp [Value.oneCell']) H63.out.1 H63.out.2 ?_); intro v2 w15 ho9 hc9 hnil9 hat9; clear hnil9; obtain ⟨A15, c15, rfl⟩ := ho9.form; have HO9 := Lib.hid ho9; clear ho9; have HC9 := Lib.hid hc9; clear hc9; have HAT9 := Lib.hid hat9; clear hat9)
        have hpush : Bss w15 (fun _ => True) (fun _ => True) (.slice A15 (r.length + 1) c15) (r ++ [[108, 97, 115, 116]]) :=
          Bss.push (S := fun _ => True) (T := fun _ => True) HO.out (fun _ _ => trivial) (fun i x u h1 h2 => ((HR.out i x u h1 h2).below HWB.out).sub fun b hb _ => ⟨trivial, hb.2⟩) (x := [108, 97, 115, 116]) (HXL.out.sub fun b hb _ => ⟨trivial, fun e => by have := HOX.out b e; omega⟩) HO9.out HC9.out HAT9.out trivial
        rw [← HN3.out] at hpush
        have hown9 : ∀ k, (Value.slice A9 r.length c9).ownBlock = some k → k < w13.heap.size ∧ w.heap.size ≤ k := fun k hk => by
          have h1 := HS.out k hk
          have h2 := HLT10.out k h1
          exact ⟨by omega, HR9.out k h1.1⟩
        have hs15 := (HS14.out.below HWB.out).chg HC9.out (fun b hb e => by
          have h1 := (hown9 b e).1
          have h2 := HR14.out b (hb.elim id id)
          omega)
        have hsa := same_any w15 hs15 (hpush.read hsl3)
        rw [show sameB N3 N3 = true by simp [sameB]] at hsa
        have hb15 : Below w.heap.size w w15 := hb14.trans ((HWB.out.mono hb14.size).trans (HC9.out.below (Nat.le_trans hb14.size HWB.out.size) fun b hb => (hown9 b hb).2))
        refine hsa.mono ?_
        rintro e w16 ⟨rfl, hb16⟩
        go_wp2_with fail
        go_ret
        exact ⟨rfl, hb15.trans (hb16.mono hb15.size)⟩

end Go.Proofs.Ytcgokafhkkmaoaa
