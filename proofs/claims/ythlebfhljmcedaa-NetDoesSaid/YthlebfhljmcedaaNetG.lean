/- The laws' argument: a list of steps. NetCounts: the walk. -/
import Derived.Test.YthlebfhljmcedaaNetF
import Derived.Deep.DeepCutAuto
import Derived.Deep.CutBlock
namespace Go.Proofs.Ythlebfhljmcedaa
open Go.RowKit

/-- A step of a law's script. -/
structure St where
  kind : Int
  id : Int
  fr : Int
  rc : Int
  body : List UInt8
structure GSt where
  st : St
  bv : Value
def GSt.cells (g : GSt) : List Value := [.int .i64 g.st.kind, .int .i64 g.st.id, .int .i64 g.st.fr, .int .i64 g.st.rc, g.bv]
def flatS (gs : List GSt) : List Value := gs.flatMap GSt.cells
theorem flatS_length (gs : List GSt) : (flatS gs).length = gs.length * 5 := by
  induction gs with
  | nil => rfl
  | cons x r ih => simp only [flatS, List.flatMap_cons, List.length_append, List.length_cons] at ih ⊢; simp only [GSt.cells, List.length_cons, List.length_nil]; omega
theorem flatS_get (gs : List GSt) : ∀ (k : Nat) (g : GSt), gs[k]? = some g → ∀ j, j < 5 → (flatS gs)[k * 5 + j]? = g.cells[j]? := by
  induction gs with
  | nil => intro k g h; simp at h
  | cons x r ih =>
    intro k g h j hj
    simp only [flatS, List.flatMap_cons] at ih ⊢
    rcases k with _ | k
    · obtain rfl : x = g := by simpa using h
      rw [List.getElem?_append_left (by simp [GSt.cells]; omega)]
      simp
    · rw [List.getElem?_append_right (by simp [GSt.cells]; omega)]
      have h' : r[k]? = some g := by simpa using h
      rw [← ih k g h' j hj]
      congr 1
      simp [GSt.cells]; omega
theorem steps_at {w : World} {S : Nat → Prop} {A : Option Addr} {n cap : Nat} {gs : List GSt} (h : Cs w S 5 (.slice A n cap) gs.length (flatS gs)) {k : Nat} (hk : k < gs.length) :
    ∃ b off, A = some ⟨b, off, none⟩ ∧ S b ∧ b < w.heap.size ∧ w.cell? ⟨b, off + k * 5, none⟩ = some (.int .i64 gs[k].st.kind) ∧ w.cell? ⟨b, off + k * 5 + 1, none⟩ = some (.int .i64 gs[k].st.id) ∧
      w.cell? ⟨b, off + k * 5 + 2, none⟩ = some (.int .i64 gs[k].st.fr) ∧ w.cell? ⟨b, off + k * 5 + 3, none⟩ = some (.int .i64 gs[k].st.rc) ∧ w.cell? ⟨b, off + k * 5 + 4, none⟩ = some gs[k].bv := by
  obtain ⟨_, A', cap', e, _, _, hp⟩ := h
  injection e with e1 e2 e3
  subst e1
  obtain ⟨b, off, rfl, hs, hb, hc⟩ := hp (by omega)
  have f := flatS_get gs k _ (List.getElem?_eq_getElem hk)
  exact ⟨b, off, rfl, hs, hb, hc _ _ (f 0 (by omega)), by rw [Nat.add_assoc]; exact hc _ _ (f 1 (by omega)), by rw [Nat.add_assoc]; exact hc _ _ (f 2 (by omega)), by rw [Nat.add_assoc]; exact hc _ _ (f 3 (by omega)), by rw [Nat.add_assoc]; exact hc _ _ (f 4 (by omega))⟩

/-- The script, as it lies in memory. -/
structure Script (w : World) (A : Option Addr) (cap : Nat) (gs : List GSt) : Prop where
  row : Cs w (fun b => b < w.heap.size) 5 (.slice A gs.length cap) gs.length (flatS gs)
  bodies : ∀ g ∈ gs, Bs w (fun b => b < w.heap.size) g.bv g.st.body
  size : gs.length * 56 ≤ 140737488351232

/-! What the calls do to the numbers that the laws count. -/
theorem NS.add_cases (N : NS) (fr rc : Int) (body : List UInt8) :
    (N.most ≤ N.l.length ∧ N.add fr rc body = (N, 0, 42)) ∨ (N.l.length < N.most ∧ N.add fr rc body = (⟨N.most, N.last + 1, N.l ++ [⟨N.last + 1, fr, rc, body⟩]⟩, N.last + 1, 0)) := by
  by_cases h : N.most ≤ N.l.length
  · exact .inl ⟨h, by unfold NS.add; rw [if_pos h]⟩
  · exact .inr ⟨by omega, by unfold NS.add; rw [if_neg h]⟩
theorem NS.take_cases (N : NS) (k : Int) :
    (at_ N.l k = none ∧ N.take k = (N, ⟨0, 0, 0, []⟩, 32)) ∨ ∃ i x, at_ N.l k = some i ∧ i < N.l.length ∧ N.l[i]? = some x ∧ N.take k = (⟨N.most, N.last, N.l.eraseIdx i⟩, x, 0) := by
  cases hk : at_ N.l k with
  | none => exact .inl ⟨rfl, by unfold NS.take; rw [hk]⟩
  | some i =>
    have hl := at_lt hk
    refine .inr ⟨i, N.l[i], rfl, hl, List.getElem?_eq_getElem hl, ?_⟩
    unfold NS.take; rw [hk]; simp [List.getD, hl]
theorem NS.double_cases (N : NS) (k : Int) :
    (at_ N.l k = none ∧ N.double k = (N, 0, 32)) ∨ ∃ i x, at_ N.l k = some i ∧ i < N.l.length ∧ N.l[i]? = some x ∧ N.double k = N.add x.fr x.rc x.body := by
  cases hk : at_ N.l k with
  | none => exact .inl ⟨rfl, by unfold NS.double; rw [hk]⟩
  | some i =>
    have hl := at_lt hk
    refine .inr ⟨i, N.l[i], rfl, hl, List.getElem?_eq_getElem hl, ?_⟩
    unfold NS.double; rw [hk]; simp [List.getD, hl]

/-- What NetCounts keeps true: so many came in, so many went. -/
def CntI (most : Int) (j ki ko : Nat) (N : NS) : Prop :=
  ki ≤ j ∧ ko ≤ ki ∧ N.l.length + ko = ki ∧ (N.l.length : Int) ≤ max most 0 ∧ N.most = max most 0 ∧ 0 ≤ N.last ∧ N.last ≤ j
theorem CntI.start (most : Int) : CntI most 0 0 0 ⟨max most 0, 0, []⟩ := ⟨Nat.le_refl _, Nat.le_refl _, rfl, by simp; omega, rfl, by simp, by simp⟩
theorem CntI.next {most : Int} {j ki ko : Nat} {N : NS} (h : CntI most j ki ko N) : CntI most (j + 1) ki ko N := by
  obtain ⟨h1, h2, h3, h4, h5, h6, h7⟩ := h
  exact ⟨by omega, h2, h3, h4, h5, h6, by omega⟩
theorem CntI.add {most : Int} {j ki ko : Nat} {N : NS} (h : CntI most j ki ko N) (hr : N.l.length < N.most) (x : It) : CntI most (j + 1) (ki + 1) ko ⟨N.most, N.last + 1, N.l ++ [x]⟩ := by
  obtain ⟨h1, h2, h3, h4, h5, h6, h7⟩ := h
  refine ⟨by omega, by omega, by simp; omega, by simp; omega, h5, by simp; omega, by simp; omega⟩
theorem CntI.take {most : Int} {j ki ko : Nat} {N : NS} (h : CntI most j ki ko N) {i : Nat} (hi : i < N.l.length) : CntI most (j + 1) ki (ko + 1) ⟨N.most, N.last, N.l.eraseIdx i⟩ := by
  obtain ⟨h1, h2, h3, h4, h5, h6, h7⟩ := h
  have hl : (N.l.eraseIdx i).length = N.l.length - 1 := by rw [List.length_eraseIdx, if_pos hi]
  refine ⟨by omega, by omega, by rw [hl]; omega, by rw [hl]; omega, h5, by simp; omega, by simp; omega⟩
theorem CntI.bounds {most : Int} {j ki ko : Nat} {N : NS} (h : CntI most j ki ko N) : ki ≤ j ∧ ko ≤ ki ∧ N.l.length ≤ j ∧ 0 ≤ N.last ∧ N.last ≤ j := by
  obtain ⟨h1, h2, h3, h4, h5, h6, h7⟩ := h
  exact ⟨h1, h2, by omega, h6, h7⟩

set_option maxRecDepth 100000 in
set_option maxHeartbeats 2000000 in
theorem counts_any (most : Int) (A : Option Addr) (cap : Nat) (gs : List GSt) (w : World) (h : Script w A cap gs) :
    Calls Try.prog 4 #[.int .i64 most, .slice A gs.length cap] w fun e w' => e = .returned (.bool true) ∧ Below w.heap.size w w' := by
  obtain ⟨hrow, hbod, hsz⟩ := h
  have hcap : (gs.length : Int) ≤ 140737488351232 := by omega
  go_enter Try.func4, Try.ntmps4
  go_wp2_with fail
  refine (awake_any w).mono ?_
  rintro e w1 ⟨rfl, hb1⟩
  go_wp2_with fail
  refine (new_to most w1).mono ?_
  rintro e w2 ⟨p, S, B, rfl, h2, u2⟩
  have v2 : Upd (New w) (New w) w w2 S B := u2.of_new hb1
  clear u2
  go_wp2_with fail
  go_loopw [6, 7, 8] (fun i o k wr => ∃ (j ki ko : Nat) (N : NS) (S B : Nat → Prop), j ≤ gs.length ∧ k = .int .i64 j ∧ i = .int .i64 ki ∧ o = .int .i64 ko ∧ CntI most j ki ko N ∧ NetI wr p S B N ∧ Upd (New w) (New w) w wr S B) (fun _ _ k _ => gs.length - (intOf k).toNat)
  case atStart => exact ⟨0, 0, 0, _, S, B, Nat.zero_le _, rfl, rfl, rfl, CntI.start most, h2, v2⟩
  case round =>
    clear h2 v2 S B
    obtain ⟨j, ki, ko, N, S, B, hj, rfl, rfl, rfl, hI, hN, hu⟩ := hrel
    obtain ⟨hki, hko, hlen, hl1, hl2⟩ := hI.bounds
    by_cases hlt : j < gs.length
    · have hw := hu.new_below
      obtain ⟨b, off, rfl, _, hbl, q0, q1, q2, q3, q4⟩ := steps_at (hrow.below hw) hlt
      have hbs := (hbod _ (List.getElem_mem hlt)).below hw
      obtain ⟨Ab, cb, hbv⟩ := hbs.form
      rw [hbv] at q4 hbs
      clear hbv
      generalize gs[j] = g at *
      have hpw : w.heap.size ≤ p := (hu.2.1 p hN.1).elim id id
      go_upto_block 2 with fail
      go_cut [6, 7, 10, 11, 12, 13, 14, 15] (fun i o _ _ _ _ _ _ wx => ∃ (ki ko : Nat) (N : NS) (S B : Nat → Prop), i = .int .i64 ki ∧ o = .int .i64 ko ∧ CntI most (j + 1) ki ko N ∧ NetI wx p S B N ∧ Upd (New w) (New w) w wx S B)
      case first =>
        have hN1 := hN.alloc (.cells #[.int .i64 g.st.kind, .int .i64 g.st.id, .int .i64 g.st.fr, .int .i64 g.st.rc, .slice Ab g.st.body.length cb] 32)
        have hu1 := hu.alloc (.cells #[.int .i64 g.st.kind, .int .i64 g.st.id, .int .i64 g.st.fr, .int .i64 g.st.rc, .slice Ab g.st.body.length cb] 32)
        have hbs1 := hbs.alloc (.cells #[.int .i64 g.st.kind, .int .i64 g.st.id, .int .i64 g.st.fr, .int .i64 g.st.rc, .slice Ab g.st.body.length cb] 32)
        have hTp : ¬ (fun b => b < w.heap.size) p := by simp; omega
        have hsz1 : (N.l.length + 1) * 48 ≤ 140737488355328 := by omega
        have hsz0 : N.l.length * 48 ≤ 140737488355328 := by omega
        have hl3 : N.last ≤ 1000000000000000 := by omega
        by_cases k0 : g.st.kind = 0
        · have t0 : (g.st.kind == 0) = true := by rw [k0]; rfl
          clear k0
          rcases N.add_cases g.st.fr g.st.rc g.st.body with ⟨hc, e0⟩ | ⟨hc, e0⟩
          · have E0 := Lib.hid e0; clear e0
            go_wp2_with (go_at_call 10; refine (send_to hN1 E0.out hbs1 hTp hl1 hl3 hsz1).mono ?_; rintro e wx ⟨rfl, S', B', hx, ux⟩)
            go_meet
            exact ⟨ki, ko, N, S', B', rfl, rfl, hI.next, hx, hu1.trans ux⟩
          · have E0 := Lib.hid e0; clear e0
            go_wp2_with (go_at_call 10; refine (send_to hN1 E0.out hbs1 hTp hl1 hl3 hsz1).mono ?_; rintro e wx ⟨rfl, S', B', hx, ux⟩)
            go_meet
            exact ⟨ki + 1, ko, _, S', B', by go_num, rfl, hI.add hc _, hx, hu1.trans ux⟩
        have t0 : (g.st.kind == 0) = false := by simpa using k0
        clear k0
        by_cases k1 : g.st.kind = 1
        · have t1 : (g.st.kind == 1) = true := by rw [k1]; rfl
          clear k1
          rcases N.take_cases g.st.id with ⟨hc, e0⟩ | ⟨i, x, hc, hi, hx0, e0⟩
          · have E0 := Lib.hid e0; clear e0
            go_wp2_with (go_at_call 12; refine (take_to hN1 E0.out hsz0).mono ?_; rintro e wx ⟨bx, rfl, hbx, hx, ux⟩; obtain ⟨Ax, cx, rfl⟩ := hbx.form)
            go_meet
            exact ⟨ki, ko, N, S, B, rfl, rfl, hI.next, hx.alloc _, (hu1.trans ux).alloc _⟩
          · have E0 := Lib.hid e0; clear e0
            go_wp2_with (go_at_call 12; refine (take_to hN1 E0.out hsz0).mono ?_; rintro e wx ⟨bx, rfl, hbx, hx, ux⟩; obtain ⟨Ax, cx, rfl⟩ := hbx.form)
            go_meet
            exact ⟨ki, ko + 1, _, S, B, rfl, by go_num, hI.take hi, hx.alloc _, (hu1.trans ux).alloc _⟩
        have t1 : (g.st.kind == 1) = false := by simpa using k1
        clear k1
        by_cases k2 : g.st.kind = 2
        · have t2 : (g.st.kind == 2) = true := by rw [k2]; rfl
          clear k2
          rcases N.take_cases g.st.id with ⟨hc, e0⟩ | ⟨i, x, hc, hi, hx0, e0⟩
          · have E0 := Lib.hid e0; clear e0
            go_wp2_with (go_at_call 15; refine (drop_to hN1 E0.out hsz0).mono ?_; rintro e wx ⟨rfl, hx, ux⟩)
            go_meet
            exact ⟨ki, ko, N, S, B, rfl, rfl, hI.next, hx, hu1.trans ux⟩
          · have E0 := Lib.hid e0; clear e0
            go_wp2_with (go_at_call 15; refine (drop_to hN1 E0.out hsz0).mono ?_; rintro e wx ⟨rfl, hx, ux⟩)
            go_meet
            exact ⟨ki, ko + 1, _, S, B, rfl, by go_num, hI.take hi, hx, hu1.trans ux⟩
        have t2 : (g.st.kind == 2) = false := by simpa using k2
        clear k2
        by_cases k3 : g.st.kind = 3
        · have t3 : (g.st.kind == 3) = true := by rw [k3]; rfl
          clear k3
          rcases N.double_cases g.st.id with ⟨hc, e0⟩ | ⟨i, x, hc, hi, hx0, e0⟩
          · have E0 := Lib.hid e0; clear e0
            go_wp2_with (go_at_call 16; refine (double_to hN1 E0.out hl1 hl3 hsz1).mono ?_; rintro e wx ⟨rfl, S', B', hx, ux⟩)
            go_meet
            exact ⟨ki, ko, N, S', B', rfl, rfl, hI.next, hx, hu1.trans ux⟩
          · rcases N.add_cases x.fr x.rc x.body with ⟨hc, e1⟩ | ⟨hc, e1⟩
            · have E0 := Lib.hid (e0.trans e1); clear e0 e1
              go_wp2_with (go_at_call 16; refine (double_to hN1 E0.out hl1 hl3 hsz1).mono ?_; rintro e wx ⟨rfl, S', B', hx, ux⟩)
              go_meet
              exact ⟨ki, ko, N, S', B', rfl, rfl, hI.next, hx, hu1.trans ux⟩
            · have E0 := Lib.hid (e0.trans e1); clear e0 e1
              go_wp2_with (go_at_call 16; refine (double_to hN1 E0.out hl1 hl3 hsz1).mono ?_; rintro e wx ⟨rfl, S', B', hx, ux⟩)
              go_meet
              exact ⟨ki + 1, ko, _, S', B', by go_num, rfl, hI.add hc _, hx, hu1.trans ux⟩
        have t3 : (g.st.kind == 3) = false := by simpa using k3
        clear k3
        go_wp2_with fail
        go_meet
        exact ⟨ki, ko, N, S, B, rfl, rfl, hI.next, hN1, hu1⟩
      case rest =>
        clear hI hN hu hki hko hlen hl1 hl2 q0 q1 q2 q3 q4
        obtain ⟨ki, ko, N, S, B, rfl, rfl, hI, hN, hu⟩ := hcut
        obtain ⟨hki, hko, hlen, hl1, hl2⟩ := hI.bounds
        have hI3 := hI.2.2.1
        have hI4 := hI.2.2.2.1
        have hd : ((N.l.length : Int) != (ki : Int) - (ko : Int)) = false := by simp; omega
        clear hI3
        have hs0 : (0 : Int) ≤ (ki : Int) - (ko : Int) := by omega
        have hs1 : (ki : Int) - (ko : Int) ≤ 140737488351232 := by omega
        by_cases hm : most < 0
        · have hq : (N.l.length : Int) ≤ 0 := by omega
          go_wp2_with (go_at_call 19; refine (len_any p _ _ _ _ hN).mono ?_; rintro e wy ⟨rfl, rfl⟩)
          go_roundw
          case rel => exact ⟨j + 1, ki, ko, N, S, B, by omega, by go_num, rfl, rfl, hI, hN, hu⟩
          case measure => simp [intOf]; omega
        · have hq : (N.l.length : Int) ≤ most := by omega
          go_wp2_with (go_at_call 19; refine (len_any p _ _ _ _ hN).mono ?_; rintro e wy ⟨rfl, rfl⟩)
          go_roundw
          case rel => exact ⟨j + 1, ki, ko, N, S, B, by omega, by go_num, rfl, rfl, hI, hN, hu⟩
          case measure => simp [intOf]; omega
    · have hI3 := hI.2.2.1
      have hsz0 : N.l.length * 48 ≤ 140737488355328 := by omega
      have hd : ((N.l.length : Int) == (ki : Int) - (ko : Int)) = true := by simp; omega
      clear hI3
      have hs0 : (0 : Int) ≤ (ki : Int) - (ko : Int) := by omega
      have hs1 : (ki : Int) - (ko : Int) ≤ 140737488351232 := by omega
      go_wp2_with (go_at_call 20; refine (waiting_any p _ _ _ _ hN hsz0).mono ?_; rintro e w9 ⟨v9, rfl, ⟨gs9, B9, o9, _, l9, _⟩, b9⟩
                   have g9 : gs9.length = N.l.length := by rw [← l9, List.length_map]
                   rw [g9] at o9
                   obtain ⟨A9, c9, rfl⟩ := o9.form
                   clear g9 l9)
      go_ret
      exact ⟨rfl, (hu.trans (Upd.of_below b9)).new_below⟩

end Go.Proofs.Ythlebfhljmcedaa
