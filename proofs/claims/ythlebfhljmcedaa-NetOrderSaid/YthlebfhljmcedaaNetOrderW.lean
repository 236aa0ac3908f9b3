/- NetOrder: the walk. -/
import Derived.Test.YthlebfhljmcedaaNetG
namespace Go.Proofs.Ythlebfhljmcedaa
open Go.RowKit

/-- What NetOrder keeps true: what waits stands in rising order of its numbers, from 1 to the last. -/
def OrdI (j : Nat) (N : NS) : Prop :=
  0 ≤ N.last ∧ N.last ≤ j ∧ N.l.length ≤ j ∧ (∀ x ∈ N.l, 1 ≤ x.id ∧ x.id ≤ N.last) ∧ N.l.Pairwise (fun a b => a.id < b.id)
theorem OrdI.start (most : Int) : OrdI 0 ⟨most, 0, []⟩ := ⟨by simp, by simp, by simp, by simp, by simp⟩
theorem OrdI.next {j : Nat} {N : NS} (h : OrdI j N) : OrdI (j + 1) N := by
  obtain ⟨h1, h2, h3, h4, h5⟩ := h
  exact ⟨h1, by omega, by omega, h4, h5⟩
theorem OrdI.add {j : Nat} {N : NS} (h : OrdI j N) (fr rc : Int) (body : List UInt8) : OrdI (j + 1) ⟨N.most, N.last + 1, N.l ++ [⟨N.last + 1, fr, rc, body⟩]⟩ := by
  obtain ⟨h1, h2, h3, h4, h5⟩ := h
  refine ⟨by simp; omega, by simp; omega, by simp; omega, fun x hx => ?_, ?_⟩
  · rcases List.mem_append.1 hx with hx | hx
    · have := h4 x hx; simp; omega
    · obtain rfl := List.mem_singleton.1 hx; simp; omega
  · rw [List.pairwise_append]
    refine ⟨h5, by simp, fun a ha b hb => ?_⟩
    obtain rfl := List.mem_singleton.1 hb
    have := h4 a ha; simp; omega
theorem OrdI.take {j : Nat} {N : NS} (h : OrdI j N) (i : Nat) : OrdI (j + 1) ⟨N.most, N.last, N.l.eraseIdx i⟩ := by
  obtain ⟨h1, h2, h3, h4, h5⟩ := h
  have hl : (N.l.eraseIdx i).length ≤ N.l.length := List.length_eraseIdx_le N.l i
  exact ⟨h1, by simp; omega, by simp; omega, fun x hx => h4 x (List.mem_of_mem_eraseIdx hx), h5.sublist (List.eraseIdx_sublist _ _)⟩
theorem OrdI.get {j : Nat} {N : NS} (h : OrdI j N) {k : Nat} {x : It} (hx : N.l[k]? = some x) : 1 ≤ x.id ∧ x.id ≤ N.last := h.2.2.2.1 x (List.mem_of_getElem? hx)
theorem OrdI.lt {j : Nat} {N : NS} (h : OrdI j N) {k : Nat} {x y : It} (hx : N.l[k]? = some x) (hy : N.l[k + 1]? = some y) : x.id < y.id := by
  obtain ⟨h1, e1⟩ := List.getElem?_eq_some_iff.1 hx
  obtain ⟨h2, e2⟩ := List.getElem?_eq_some_iff.1 hy
  have := List.pairwise_iff_getElem.1 h.2.2.2.2 k (k + 1) h1 h2 (by omega)
  rwa [e1, e2] at this

set_option maxRecDepth 100000 in
set_option maxHeartbeats 4000000 in
theorem order_any (most : Int) (A : Option Addr) (cap : Nat) (gs : List GSt) (w : World) (h : Script w A cap gs) :
    Calls Try.prog 6 #[.int .i64 most, .slice A gs.length cap] w fun e w' => e = .returned (.bool true) ∧ Below w.heap.size w w' := by
  obtain ⟨hrow, hbod, hsz⟩ := h
  have hcap : (gs.length : Int) ≤ 140737488351232 := by omega
  go_enter Try.func6, Try.ntmps6
  go_wp2_with fail
  refine (awake_any w).mono ?_
  rintro e w1 ⟨rfl, hb1⟩
  go_wp2_with fail
  refine (new_to most w1).mono ?_
  rintro e w2 ⟨p, S, B, rfl, h2, u2⟩
  have v2 : Upd (New w) (New w) w w2 S B := u2.of_new hb1
  clear u2
  go_wp2_with fail
  go_loopw [6, 7] (fun l k wr => ∃ (j : Nat) (N : NS) (S B : Nat → Prop), j ≤ gs.length ∧ k = .int .i64 j ∧ l = .int .i64 N.last ∧ OrdI j N ∧ NetI wr p S B N ∧ Upd (New w) (New w) w wr S B) (fun _ k _ => gs.length - (intOf k).toNat)
  case atStart => exact ⟨0, _, S, B, Nat.zero_le _, rfl, rfl, OrdI.start _, h2, v2⟩
  case round =>
    clear h2 v2 S B
    obtain ⟨j, N, S, B, hj, rfl, rfl, hI, hN, hu⟩ := hrel
    have hl1 := hI.1
    have hl2 := hI.2.1
    have hlen := hI.2.2.1
    by_cases hlt : j < gs.length
    · have hw := hu.new_below
      obtain ⟨b, off, rfl, _, hbl, q0, q1, q2, q3, q4⟩ := steps_at (hrow.below hw) hlt
      have hbs := (hbod _ (List.getElem_mem hlt)).below hw
      obtain ⟨Ab, cb, hbv⟩ := hbs.form
      rw [hbv] at q4 hbs
      clear hbv
      generalize gs[j] = g at *
      have hpw : w.heap.size ≤ p := (hu.2.1 p hN.1).elim id id
      go_upto_block 2 with fail
      go_cut [9, 10] (fun i e wx => ∃ (N' : NS) (S B : Nat → Prop) (i' e' : Int), i = .int .i64 i' ∧ e = .int .i64 e' ∧ Hid ((e' = 0 ∧ i' = N.last + 1 ∧ N'.last = N.last + 1) ∨ (e' ≠ 0 ∧ N'.last = N.last)) ∧ OrdI (j + 1) N' ∧ NetI wx p S B N' ∧ Upd (New w) (New w) w wx S B)
      case first =>
        have hN1 := hN.alloc (.cells #[.int .i64 g.st.kind, .int .i64 g.st.id, .int .i64 g.st.fr, .int .i64 g.st.rc, .slice Ab g.st.body.length cb] 32)
        have hu1 := hu.alloc (.cells #[.int .i64 g.st.kind, .int .i64 g.st.id, .int .i64 g.st.fr, .int .i64 g.st.rc, .slice Ab g.st.body.length cb] 32)
        have hbs1 := hbs.alloc (.cells #[.int .i64 g.st.kind, .int .i64 g.st.id, .int .i64 g.st.fr, .int .i64 g.st.rc, .slice Ab g.st.body.length cb] 32)
        have hTp : ¬ (fun b => b < w.heap.size) p := by simp; omega
        have hsz1 : (N.l.length + 1) * 48 ≤ 140737488355328 := by omega
        have hsz0 : N.l.length * 48 ≤ 140737488355328 := by omega
        have hl3 : N.last ≤ 1000000000000000 := by omega
        by_cases k0 : g.st.kind = 0
        · have t0 : (g.st.kind == 0) = true := by rw [k0]; rfl
          clear k0
          rcases N.add_cases g.st.fr g.st.rc g.st.body with ⟨_, e0⟩ | ⟨_, e0⟩
          · have E0 := Lib.hid e0; clear e0
            go_wp2_with (go_at_call 10; refine (send_to hN1 E0.out hbs1 hTp hl1 hl3 hsz1).mono ?_; rintro e wx ⟨rfl, S', B', hx, ux⟩)
            go_meet
            exact ⟨N, S', B', _, _, rfl, rfl, Lib.hid (.inr ⟨by decide, rfl⟩), hI.next, hx, hu1.trans ux⟩
          · have E0 := Lib.hid e0; clear e0
            go_wp2_with (go_at_call 10; refine (send_to hN1 E0.out hbs1 hTp hl1 hl3 hsz1).mono ?_; rintro e wx ⟨rfl, S', B', hx, ux⟩)
            go_meet
            exact ⟨_, S', B', _, _, rfl, rfl, Lib.hid (.inl ⟨rfl, rfl, rfl⟩), hI.add _ _ _, hx, hu1.trans ux⟩
        have t0 : (g.st.kind == 0) = false := by simpa using k0
        clear k0
        by_cases k1 : g.st.kind = 1
        · have t1 : (g.st.kind == 1) = true := by rw [k1]; rfl
          clear k1
          rcases N.take_cases g.st.id with ⟨_, e0⟩ | ⟨i, x, _, hi, hx0, e0⟩
          · have E0 := Lib.hid e0; clear e0
            go_wp2_with (go_at_call 12; refine (take_to hN1 E0.out hsz0).mono ?_; rintro e wx ⟨bx, rfl, hbx, hx, ux⟩)
            go_meet
            exact ⟨N, S, B, _, _, rfl, rfl, Lib.hid (.inr ⟨by decide, rfl⟩), hI.next, hx, hu1.trans ux⟩
          · have E0 := Lib.hid e0; clear e0
            go_wp2_with (go_at_call 12; refine (take_to hN1 E0.out hsz0).mono ?_; rintro e wx ⟨bx, rfl, hbx, hx, ux⟩)
            go_meet
            exact ⟨⟨N.most, N.last, N.l.eraseIdx i⟩, S, B, _, _, rfl, rfl, Lib.hid (.inr ⟨by decide, rfl⟩), hI.take i, hx, hu1.trans ux⟩
        have t1 : (g.st.kind == 1) = false := by simpa using k1
        clear k1
        by_cases k2 : g.st.kind = 2
        · have t2 : (g.st.kind == 2) = true := by rw [k2]; rfl
          clear k2
          rcases N.take_cases g.st.id with ⟨_, e0⟩ | ⟨i, x, _, hi, hx0, e0⟩
          · have E0 := Lib.hid e0; clear e0
            go_wp2_with (go_at_call 15; refine (drop_to hN1 E0.out hsz0).mono ?_; rintro e wx ⟨rfl, hx, ux⟩)
            go_meet
            exact ⟨N, S, B, _, _, rfl, rfl, Lib.hid (.inr ⟨by decide, rfl⟩), hI.next, hx, hu1.trans ux⟩
          · have E0 := Lib.hid e0; clear e0
            go_wp2_with (go_at_call 15; refine (drop_to hN1 E0.out hsz0).mono ?_; rintro e wx ⟨rfl, hx, ux⟩)
            go_meet
            exact ⟨⟨N.most, N.last, N.l.eraseIdx i⟩, S, B, _, _, rfl, rfl, Lib.hid (.inr ⟨by decide, rfl⟩), hI.take i, hx, hu1.trans ux⟩
        have t2 : (g.st.kind == 2) = false := by simpa using k2
        clear k2
        by_cases k3 : g.st.kind = 3
        · have t3 : (g.st.kind == 3) = true := by rw [k3]; rfl
          clear k3
          rcases N.double_cases g.st.id with ⟨_, e0⟩ | ⟨i, x, _, hi, hx0, e0⟩
          · have E0 := Lib.hid e0; clear e0
            go_wp2_with (go_at_call 16; refine (double_to hN1 E0.out hl1 hl3 hsz1).mono ?_; rintro e wx ⟨rfl, S', B', hx, ux⟩)
            go_meet
            exact ⟨N, S', B', _, _, rfl, rfl, Lib.hid (.inr ⟨by decide, rfl⟩), hI.next, hx, hu1.trans ux⟩
          · rcases N.add_cases x.fr x.rc x.body with ⟨_, e1⟩ | ⟨_, e1⟩
            · have E0 := Lib.hid (e0.trans e1); clear e0 e1
              go_wp2_with (go_at_call 16; refine (double_to hN1 E0.out hl1 hl3 hsz1).mono ?_; rintro e wx ⟨rfl, S', B', hx, ux⟩)
              go_meet
              exact ⟨N, S', B', _, _, rfl, rfl, Lib.hid (.inr ⟨by decide, rfl⟩), hI.next, hx, hu1.trans ux⟩
            · have E0 := Lib.hid (e0.trans e1); clear e0 e1
              go_wp2_with (go_at_call 16; refine (double_to hN1 E0.out hl1 hl3 hsz1).mono ?_; rintro e wx ⟨rfl, S', B', hx, ux⟩)
              go_meet
              exact ⟨_, S', B', _, _, rfl, rfl, Lib.hid (.inl ⟨rfl, rfl, rfl⟩), hI.add _ _ _, hx, hu1.trans ux⟩
        have t3 : (g.st.kind == 3) = false := by simpa using k3
        clear k3
        go_wp2_with fail
        go_meet
        exact ⟨N, S, B, _, _, rfl, rfl, Lib.hid (.inr ⟨by decide, rfl⟩), hI.next, hN1, hu1⟩
      case rest =>
        clear hI hN hu hlen hbs hrow q0 q1 q2 q3 q4 hw
        obtain ⟨N', S', B', i', e', rfl, rfl, hor, hI, hN, hu⟩ := hcut
        rcases hor.out with ⟨rfl, rfl, hl⟩ | ⟨he, hl⟩
        · have HL := Lib.hid hl; clear hl
          have hz : (0 : Int) ≤ N.last + 1 := by omega
          have hz2 : N.last + 1 ≤ 1000000000000000 := by omega
          go_wp2_with fail
          go_roundw
          case rel => exact ⟨j + 1, N', S', B', by omega, by go_num, by rw [HL.out], hI, hN, hu⟩
          case measure => simp [intOf]; omega
        · have HL := Lib.hid hl; clear hl
          have t : (e' == 0) = false := by simpa using he
          clear he
          go_wp2_with fail
          go_roundw
          case rel => exact ⟨j + 1, N', S', B', by omega, by go_num, by rw [HL.out], hI, hN, hu⟩
          case measure => simp [intOf]; omega
    · have hsz0 : N.l.length * 48 ≤ 140737488355328 := by omega
      go_wp2_with (go_at_call 20; refine (waiting_any p _ _ _ _ hN hsz0).mono ?_; rintro e w9 ⟨v9, rfl, ⟨gs9, B9, o9, _, l9, _⟩, b9⟩; have L9 := Lib.hid l9; clear l9; obtain ⟨A9, c9, rfl⟩ := o9.form)
      have hu9 := (hu.trans (Upd.of_below (S := S) (B := B) b9)).new_below
      have g9 : gs9.length ≤ j := by have := congrArg List.length L9.out; rw [List.length_map] at this; omega
      have hI' := Lib.hid hI
      have hcs := Cs.of_own o9 (S := fun _ => True) (fun _ _ => trivial)
      clear hN hu b9 o9 hI hrow hbod
      go_loopw [74] (fun i wr => ∃ m : Nat, m ≤ gs9.length ∧ i = .int .i64 m ∧ Cs wr (fun _ => True) 4 (.slice A9 gs9.length c9) gs9.length (flat gs9) ∧ Below w.heap.size w wr) (fun i _ => gs9.length - (intOf i).toNat)
      case atStart => exact ⟨0, Nat.zero_le _, rfl, hcs, hu9⟩
      case round =>
        clear hcs hu9
        obtain ⟨m, hm, rfl, hcs, hb⟩ := hrel
        by_cases hlt2 : m < gs9.length
        · obtain ⟨b, off, rfl, _, _, q0, _⟩ := items_at hcs hlt2
          have hgm : N.l[m]? = some gs9[m].it := by rw [← L9.out, List.getElem?_map, List.getElem?_eq_getElem hlt2]; rfl
          have hr := hI'.out.get hgm
          have d1 : decide (gs9[m].it.id < 1) = false := by simp; omega
          have d2 : decide (N.last < gs9[m].it.id) = false := by simp; omega
          have hm0 : (0 : Int) ≤ (m : Int) := Int.natCast_nonneg _
          have hm1 : (m : Int) < (gs9.length : Int) := by omega
          by_cases hm2 : m = 0
          · subst hm2
            have d3 : decide ((0 : Int) < ((0 : Nat) : Int)) = false := by simp
            clear hgm hr
            simp only [Nat.zero_mul, Nat.add_zero] at q0
            go_wp2_with fail
            go_quiet (fail)
            go_wp2
            go_roundw
            case rel => exact ⟨1, by omega, by go_num, hcs.drewN _, below_drewN hb _⟩
            case measure => simp [intOf]; omega
          · obtain ⟨b2, off2, e2, _, _, q0', _⟩ := items_at hcs (k := m - 1) (by omega)
            obtain ⟨rfl, rfl⟩ : b2 = b ∧ off2 = off := by injection e2 with e2; injection e2 with e1 e2; exact ⟨e1.symm, e2.symm⟩
            clear e2
            have hgm1 : N.l[m - 1]? = some (gs9[m - 1]'(by omega)).it := by rw [← L9.out, List.getElem?_map, List.getElem?_eq_getElem (by omega)]; rfl
            have hlt3 := hI'.out.lt hgm1 (by rw [show m - 1 + 1 = m from by omega]; exact hgm)
            have d3 : decide (0 < m) = true := by simp; omega
            have d4 : decide (gs9[m].it.id ≤ (gs9[m - 1]'(by omega)).it.id) = false := by simp; omega
            have hm3 : (0 : Int) ≤ (m : Int) - 1 := by omega
            have hm4 : (m : Int) - 1 < (gs9.length : Int) := by omega
            have hm5 : ((m : Int) - 1).toNat = m - 1 := by omega
            clear hgm hr hgm1 hlt3 hm2
            go_wp2_with fail
            go_quiet (fail)
            go_wp2
            go_roundw
            case rel => exact ⟨m + 1, by omega, by go_num, hcs.drewN _, below_drewN hb _⟩
            case measure => simp [intOf]; omega
        · go_wp2
          go_ret
          exact ⟨rfl, hb⟩

end Go.Proofs.Ythlebfhljmcedaa
