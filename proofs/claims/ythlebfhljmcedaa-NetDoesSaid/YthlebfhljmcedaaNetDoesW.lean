/- NetDoes: the walk. -/
import Derived.Test.YthlebfhljmcedaaNetY
namespace Go.Proofs.Ythlebfhljmcedaa
open Go.RowKit

/-- What the walk of NetDoes keeps. -/
def DoI (w0 w : World) (p q : Nat) (j : Nat) : Prop := ∃ S B S2 N, Two w0 w p q S B S2 N N ∧ Few j N

theorem run_max0 (most : Int) (ty : TypeId) (W : World) : (Builtin.max_ #[3, 3] ty #[.int .i64 most, .int .i64 0]).run Try.prog W = .ok (.int .i64 (max most 0)) W := by
  by_cases h : most < 0
  · have e : max most 0 = 0 := by omega
    rw [e]
    simp [Builtin.max_, Builtin.max2, go_sem, h]
  · have e : max most 0 = most := by omega
    rw [e]
    simp [Builtin.max_, Builtin.max2, go_sem, h]

set_option maxRecDepth 100000 in
set_option maxHeartbeats 4000000 in
theorem does_any (most : Int) (A : Option Addr) (cap : Nat) (gs : List GSt) (w : World) (h : Script w A cap gs) :
    Calls Try.prog 3 #[.int .i64 most, .slice A gs.length cap] w fun e w' => e = .returned (.bool true) ∧ Below w.heap.size w w' := by
  obtain ⟨hrow, hbod, hsz⟩ := h
  have hcap : (gs.length : Int) ≤ 140737488351232 := by omega
  go_enter Try.func3, Try.ntmps3
  go_wp2_with fail
  refine (awake_any w).mono ?_
  rintro e w1 ⟨rfl, hb1⟩
  go_wp2_with fail
  refine (new_to most w1).mono ?_
  rintro e w2 ⟨p, S, B, rfl, h2, u2⟩
  have v2 : Upd (New w) (New w) w w2 S B := u2.of_new hb1
  clear u2
  obtain ⟨mm, hmm⟩ : ∃ mm, mm = max most 0 := ⟨_, rfl⟩
  have hmx := run_max0 most
  rw [← hmm] at h2 hmx
  clear hmm
  go_wp2_with fail
  have hst : DoI w (w2.alloc (.cells #[.slice none 0 0, .int .i64 mm, .int .i64 0] 29)) p w2.heap.size 0 := by
    refine ⟨S, B, _, _, ⟨h2.alloc _, RefI.new w2 mm, (v2.alloc _).new_below, fun b hb => (v2.2.1 b hb).elim id id, fun b hb => (v2.2.2 b hb).elim id id, fun b hb => ?_, fun b hb => ?_⟩, ⟨by simp, by simp, by simp⟩⟩
    · have := v2.1.size; omega
    · subst hb
      exact ⟨fun hs => by have := h2.lt _ (.inl hs); omega, fun hs => by have := h2.lt _ (.inr hs); omega⟩
  clear h2 v2 hmx
  generalize w2.heap.size = q at *
  go_loopw [7] (fun k wr => ∃ j : Nat, j ≤ gs.length ∧ k = .int .i64 j ∧ DoI w wr p q j) (fun k _ => gs.length - (intOf k).toNat)
  case atStart => exact ⟨0, Nat.zero_le _, rfl, hst⟩
  case round =>
    clear hst
    obtain ⟨j, hj, rfl, S, B, S2, N, hT, hF⟩ := hrel
    have hl1 := hF.1
    have hl2 := hF.2.1
    have hlen := hF.2.2
    have hsz1 : (N.l.length + 1) * 48 ≤ 140737488355328 := by omega
    have hsz0 : N.l.length * 48 ≤ 140737488355328 := by omega
    have hsz3 : (N.l.length + 1) * 40 ≤ 140737488355328 := by omega
    have hsz4 : N.l.length * 40 ≤ 140737488355328 := by omega
    have hl3 : N.last ≤ 1000000000000000 := by omega
    by_cases hlt : j < gs.length
    · have hw := hT.below
      obtain ⟨b, off, rfl, _, hbl, q0, q1, q2, q3, q4⟩ := steps_at (hrow.below hw) hlt
      have hbs0 := hbod _ (List.getElem_mem hlt)
      obtain ⟨Ab, cb, hbv⟩ := hbs0.form
      rw [hbv] at q4 hbs0
      clear hbv
      generalize gs[j] = g at *
      have hT1 := hT.alloc (.cells #[.int .i64 g.st.kind, .int .i64 g.st.id, .int .i64 g.st.fr, .int .i64 g.st.rc, .slice Ab g.st.body.length cb] 32)
      have hx1 := Blk.new wr 32 #[.int .i64 g.st.kind, .int .i64 g.st.id, .int .i64 g.st.fr, .int .i64 g.st.rc, .slice Ab g.st.body.length cb]
      have hxS : ∀ b, S b → b ≠ wr.heap.size := fun b hb e => by have := hT.net.lt b (.inl hb); omega
      have hxS2 : ∀ b, S2 b → b ≠ wr.heap.size := fun b hb e => by have := hT.ref.2.1 b hb; omega
      by_cases k0 : g.st.kind = 0
      · have t0 : (g.st.kind == 0) = true := by rw [k0]; rfl
        clear k0
        obtain ⟨N', i, e', e0⟩ : ∃ N' i e', N.add g.st.fr g.st.rc g.st.body = (N', i, e') := ⟨_, _, _, rfl⟩
        have E0 := Lib.hid e0; clear e0
        have hpl := hT.net.2.1 p hT.net.1
        have hSl := hT.net.lt
        have hS2l := hT.ref.2.1
        have h47 := hbs0.2
        have hlx1 := hx1.lt
        have hcx1 := hx1.cell
        have hoE : Own ((wr.alloc (.cells #[.int .i64 g.st.kind, .int .i64 g.st.id, .int .i64 g.st.fr, .int .i64 g.st.rc, .slice Ab g.st.body.length cb] 32)).alloc (.cells #[] 5)) 5 1 (.slice (some ⟨wr.heap.size + 1, 0, none⟩) 0 0) 0 [] := by
          have := Own.empty (wr.alloc (.cells #[.int .i64 g.st.kind, .int .i64 g.st.id, .int .i64 g.st.fr, .int .i64 g.st.rc, .slice Ab g.st.body.length cb] 32)) 5 1
          simpa using this
        have hTE := hT1.alloc (.cells #[] 5)
        have hsrc := (hbs0.below hTE.below).1
        have hxE := hx1.alloc (.cells #[] 5)
        go_wp2_with (first
          | (at_builtin
             refine wpList_app _ rfl _ _ _ rfl Try.underlying30 info_u8 rfl (by decide) hoE rfl hsrc rfl (u8s_one _) (by simp only [maxLen]; omega) (by omega) ?_
             intro v9 w9 ho9 hg9 hnil9 hat9
             simp only [Nat.zero_add, List.nil_append] at ho9
             have hg9' : Chg (fun b => b = wr.heap.size + 1) _ w9 := hg9.mono (fun b hb => by simp [Value.ownBlock] at hb; exact hb.symm)
             have hs9 := hg9.size
             simp only [World.size_alloc] at hs9
             have hT9 := hTE.chg hg9' (fun b hb => by
               have := hT.below.size
               exact ⟨by omega, fun hs => by have := hSl b (.inl hs); omega, fun hs => by have := hSl b (.inr hs); omega, fun hs => by have := hS2l b hs; omega⟩)
             have hx9 := hxE.chg hg9' (by omega)
             have hnew9 : ∀ k, v9.ownBlock = some k → wr.heap.size + 1 ≤ k := fun k hk => by
               rcases hat9 with e | e <;> rw [e] at hk <;> simp [Value.ownBlock] at hk <;> omega
             obtain ⟨A9, c9, rfl⟩ := Own.form ho9
             have hlt9 := fun k hk => own_lt ho9 (k := k) hk
             have hbs9 : Bs w9 (fun b => (Value.slice A9 g.st.body.length c9).ownBlock = some b) (.slice A9 g.st.body.length c9) g.st.body := ⟨Cs.of_own ho9 (fun _ hk => hk), h47⟩
             have hTp : ¬ (fun b => (Value.slice A9 g.st.body.length c9).ownBlock = some b) p := fun e => by have := hnew9 p e; omega
             have hlx9 := hx9.lt
             have hcx9 := hx9.cell
             clear hsrc hcx1 hlx1 hTE hxE hoE hg9 hat9 hnil9)
          | (go_at_call 10; refine (send_to hT9.net E0.out hbs9 hTp hl1 hl3 hsz1).mono ?_; rintro e w3 ⟨rfl, S', B', hn3, hu3⟩
             have hT3 := hT9.netTo hn3 hu3
             have ho3 := own_chg ho9 hu3.1 (fun k hk hs => by have := hSl k (.inl hs); have := hnew9 k hk; omega)
             have hx3 := hx9.chg hu3.1 (fun hs => hxS _ hs rfl)
             have hcx3 := hx3.cell
             have s3 := run_str (hbs0.below hT3.below) Try.underlying30 Try.underlying5 Try.underlying9
             clear hcx9)
          | (go_at_call 11; refine (rsend_to hT3.ref E0.out hl1 hl3 hsz3).mono ?_; rintro e w4 ⟨rfl, S2', hr4, hu4⟩
             have hT4 := hT3.refTo hr4 hu4
             have ho4 := own_chg ho3 hu4.1 (fun k hk hs => by have := hS2l k hs; have := hnew9 k hk; omega)
             have hx4 := hx3.chg hu4.1 (fun hs => hxS2 _ hs rfl)
             have hcx4 := hx4.cell
             have hb4 : Bs w4 (fun _ => True) (.slice A9 g.st.body.length c9) g.st.body := ⟨Cs.of_own ho4 (fun _ _ => trivial), h47⟩
             have s4 := run_str hb4 Try.underlying30 Try.underlying5 Try.underlying9
             have s5 := run_str (hbs0.below hT4.below) Try.underlying30 Try.underlying5 Try.underlying9
             clear hcx3 s3))
        clear s4 s5 hcx4
        have hfin : ∀ wz, Chg (fun b => (Value.slice A9 g.st.body.length c9).ownBlock = some b) w4 wz → Two w wz p q S' B' S2' N' N' := fun wz hz => hT4.chg hz (fun b hb => by
          have h1 := hnew9 b hb
          have h2 := hlt9 b hb
          have h3 := hu3.1.size
          have h4 := hT.below.size
          exact ⟨by omega, fun hs => (hu3.2.1 b hs).elim (fun hs => by have := hSl b (.inl hs); omega) (fun hs => by omega), fun hs => (hu3.2.2 b hs).elim (fun hs => by have := hSl b (.inr hs); omega) (fun hs => by omega),
            fun hs => (hu4.2.1 b hs).elim (fun hs => by have := hS2l b hs; omega) (fun hs => by omega)⟩)
        have Hfin := Lib.hid hfin; clear hfin
        go_loopw [96] (fun i wr => ∃ (k : Nat) (xs : List Value), k ≤ g.st.body.length ∧ i = .int .i64 k ∧ Own wr 5 1 (.slice A9 g.st.body.length c9) g.st.body.length xs ∧ Byts g.st.body.length xs ∧
          Chg (fun b => (Value.slice A9 g.st.body.length c9).ownBlock = some b) w4 wr) (fun i _ => g.st.body.length - (intOf i).toNat)
        case atStart => exact ⟨0, _, Nat.zero_le _, rfl, ho4, Byts.u8s _, Chg.refl _ _⟩
        case round =>
          obtain ⟨k, xs, hk, rfl, hxs, hby, hch⟩ := hrel
          by_cases hkm : k < g.st.body.length
          · obtain ⟨g9, c', e, _, hgl⟩ := World.ownsRow.form hxs (by omega)
            simp only [Value.slice.injEq] at e
            obtain ⟨rfl, _, rfl⟩ := e
            obtain ⟨m, hm, hf, hsto⟩ := Byts.step hxs hby hkm
            go_wp2
            obtain ⟨xs', ho', hby'⟩ := hsto (IntKind.u8.wrap (m + 1))
            go_roundw
            case rel => exact ⟨k + 1, xs', by omega, by go_num, ho', hby', hch.setOf rfl k _⟩
            case measure => simp [intOf]; omega
          · go_wp2
            refine ⟨⟨j + 1, by omega, by go_num, S', B', S2', N', Hfin.out _ hch, hF.add E0.out⟩, by simp [intOf]; omega⟩
      have t0 : (g.st.kind == 0) = false := by simpa using k0
      clear k0
      by_cases k1 : g.st.kind = 1
      · have t1 : (g.st.kind == 1) = true := by rw [k1]; rfl
        clear k1
        obtain ⟨N', x, e', e0⟩ : ∃ N' x e', N.take g.st.id = (N', x, e') := ⟨_, _, _, rfl⟩
        have E0 := Lib.hid e0; clear e0
        go_wp2_with (first
          | (go_at_call 12; refine (take_to hT1.net E0.out hsz0).mono ?_; rintro e w3 ⟨bx, rfl, hbx, hn3, hu3⟩
             obtain ⟨Ax, cx, rfl⟩ := hbx.form
             have hT3 := (hT1.netTo hn3 hu3).alloc (.cells #[.int .i64 x.id, .int .i64 x.fr, .int .i64 x.rc, .slice Ax x.body.length cx] 38)
             have hx3 := hx1.chg hu3.1 (fun hs => hxS _ hs rfl)
             have hlx3 := hx3.lt
             have hcx3 := hx3.cell
             have ha3 := Blk.new w3 38 #[.int .i64 x.id, .int .i64 x.fr, .int .i64 x.rc, .slice Ax x.body.length cx]
             have hb3 := hbx.alloc (.cells #[.int .i64 x.id, .int .i64 x.fr, .int .i64 x.rc, .slice Ax x.body.length cx] 38)
             have h23 : ¬ S2 w3.heap.size := fun hs => by have := (hT1.netTo hn3 hu3).ref.2.1 _ hs; omega)
          | (go_at_call 13; refine (rtake_to hT3.ref E0.out hsz4).mono ?_; rintro e w4 ⟨rfl, S2', hr4, hu4⟩
             have hT4 := (hT3.refTo hr4 hu4).alloc (.cells #[.int .i64 x.id, .int .i64 x.fr, .int .i64 x.rc, .string (str x.body)] 42)
             have ha4 := ha3.chg hu4.1 h23
             have hla4 := ha4.lt
             have hca4 := ha4.cell
             have hb4 := (hb3.chg hu4.1 (fun b hb h2 => (hT3.apart b h2).2 hb)).alloc (.cells #[.int .i64 x.id, .int .i64 x.fr, .int .i64 x.rc, .string (str x.body)] 42))
          | (go_at_call 14; refine (same_any x _ B _ hb4).mono ?_; rintro e w5 ⟨rfl, hb5⟩))
        go_roundw
        case rel => exact ⟨j + 1, by omega, by go_num, S, B, S2', N', hT4.next hb5, hF.take E0.out⟩
        case measure => simp [intOf]; omega
      have t1 : (g.st.kind == 1) = false := by simpa using k1
      clear k1
      by_cases k2 : g.st.kind = 2
      · have t2 : (g.st.kind == 2) = true := by rw [k2]; rfl
        clear k2
        obtain ⟨N', x, e', e0⟩ : ∃ N' x e', N.take g.st.id = (N', x, e') := ⟨_, _, _, rfl⟩
        have E0 := Lib.hid e0; clear e0
        go_wp2_with (first
          | (go_at_call 15; refine (drop_to hT1.net E0.out hsz0).mono ?_; rintro e w3 ⟨rfl, hn3, hu3⟩
             have hT3 := hT1.netTo hn3 hu3
             have hx3 := hx1.chg hu3.1 (fun hs => hxS _ hs rfl)
             have hcx3 := hx3.cell)
          | (go_at_call 13; refine (rtake_to hT3.ref E0.out hsz4).mono ?_; rintro e w4 ⟨rfl, S2', hr4, hu4⟩
             have hT4 := hT3.refTo hr4 hu4))
        go_roundw
        case rel => exact ⟨j + 1, by omega, by go_num, S, B, S2', N', hT4.alloc _, hF.take E0.out⟩
        case measure => simp [intOf]; omega
      have t2 : (g.st.kind == 2) = false := by simpa using k2
      clear k2
      by_cases k3 : g.st.kind = 3
      · have t3 : (g.st.kind == 3) = true := by rw [k3]; rfl
        clear k3
        obtain ⟨N', i, e', e0⟩ : ∃ N' i e', N.double g.st.id = (N', i, e') := ⟨_, _, _, rfl⟩
        have E0 := Lib.hid e0; clear e0
        go_wp2_with (first
          | (go_at_call 16; refine (double_to hT1.net E0.out hl1 hl3 hsz1).mono ?_; rintro e w3 ⟨rfl, S', B', hn3, hu3⟩
             have hT3 := hT1.netTo hn3 hu3
             have hx3 := hx1.chg hu3.1 (fun hs => hxS _ hs rfl)
             have hcx3 := hx3.cell)
          | (go_at_call 17; refine (rdouble_to hT3.ref E0.out hl1 hl3 hsz3).mono ?_; rintro e w4 ⟨rfl, S2', hr4, hu4⟩
             have hT4 := hT3.refTo hr4 hu4))
        go_roundw
        case rel => exact ⟨j + 1, by omega, by go_num, S', B', S2', N', hT4, hF.double E0.out⟩
        case measure => simp [intOf]; omega
      have t3 : (g.st.kind == 3) = false := by simpa using k3
      clear k3
      go_wp2_with (go_at_call 18; refine (waits_any p q S B S2 N _ hT1.net hT1.ref hsz0).mono ?_; rintro e w3 ⟨rfl, hb3⟩)
      go_roundw
      case rel => exact ⟨j + 1, by omega, by go_num, S, B, S2, N, hT1.next hb3, hF.next⟩
      case measure => simp [intOf]; omega
    · go_wp2_with (go_at_call 18; refine (waits_any p q S B S2 N _ hT.net hT.ref hsz0).mono ?_; rintro e w3 ⟨rfl, hb3⟩)
      go_ret
      exact ⟨rfl, (hT.next hb3).below⟩

end Go.Proofs.Ythlebfhljmcedaa
