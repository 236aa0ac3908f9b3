/- waits: the same items wait; and their copies may be written. -/
import Derived.Test.YthlebfhljmcedaaNetV
namespace Go.Proofs.Ythlebfhljmcedaa
open Go.RowKit

/-- These are bytes, whatever ones. -/
def Byts (n : Nat) (xs : List Value) : Prop := ∀ i, i < n → ∃ m : Int, xs[i]? = some (.int .u8 m)
theorem Byts.u8s (bs : List UInt8) : Byts bs.length (u8s bs) := fun i hi => ⟨_, u8s_get bs i hi⟩
theorem Byts.step {w : World} {t : TypeId} {g n cap : Nat} {xs : List Value} {k : Nat} (h : Own w t 1 (.slice (some ⟨g, 0, none⟩) n cap) n xs) (hn : Byts n xs) (hk : k < n) :
    ∃ m : Int, w.cell? ⟨g, k, none⟩ = some (.int .u8 m) ∧ w.frozen? ⟨g, k, none⟩ = false ∧ ∀ m' : Int, ∃ xs', Own (w.setCell ⟨g, k, none⟩ (.int .u8 m')) t 1 (.slice (some ⟨g, 0, none⟩) n cap) n xs' ∧ Byts n xs' := by
  obtain ⟨m, hm⟩ := hn k hk
  refine ⟨m, by rw [World.ownsRow.cellAt h k (by omega), hm], World.ownsRow.frozenAt h k, fun m' => ⟨xs.set k (.int .u8 m'), (World.ownsRow.stored h k _).1, fun i hi => ?_⟩⟩
  have hl : xs.length = n * 1 := h.1
  by_cases e : k = i
  · subst e
    exact ⟨m', by rw [List.getElem?_set_self (by omega)]⟩
  · rw [List.getElem?_set_ne e]
    exact hn i hi

theorem cell_same {w w' : World} {b off : Nat} (h : w'.heap[b]? = w.heap[b]?) : w'.cell? ⟨b, off, none⟩ = w.cell? ⟨b, off, none⟩ := by
  simp only [World.cell?, h]

set_option maxRecDepth 100000 in
set_option maxHeartbeats 2000000 in
theorem waits_any (p q : Nat) (S B S2 : Nat → Prop) (N : NS) (w : World) (h : NetI w p S B N) (hR : RefI w q S2 N) (hsz : N.l.length * 48 ≤ 140737488355328) :
    Calls Try.prog 18 #[.pointer (some ⟨p, 0, none⟩), .pointer (some ⟨q, 0, none⟩)] w fun e w' => e = .returned (.bool true) ∧ Below w.heap.size w w' := by
  have hcap : (N.l.length : Int) ≤ 140737488351232 := by omega
  go_enter Try.func18, Try.ntmps18
  go_wp2_with fail
  refine (waiting_dis p S B N w h hsz).mono ?_
  rintro e w1 ⟨v, os, rfl, ⟨F, hoo, hof, hob, hoB, hFd⟩, hos, hb1⟩
  have hol : os.length = N.l.length := by rw [← hos, List.length_map]
  have h1 := h.below hb1
  obtain ⟨hSq, hS2, vr, hbq, hor, hvr⟩ := hR
  have hbq1 := hbq.below hb1 hbq.lt
  have hor1 := own_keep hor (fun k hk => hb1.block k (own_lt hor hk))
  rw [hol] at hoo
  have Hos := Lib.hid hos; clear hos
  have Hol := Lib.hid hol; clear hol
  have hcq := hbq1.cell
  obtain ⟨A, cap, rfl⟩ := hoo.form
  obtain ⟨Ar, capr, rfl⟩ := Own.form hor1
  go_wp2_with (go_at_call 19; refine (len_any p S B N w1 h1).mono ?_; rintro e w2 ⟨rfl, rfl⟩)
  go_loopw [27] (fun i wr => ∃ j : Nat, j ≤ N.l.length ∧ i = .int .i64 j ∧ Own wr 38 4 (.slice A N.l.length cap) N.l.length (flat os) ∧
      (∀ i (h : i < os.length), j ≤ i → Own wr 5 1 os[i].bv os[i].it.body.length (u8s os[i].it.body)) ∧ Below w.heap.size w wr ∧ w2.heap.size ≤ wr.heap.size) (fun i _ => N.l.length - (intOf i).toNat)
  case atStart => exact ⟨0, Nat.zero_le _, rfl, hoo, fun i h _ => (hob i h).1, hb1, Nat.le_refl _⟩
  case round =>
    obtain ⟨j, hj, rfl, hrow, hbods, hbw, hsw⟩ := hrel
    have hqw := hbq.below hbw hbq.lt
    have hrw := own_keep hor (fun k hk => hbw.block k (own_lt hor hk))
    by_cases hlt : j < N.l.length
    · have hjo : j < os.length := by rw [Hol.out]; exact hlt
      have hrow' : Own wr 38 4 (.slice A N.l.length cap) os.length (flat os) := by rw [Hol.out]; exact hrow
      obtain ⟨b, off, rfl, _, _, q0, q1, q2, q3⟩ := items_at (Cs.of_own hrow' (S := fun _ => True) (fun _ _ => trivial)) hjo
      clear hrow'
      obtain ⟨b2, off2, rfl, _, _, r0, r1, r2, r3⟩ := ritems_at (Cs.of_own hrw (S := fun _ => True) (fun _ _ => trivial)) hlt
      have hx : N.l[j] = os[j].it := by
        have e := Hos.out
        have : N.l[j]? = some os[j].it := by rw [← e]; simp [hjo]
        rw [List.getElem?_eq_getElem hlt] at this
        injection this
      rw [hx] at r0 r1 r2 r3
      clear hx
      have hbo := hbods j hjo (Nat.le_refl _)
      obtain ⟨_, h47, hFj⟩ := hob j hjo
      have hbs : Bs wr.drew (fun _ => True) os[j].bv os[j].it.body := ⟨Cs.of_own hbo.drew (fun _ _ => trivial), h47⟩
      obtain ⟨Ab, cb, ebv⟩ := Own.form hbo
      have Ebv := Lib.hid ebv
      rw [ebv] at q3 hbs hbo hFj
      clear ebv
      have hcq0 := hqw.cell 0
      clear hcq
      go_wp2
      refine wp_region_two [0, 1, 2, 3, 4, 5, 6, 7, 8, 9, 10] [11] [12]
        (fun w' => (w'.cell? ⟨b, off + j * 4, none⟩ = some (.int .i64 os[j].it.id) ∧ w'.cell? ⟨b, off + j * 4 + 1, none⟩ = some (.int .i64 os[j].it.fr) ∧ w'.cell? ⟨b, off + j * 4 + 2, none⟩ = some (.int .i64 os[j].it.rc) ∧ w'.cell? ⟨b, off + j * 4 + 3, none⟩ = some (.slice Ab os[j].it.body.length cb)) ∧
          (w'.cell? ⟨q, 0, none⟩ = some (.slice (some ⟨b2, off2, none⟩) N.l.length capr) ∧ w'.cell? ⟨b2, off2 + j * 4, none⟩ = some (.int .i64 os[j].it.id) ∧ w'.cell? ⟨b2, off2 + j * 4 + 1, none⟩ = some (.int .i64 os[j].it.fr) ∧ w'.cell? ⟨b2, off2 + j * 4 + 2, none⟩ = some (.int .i64 os[j].it.rc) ∧ w'.cell? ⟨b2, off2 + j * 4 + 3, none⟩ = some (.string (str os[j].it.body))))
        (by kernel_rfl) (by kernel_rfl) (by kernel_rfl) (by kernel_rfl) (by kernel_rfl) (by kernel_rfl) (by kernel_rfl) (by kernel_rfl) (by kernel_rfl) ⟨⟨q0, q1, q2, q3⟩, hcq0, r0, r1, r2, r3⟩ ?_
      (repeat (refine HoistK.yes (by rfl) (by rfl) ⟨?_, fun w hSw => ?_, ?_⟩; rotate_left; (· obtain ⟨⟨t0, t1, t2, t3⟩, t4, t5, t6, t7, t8⟩ := hSw; go_simp; try with_reducible rfl); simp only [Act.put, List.setIfInBounds_toArray]))
      refine HoistK.nil_ ?_
      simp only [opsAt, List.filterMap_cons, List.filterMap_nil, List.getElem?_toArray, List.getElem?_cons_succ, List.getElem?_cons_zero]
      refine EffK.cons_ fun _ _ => ?_
      go_wp2_with (go_at_call 14; refine (same_any os[j].it _ _ _ hbs).mono ?_; rintro e w3 ⟨rfl, hb3⟩)
      refine EffK.nil_ ?_
      (repeat (refine HoistK.yes (by rfl) (by rfl) ⟨?_, fun w hSw => ?_, ?_⟩; rotate_left; (· go_simp; try with_reducible rfl); simp only [Act.put, List.setIfInBounds_toArray]))
      refine HoistK.nil_ fun _ _ => ?_
      have hd3 : wr.drew.heap.size = wr.heap.size := rfl
      have hs3 := hb3.size
      have hq3 : w3.cell? ⟨b, off + j * 4 + 3, none⟩ = some (.slice Ab os[j].it.body.length cb) := (cell_same (hb3.block b (by assumption))).trans q3
      have hin := own_keep hbo (fun k hk => hb3.block k (own_lt hbo hk))
      have hbF : ∀ k, (Value.slice Ab os[j].it.body.length cb).ownBlock = some k → k ≠ b := fun k hk e => (hof b rfl).2 j (e ▸ hFj k hk)
      have hb3w : b < w3.heap.size := by omega
      have hcw : ∀ wr', Chg (fun b => (Value.slice Ab os[j].it.body.length cb).ownBlock = some b) w3 wr' → Chg (fun b => (Value.slice Ab os[j].it.body.length cb).ownBlock = some b) wr wr' :=
        fun wr' h => ((Chg.refl _ wr).drew.trans (Chg.of_below hb3 _) (fun _ h => .inl h)).trans h (fun _ h => .inl h)
      have Hcw := Lib.hid hcw; clear hcw
      clear q0 q1 q2 q3 r0 r1 r2 r3 hcq0 hbs
      go_wp2_with fail
      go_loopw [49] (fun i wr => ∃ (k : Nat) (xs : List Value), k ≤ os[j].it.body.length ∧ i = .int .i64 k ∧ Own wr 5 1 (.slice Ab os[j].it.body.length cb) os[j].it.body.length xs ∧ Byts os[j].it.body.length xs ∧
        Chg (fun b => (Value.slice Ab os[j].it.body.length cb).ownBlock = some b) w3 wr) (fun i _ => os[j].it.body.length - (intOf i).toNat)
      case atStart => exact ⟨0, _, Nat.zero_le _, rfl, hin, Byts.u8s _, Chg.refl _ _⟩
      case round =>
        obtain ⟨k, xs, hk, rfl, hxs, hby, hch⟩ := hrel
        have hq4 : wr.cell? ⟨b, off + j * 4 + 3, none⟩ = some (.slice Ab os[j].it.body.length cb) := (cell_same (hch.block b hb3w (fun e => hbF b e rfl))).trans hq3
        by_cases hkm : k < os[j].it.body.length
        · obtain ⟨g, c', e, _, hg⟩ := World.ownsRow.form hxs (by omega)
          simp only [Value.slice.injEq] at e
          obtain ⟨rfl, _, rfl⟩ := e
          obtain ⟨m, hm, hf, hst⟩ := Byts.step hxs hby hkm
          go_wp2
          obtain ⟨xs', ho', hby'⟩ := hst (IntKind.u8.wrap (m + 1))
          go_roundw
          case rel => exact ⟨k + 1, xs', by omega, by go_num, ho', hby', hch.setOf rfl k _⟩
          case measure => simp [intOf]; omega
        · go_wp2
          have hcc := Hcw.out _ hch
          refine ⟨⟨j + 1, by omega, by go_num, own_chg hrow hcc (fun k hk e => (hof k hk).2 j (hFj k e)), fun i h hij => own_chg (hbods i h (by omega)) hcc (fun k hk e => ?_), hbw.trans (hcc.below hbw.size (fun b hb => (hoB j b (hFj b hb)).1)), by have := hcc.size; omega⟩, by simp [intOf]; omega⟩
          have := hFd i j k ((hob i h).2.2 k hk) (hFj k e)
          omega
    · go_wp2
      go_ret
      exact ⟨rfl, hbw⟩

end Go.Proofs.Ythlebfhljmcedaa
