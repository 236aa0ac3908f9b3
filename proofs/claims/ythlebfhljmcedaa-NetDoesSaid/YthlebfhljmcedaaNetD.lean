/- Contracts of package net: add and Send in one word; Take, Drop, Double. -/
import Derived.Test.YthlebfhljmcedaaNetC
namespace Go.Proofs.Ythlebfhljmcedaa
open Go.RowKit

theorem add_any (p : Nat) (S B T : Nat → Prop) (N : NS) (id fr rc : Int) (bv : Value) (body : List UInt8) (w : World) (h : NetI w p S B N) (hbs : Bs w T bv body) (hTp : ¬ T p)
    (hl1 : 0 ≤ N.last) (hl2 : N.last ≤ 1000000000000000) (hsz : (N.l.length + 1) * 48 ≤ 140737488355328) :
    Calls Try.prog 21 #[.pointer (some ⟨p, 0, none⟩), .agg #[.int .i64 id, .int .i64 fr, .int .i64 rc, bv]] w fun e w' =>
      e = .returned (.tuple #[.int .i64 (N.add fr rc body).2.1, .int .i64 (N.add fr rc body).2.2]) ∧ ∃ S' B', NetI w' p S' B' (N.add fr rc body).1 ∧ Upd S B w w' S' B' := by
  by_cases hfull : N.most ≤ N.l.length
  · refine (add_full p S B N id fr rc bv w h hfull).mono ?_
    rintro e w' ⟨rfl, hb⟩
    have e : N.add fr rc body = (N, 0, 42) := by unfold NS.add; rw [if_pos hfull]
    rw [e]
    exact ⟨rfl, S, B, h.below hb, Upd.of_below hb⟩
  · refine (add_room p S B T N id fr rc bv body w h (by omega) hbs hTp hl1 hl2 hsz).mono ?_
    rintro e w' ⟨rfl, hb⟩
    have e : N.add fr rc body = (⟨N.most, N.last + 1, N.l ++ [⟨N.last + 1, fr, rc, body⟩]⟩, N.last + 1, 0) := by unfold NS.add; rw [if_neg hfull]
    rw [e]
    exact ⟨rfl, hb⟩

theorem send_any (p : Nat) (S B T : Nat → Prop) (N : NS) (fr rc : Int) (bv : Value) (body : List UInt8) (w : World) (h : NetI w p S B N) (hbs : Bs w T bv body) (hTp : ¬ T p)
    (hl1 : 0 ≤ N.last) (hl2 : N.last ≤ 1000000000000000) (hsz : (N.l.length + 1) * 48 ≤ 140737488355328) :
    Calls Try.prog 10 #[.pointer (some ⟨p, 0, none⟩), .int .i64 fr, .int .i64 rc, bv] w fun e w' =>
      e = .returned (.tuple #[.int .i64 (N.add fr rc body).2.1, .int .i64 (N.add fr rc body).2.2]) ∧ ∃ S' B', NetI w' p S' B' (N.add fr rc body).1 ∧ Upd S B w w' S' B' := by
  obtain ⟨A, cap, rfl⟩ := hbs.form
  have H := Lib.hid (add_any p S B T N 0 fr rc _ body w h hbs hTp hl1 hl2 hsz)
  go_enter Try.func10, Try.ntmps10
  go_wp2_with (go_at_call 21; refine H.out.mono ?_; rintro e w1 ⟨rfl, h1⟩; clear h)
  go_ret2
  exact ⟨rfl, h1⟩

/-- Take, no such item. -/
theorem take_none (p : Nat) (S B : Nat → Prop) (N : NS) (k : Int) (w : World) (h : NetI w p S B N) (hk : at_ N.l k = none) :
    Calls Try.prog 12 #[.pointer (some ⟨p, 0, none⟩), .int .i64 k] w fun e w' =>
      e = .returned (.tuple #[.agg #[.int .i64 0, .int .i64 0, .int .i64 0, .slice none 0 0], .int .i64 32]) ∧ Below w.heap.size w w' := by
  have ha : atInt N.l k = -1 := by unfold atInt; rw [hk]
  have hbl := (Below.refl w.heap.size w).alloc (Nat.le_refl _) (.cells #[.int .i64 0, .int .i64 0, .int .i64 0, .slice none 0 0] 38)
  have h1 := h.below hbl
  have H := Lib.hid (find_any p S B N k _ h1)
  rw [ha] at H
  clear ha hk h1
  go_enter Try.func12, Try.ntmps12
  go_wp2_with (go_at_call 23; refine H.out.mono ?_; rintro e w1 ⟨rfl, hb1⟩; obtain ⟨hc1, hf1⟩ := ((Blk.new w 38 #[.int .i64 0, .int .i64 0, .int .i64 0, .slice none 0 0]).below hb1 (by simp)).rules)
  refine bodyPost_ret (v := .tuple #[.agg #[.int .i64 0, .int .i64 0, .int .i64 0, .slice none 0 0], .int .i64 32]) (by simp [results, Try.results12, go_sem, hc1]) rfl ⟨rfl, ?_⟩
  refine ((hbl.trans (hb1.mono (by simp))).trans ?_)
  (repeat with_reducible refine Below.setCell ?_ (by simp) _); exact Below.refl _ _

theorem map_erase {α β : Type} (f : α → β) : ∀ (l : List α) (i : Nat), (l.eraseIdx i).map f = (l.map f).eraseIdx i
  | [], _ => by simp
  | _ :: _, 0 => by simp
  | x :: r, i + 1 => by simp [map_erase f r i]

/-- What Take leaves. -/
theorem take_fin (p : Nat) (S B : Nat → Prop) (N : NS) (i : Nat) (A : Option Addr) (cap : Nat) (gs : List GI) (w w1 w2 : World) (o : Obj) (A2 : Option Addr) (cap2 : Nat) (hil : i < gs.length)
    (hSp : S p) (hS : ∀ b, S b → b < w.heap.size) (hBd : ∀ b, B b → b < w.heap.size ∧ ¬ S b) (hv : ∀ k, (Value.slice A gs.length cap).ownBlock = some k → S k) (hl : gs.map (·.it) = N.l)
    (hbod : ∀ g ∈ gs, Bs w B g.bv g.it.body) (hb1 : Below w.heap.size w w1)
    (ho3 : Own w2 38 4 (.slice A2 (gs.eraseIdx i).length cap2) (gs.eraseIdx i).length (flat (gs.eraseIdx i)))
    (hv2 : (Value.slice A2 (gs.eraseIdx i).length cap2).ownBlock = (Value.slice A gs.length cap).ownBlock)
    (hg3 : Chg (fun b => (Value.slice A gs.length cap).ownBlock = some b) (w1.alloc o) w2)
    (hbp3 : Blk w2 p 56 #[.int .i64 N.most, .int .i64 N.last, .slice A gs.length cap]) (Wf : World)
    (hWf : Chg (fun b => b = w.heap.size) (w2.setCell ⟨p, 2, none⟩ (.slice A2 (gs.eraseIdx i).length cap2)) Wf) :
    Bs Wf B gs[i].bv gs[i].it.body ∧ NetI Wf p S B ⟨N.most, N.last, N.l.eraseIdx i⟩ ∧ Upd S B w Wf S B := by
  have hp := hS p hSp
  have hs2 := hb1.size
  have hs3 := hg3.size
  have hs4 := hWf.size
  simp only [World.size_alloc, World.size_setCell] at hs3 hs4
  have hown := own_blk_ne ho3 hbp3 (by decide)
  have hc : Chg (fun b => b = p ∨ (Value.slice A gs.length cap).ownBlock = some b) w Wf :=
    (((((Chg.of_below hb1 (fun b => b = p ∨ (Value.slice A gs.length cap).ownBlock = some b)).alloc o).trans hg3 (fun b hb => .inl (.inr hb))).setOf (.inl rfl) 2 (.slice A2 (gs.eraseIdx i).length cap2)).trans hWf (fun b hb => .inr (by omega)))
  have hbod' : ∀ g ∈ gs, Bs Wf B g.bv g.it.body := fun g hg => (hbod g hg).chg hc (fun b hb hk => (hBd b hb).2 (hk.elim (fun e => e ▸ hSp) (hv b)))
  have hbp4 := (hbp3.set_ 2 (.slice A2 (gs.eraseIdx i).length cap2)).chg hWf (by omega)
  refine ⟨hbod' _ (List.getElem_mem hil), ⟨hSp, fun b hb => by have := hS b hb; omega, fun b hb => ⟨by have := (hBd b hb).1; omega, (hBd b hb).2⟩, .slice A2 (gs.eraseIdx i).length cap2, gs.eraseIdx i, hbp4, ?_, fun k hk => hv k (hv2 ▸ hk), ?_, ?_⟩,
    hc.mono (fun b hb => hb.elim (fun e => e ▸ hSp) (hv b)), fun b hb => .inl hb, fun b hb => .inl hb⟩
  · refine own_keep ho3 (fun k hk => ?_)
    have hkw := hS k (hv k (hv2 ▸ hk))
    rw [hWf.block k (by simp only [World.size_setCell]; omega) (by omega)]
    exact Below.heap_setCell _ _ _ _ (fun e => hown (by rw [hk, e]))
  · rw [← hl, map_erase]
  · exact fun g hg => hbod' g (List.mem_of_mem_eraseIdx hg)

set_option maxHeartbeats 1000000 in
/-- Take, there is one. -/
theorem take_some (p : Nat) (S B : Nat → Prop) (N : NS) (k : Int) (i : Nat) (w : World) (h : NetI w p S B N) (hk : at_ N.l k = some i) (hsz : N.l.length * 48 ≤ 140737488355328) :
    Calls Try.prog 12 #[.pointer (some ⟨p, 0, none⟩), .int .i64 k] w fun e w' => ∃ x bv, N.l[i]? = some x ∧
      e = .returned (.tuple #[.agg #[.int .i64 x.id, .int .i64 x.fr, .int .i64 x.rc, bv], .int .i64 0]) ∧ Bs w' B bv x.body ∧ NetI w' p S B ⟨N.most, N.last, N.l.eraseIdx i⟩ ∧ Upd S B w w' S B := by
  have ha : atInt N.l k = i := by unfold atInt; rw [hk]
  have hbl := (Below.refl w.heap.size w).alloc (Nat.le_refl _) (.cells #[.int .i64 0, .int .i64 0, .int .i64 0, .slice none 0 0] 38)
  have h1 := h.below hbl
  have H := Lib.hid (find_any p S B N k _ h1)
  rw [ha] at H
  have hil := at_lt hk
  clear ha hk h1
  obtain ⟨hSp, hS, hBd, v, gs, hb, ho, hv, hl, hbodies⟩ := h
  have hBp : ¬ B p := fun h => (hBd p h).2 hSp
  have hlen : N.l.length = gs.length := by rw [← hl, List.length_map]
  rw [hlen] at hil hsz
  obtain ⟨A, cap, rfl⟩ := ho.form
  have Hl := Lib.hid hl; clear hl hlen
  obtain ⟨b, off, rfl, hSb, _, _⟩ := items_at (Cs.of_own ho (S := S) hv) hil
  have hne : b ≠ p := fun e => own_blk_ne ho hb (by decide) (by rw [← e]; rfl)
  have h1g := bs_one hbodies
  obtain ⟨Ab, cb, hbv⟩ := (hbodies _ (List.getElem_mem hil)).form
  have Hbv := Lib.hid hbv; clear hbv
  have hi0 : (0 : Int) ≤ (i : Int) := Int.natCast_nonneg _
  have hi1 : (i : Int) + 1 ≤ (gs.length : Int) := by omega
  have hi2 : ¬ ((i : Int) < 0) := by omega
  go_enter Try.func12, Try.ntmps12
  go_wp2_with (go_at_call 23; refine H.out.mono ?_; rintro e w1 ⟨rfl, hb1⟩
               have hp1 := ((hb.alloc (.cells #[.int .i64 0, .int .i64 0, .int .i64 0, .slice none 0 0] 38)).below hb1 (by simp; have := hb.lt; omega))
               have hcp1 := hp1.cell; have hltp1 := hp1.lt
               have hq1 := (Blk.new w 38 #[.int .i64 0, .int .i64 0, .int .i64 0, .slice none 0 0]).below hb1 (by simp)
               have ho1 := own_keep ho (fun k hk => (hbl.trans (hb1.mono (by simp))).block k (own_lt ho hk))
               obtain ⟨b', off', e', _, _, q0, q1, q2, q3⟩ := items_at (Cs.of_own ho1 (S := fun _ => True) (fun _ _ => trivial)) hil
               obtain ⟨rfl, rfl⟩ : b' = b ∧ off' = off := by injection e' with e'; injection e' with e1 e2; exact ⟨e1.symm, e2.symm⟩
               clear e'
               rw [Hbv.out] at q3)
  have ho2 := ho1.alloc (.cells #[.int .i64 gs[i].it.id, .int .i64 gs[i].it.fr, .int .i64 gs[i].it.rc, .slice Ab gs[i].it.body.length cb] 38)
  have hp2 := hp1.alloc (.cells #[.int .i64 gs[i].it.id, .int .i64 gs[i].it.fr, .int .i64 gs[i].it.rc, .slice Ab gs[i].it.body.length cb] 38)
  have hq2 := hq1.alloc (.cells #[.int .i64 gs[i].it.id, .int .i64 gs[i].it.fr, .int .i64 gs[i].it.rc, .slice Ab gs[i].it.body.length cb] 38)
  have hr2 := Blk.new w1 38 #[.int .i64 gs[i].it.id, .int .i64 gs[i].it.fr, .int .i64 gs[i].it.rc, .slice Ab gs[i].it.body.length cb]
  refine (del_any _ gs i hil h1g _ ho2 hsz).mono ?_
  rintro e w2 ⟨v2, rfl, hv2, ho3, hg3⟩
  obtain ⟨A2, cap2, rfl⟩ := ho3.form
  have hbw : b' < w.heap.size := hS b' hSb
  have hz1 : w.heap.size < w1.heap.size := hq1.lt
  have hp3 := hp2.chg hg3 (fun e => hne (by injection e))
  have hq3 := hq2.chg hg3 (fun e => by have : b' = w.heap.size := by injection e
                                       omega)
  have hr3 := hr2.chg hg3 (fun e => by have : b' = w1.heap.size := by injection e
                                       omega)
  have hcp3 := hp3.cell
  have hfp3 := hp3.frozen
  have hcq3 := hq3.cell
  have hfq3 := hq3.frozen
  have hcr3 := hr3.cell
  have hfr3 := hr3.frozen
  have hzz1 := hr3.lt
  have hn1 : p ≠ w.heap.size := by have := hb.lt; omega
  have hn2 : p ≠ w1.heap.size := by have := hb.lt; omega
  have hn3 : w.heap.size ≠ w1.heap.size := by omega
  clear hcp1
  go_wp2_with fail
  refine bodyPost_ret (v := .tuple #[.agg #[.int .i64 gs[i].it.id, .int .i64 gs[i].it.fr, .int .i64 gs[i].it.rc, .slice Ab gs[i].it.body.length cb], .int .i64 0]) (by simp [results, Try.results12, go_sem, hcq3]) rfl ?_
  have hfin := take_fin p S B N i _ cap gs w w1 w2 _ A2 cap2 hil hSp hS hBd hv Hl.out hbodies (hbl.trans (hb1.mono (by simp))) ho3 hv2 hg3 hp3
  refine ⟨gs[i].it, _, ?_, rfl, ?_⟩
  · rw [← Hl.out, List.getElem?_map, List.getElem?_eq_getElem hil]; rfl
  · rw [← Hbv.out]
    refine hfin _ ?_
    exact ((((Chg.refl _ _).setIn _ _).setIn _ _).setIn _ _).setIn _ _

theorem take_any (p : Nat) (S B : Nat → Prop) (N : NS) (k : Int) (w : World) (h : NetI w p S B N) (hsz : N.l.length * 48 ≤ 140737488355328) :
    Calls Try.prog 12 #[.pointer (some ⟨p, 0, none⟩), .int .i64 k] w fun e w' => ∃ bv,
      e = .returned (.tuple #[.agg #[.int .i64 (N.take k).2.1.id, .int .i64 (N.take k).2.1.fr, .int .i64 (N.take k).2.1.rc, bv], .int .i64 (N.take k).2.2]) ∧ Bs w' B bv (N.take k).2.1.body ∧ NetI w' p S B (N.take k).1 ∧ Upd S B w w' S B := by
  cases hk : at_ N.l k with
  | none =>
    refine (take_none p S B N k w h hk).mono ?_
    rintro e w' ⟨rfl, hb⟩
    have e : N.take k = (N, ⟨0, 0, 0, []⟩, 32) := by unfold NS.take; rw [hk]
    rw [e]
    exact ⟨_, rfl, Bs.nil_ _ _, h.below hb, Upd.of_below hb⟩
  | some i =>
    refine (take_some p S B N k i w h hk hsz).mono ?_
    rintro e w' ⟨x, bv, hx, rfl, hb, hn, hu⟩
    have e : N.take k = (⟨N.most, N.last, N.l.eraseIdx i⟩, x, 0) := by unfold NS.take; rw [hk]; simp [List.getD, hx]
    rw [e]
    exact ⟨bv, rfl, hb, hn, hu⟩

theorem drop_any (p : Nat) (S B : Nat → Prop) (N : NS) (k : Int) (w : World) (h : NetI w p S B N) (hsz : N.l.length * 48 ≤ 140737488355328) :
    Calls Try.prog 15 #[.pointer (some ⟨p, 0, none⟩), .int .i64 k] w fun e w' =>
      e = .returned (.int .i64 (N.take k).2.2) ∧ NetI w' p S B (N.take k).1 ∧ Upd S B w w' S B := by
  have H := Lib.hid (take_any p S B N k w h hsz)
  clear h
  go_enter Try.func15, Try.ntmps15
  go_wp2_with (go_at_call 12; refine H.out.mono ?_; rintro e w1 ⟨bv, rfl, hb, hn, hu⟩; obtain ⟨A', cap', rfl⟩ := hb.form)
  go_ret
  exact ⟨rfl, hn.alloc _, hu.alloc _⟩

theorem double_any (p : Nat) (S B : Nat → Prop) (N : NS) (k : Int) (w : World) (h : NetI w p S B N) (hl1 : 0 ≤ N.last) (hl2 : N.last ≤ 1000000000000000) (hsz : (N.l.length + 1) * 48 ≤ 140737488355328) :
    Calls Try.prog 16 #[.pointer (some ⟨p, 0, none⟩), .int .i64 k] w fun e w' =>
      e = .returned (.tuple #[.int .i64 (N.double k).2.1, .int .i64 (N.double k).2.2]) ∧ ∃ S' B', NetI w' p S' B' (N.double k).1 ∧ Upd S B w w' S' B' := by
  have H := Lib.hid (find_any p S B N k _ h)
  cases hk : at_ N.l k with
  | none =>
    have ha : atInt N.l k = -1 := by unfold atInt; rw [hk]
    have hd : N.double k = (N, 0, 32) := by unfold NS.double; rw [hk]
    rw [hd]
    rw [ha] at H
    have hkeep := Lib.hid fun w' (hb : Below w.heap.size w w') => h.below hb
    clear ha hd hk h
    go_enter Try.func16, Try.ntmps16
    go_wp2_with (go_at_call 23; refine H.out.mono ?_; rintro e w1 ⟨rfl, hb1⟩)
    go_ret2
    exact ⟨rfl, S, B, hkeep.out _ hb1, Upd.of_below hb1⟩
  | some i =>
    have ha : atInt N.l k = i := by unfold atInt; rw [hk]
    rw [ha] at H
    have hil := at_lt hk
    have hnet := Lib.hid h
    obtain ⟨hSp, hS, hBd, v, gs, hb, ho, hv, hl, hbodies⟩ := h
    have hBp : ¬ B p := fun h => (hBd p h).2 hSp
    have hlen : N.l.length = gs.length := by rw [← hl, List.length_map]
    have hsz' := Lib.hid hsz
    rw [hlen] at hil hsz
    have hd : N.double k = N.add gs[i].it.fr gs[i].it.rc gs[i].it.body := by
      have hx : N.l.getD i ⟨0, 0, 0, []⟩ = gs[i].it := by
        simp only [← hl, List.getD]
        rw [List.getElem?_map, List.getElem?_eq_getElem hil]
        rfl
      unfold NS.double; rw [hk]; simp only [hx]
    rw [hd]
    clear ha hd hk hl hlen
    obtain ⟨A, cap, rfl⟩ := ho.form
    have hb0 := hb.lt
    have hi0 : (0 : Int) ≤ (i : Int) := Int.natCast_nonneg _
    have hi1 : (i : Int) + 1 ≤ (gs.length : Int) := by omega
    have hi2 : ¬ ((i : Int) < 0) := by omega
    obtain ⟨Ab, cb, hbv⟩ := (hbodies _ (List.getElem_mem hil)).form
    have Hbv := Lib.hid hbv; clear hbv
    go_enter Try.func16, Try.ntmps16
    go_wp2_with (go_at_call 23; refine H.out.mono ?_; rintro e w1 ⟨rfl, hb1⟩
                 have hp1 := hb.below hb1 hb0
                 have hcp1 := hp1.cell
                 have ho1 := own_keep ho (fun k hk => hb1.block k (own_lt ho hk))
                 obtain ⟨b', off', rfl, _, _, q0, q1, q2, q3⟩ := items_at (Cs.of_own ho1 (S := fun _ => True) (fun _ _ => trivial)) hil
                 rw [Hbv.out] at q3)
    have hn1 := hnet.out.below hb1
    have hbs1 := (hbodies _ (List.getElem_mem hil)).below hb1
    rw [Hbv.out] at hbs1
    refine (add_any p S B B N _ _ _ _ _ _ hn1 hbs1 hBp hl1 hl2 hsz'.out).mono ?_
    rintro e w2 ⟨rfl, S', B', hN', hu'⟩
    clear hn1
    go_wp2
    go_ret2
    exact ⟨rfl, S', B', hN', (Upd.of_below hb1).trans hu'⟩

end Go.Proofs.Ythlebfhljmcedaa
