/- Contracts of package net: what a network is in memory; New, Len, find, add, Send. -/
import Derived.Test.YthlebfhljmcedaaNetB
namespace Go.Proofs.Ythlebfhljmcedaa
open Go.RowKit

/-- Behind the pointer to block p lies the network N; what it may write (p, the row of items) lies in S, the items' bytes in B. -/
def NetI (w : World) (p : Nat) (S B : Nat → Prop) (N : NS) : Prop :=
  S p ∧ (∀ b, S b → b < w.heap.size) ∧ (∀ b, B b → b < w.heap.size ∧ ¬ S b) ∧ ∃ v gs, Blk w p 56 #[.int .i64 N.most, .int .i64 N.last, v] ∧ Own w 38 4 v gs.length (flat gs) ∧
    (∀ k, v.ownBlock = some k → S k) ∧ gs.map (·.it) = N.l ∧ (∀ g ∈ gs, Bs w B g.bv g.it.body)
theorem NetI.keep {w w' : World} {p : Nat} {S B : Nat → Prop} {N : NS} (h : NetI w p S B N) (hs : w.heap.size ≤ w'.heap.size) (hk : ∀ b, S b ∨ B b → w'.heap[b]? = w.heap[b]?) : NetI w' p S B N := by
  obtain ⟨h1, h2, h3, v, gs, hb, ho, hv, hl, hbs⟩ := h
  exact ⟨h1, fun b hb => by have := h2 b hb; omega, fun b hb => ⟨by have := (h3 b hb).1; omega, (h3 b hb).2⟩, v, gs, (hk p (.inl h1)).trans hb, own_keep ho (fun k hk' => hk k (.inl (hv k hk'))), hv, hl, fun g hg => (hbs g hg).keep hs (fun b hb _ => hk b (.inr hb))⟩
theorem NetI.lt {w : World} {p : Nat} {S B : Nat → Prop} {N : NS} (h : NetI w p S B N) : ∀ b, S b ∨ B b → b < w.heap.size := fun b hb => hb.elim (h.2.1 b) (fun hb => (h.2.2.1 b hb).1)
theorem NetI.chg {w w' : World} {p : Nat} {S B M : Nat → Prop} {N : NS} (h : NetI w p S B N) (hc : Chg M w w') (hd : ∀ b, S b ∨ B b → ¬ M b) : NetI w' p S B N :=
  h.keep hc.size fun b hb => hc.block b (h.lt b hb) (hd b hb)
theorem NetI.alloc {w : World} {p : Nat} {S B : Nat → Prop} {N : NS} (h : NetI w p S B N) (o : Obj) : NetI (w.alloc o) p S B N :=
  h.keep (by simp) fun b hb => Below.heap_alloc w o b (h.lt b hb)
theorem NetI.below {w w' : World} {p : Nat} {S B : Nat → Prop} {N : NS} (h : NetI w p S B N) (hb : Below w.heap.size w w') : NetI w' p S B N :=
  h.keep hb.size fun b hs => hb.block b (h.lt b hs)
theorem bs_one {w : World} {S : Nat → Prop} {gs : List GI} (h : ∀ g ∈ gs, Bs w S g.bv g.it.body) : ∀ g ∈ gs, g.bv.oneCell' = true := by
  intro g hg
  obtain ⟨A, cap, e⟩ := (h g hg).form
  rw [e]; rfl

theorem new_any (m : Int) (w : World) :
    Calls Try.prog 9 #[.int .i64 m] w fun e w' => e = .returned (.pointer (some ⟨w.heap.size, 0, none⟩)) ∧
      NetI w' w.heap.size (fun b => b = w.heap.size) (fun _ => False) ⟨max m 0, 0, []⟩ ∧ Below w.heap.size w w' := by
  go_enter Try.func9, Try.ntmps9
  have fin : ∀ k : Int, k = max m 0 → NetI (w.alloc (.cells #[.int .i64 k, .int .i64 0, .slice none 0 0] 56)) w.heap.size (fun b => b = w.heap.size) (fun _ => False) ⟨max m 0, 0, []⟩ := by
    intro k hk
    refine ⟨rfl, fun b hb => by subst hb; simp, fun _ h => h.elim, .slice none 0 0, [], ?_, Own.nil_ _ _ _, fun k hk => by simp [Value.ownBlock] at hk, rfl, (fun g hg => by cases hg)⟩
    rw [← hk]; exact Blk.new _ _ _
  go_wp2
  · go_ret
    exact ⟨rfl, fin 0 (by omega), (Below.refl _ w).alloc (Nat.le_refl _) _⟩
  · go_ret
    exact ⟨rfl, fin m (by omega), (Below.refl _ w).alloc (Nat.le_refl _) _⟩

theorem len_any (p : Nat) (S B : Nat → Prop) (N : NS) (w : World) (h : NetI w p S B N) :
    Calls Try.prog 19 #[.pointer (some ⟨p, 0, none⟩)] w fun e w' => e = .returned (.int .i64 N.l.length) ∧ w' = w := by
  obtain ⟨_, _, _, v, gs, hb, ho, _, hl, _⟩ := h
  have hc := hb.cell 2
  have hlen : N.l.length = gs.length := by rw [← hl, List.length_map]
  obtain ⟨A, cap, rfl⟩ := (Cs.of_own ho (S := fun _ => True) (fun _ _ => trivial)).form
  have Hlen := Lib.hid hlen; clear hlen
  go_enter Try.func19, Try.ntmps19
  go_wp2
  go_ret
  exact ⟨by rw [Hlen.out]; rfl, rfl⟩

theorem find_any (p : Nat) (S B : Nat → Prop) (N : NS) (k : Int) (w : World) (h : NetI w p S B N) :
    Calls Try.prog 23 #[.pointer (some ⟨p, 0, none⟩), .int .i64 k] w fun e w' => e = .returned (.int .i64 (atInt N.l k)) ∧ Below w.heap.size w w' := by
  obtain ⟨_, _, _, v, gs, hb, ho, _, hl, _⟩ := h
  have hlt := hb.lt
  have hc := hb.cell 2
  have hcs := Cs.of_own ho (S := fun _ => True) (fun _ _ => trivial)
  have hcs1 := hcs.below ((Below.refl _ w).alloc (Nat.le_refl _) (.cells #[.int .i64 k] 3))
  obtain ⟨A, cap, rfl⟩ := hcs.form
  have Hl := Lib.hid hl; clear hl
  go_enter Try.func23, Try.ntmps23
  go_wp2_with (go_at_call 26; refine (index_any _ gs k w.heap.size (fun _ => True) _ hcs1 (Blk.new _ _ _)).mono ?_; rintro e w1 ⟨rfl, hb1⟩)
  go_ret
  exact ⟨by rw [Hl.out]; rfl, ((Below.refl _ w).alloc (Nat.le_refl _) _).trans (hb1.mono (by simp))⟩

set_option maxHeartbeats 400000 in
/-- add, no room. -/
theorem add_full (p : Nat) (S B : Nat → Prop) (N : NS) (id fr rc : Int) (bv : Value) (w : World) (h : NetI w p S B N) (hfull : N.most ≤ N.l.length) :
    Calls Try.prog 21 #[.pointer (some ⟨p, 0, none⟩), .agg #[.int .i64 id, .int .i64 fr, .int .i64 rc, bv]] w fun e w' => e = .returned (.tuple #[.int .i64 0, .int .i64 42]) ∧ Below w.heap.size w w' := by
  obtain ⟨_, _, _, v, gs, hb, ho, _, hl, _⟩ := h
  have hlt := hb.lt
  have hc := hb.cell
  have hlen : N.l.length = gs.length := by rw [← hl, List.length_map]
  rw [hlen] at hfull
  obtain ⟨A, cap, rfl⟩ := (Cs.of_own ho (S := fun _ => True) (fun _ _ => trivial)).form
  clear hlen hl
  go_enter Try.func21, Try.ntmps21
  go_wp2
  go_quiet (fail)
  go_wp2
  go_ret2
  exact ⟨rfl, below_drewN ((Below.refl _ w).alloc (Nat.le_refl _) _) _⟩

theorem flat_snoc (gs : List GI) (g : GI) : flat (gs ++ [g]) = flat gs ++ g.cells := by rw [flat_append]; simp [flat]

/-- What add leaves, out of what its steps leave. -/
theorem add_fin (p : Nat) (S B : Nat → Prop) (N : NS) (fr rc : Int) (body : List UInt8) (A : Option Addr) (cap : Nat) (gs : List GI) (w W w1 w2 : World) (o : Obj) (A' : Option Addr) (cap' : Nat) (A2 : Option Addr) (cap2 : Nat)
    (hSp : S p) (hS : ∀ b, S b → b < w.heap.size) (hBd : ∀ b, B b → b < w.heap.size ∧ ¬ S b) (hv : ∀ k, (Value.slice A gs.length cap).ownBlock = some k → S k) (hl : gs.map (·.it) = N.l)
    (hbod : ∀ g ∈ gs, Bs W B g.bv g.it.body) (hW : Chg (fun b => b = p) w W) (hb1 : Below W.heap.size W w1) (hbv : Bs w1 (fun b => W.heap.size ≤ b) (.slice A' body.length cap') body)
    (ho3 : Own w2 38 4 (.slice A2 (gs.length + 1) cap2) (gs.length + 1) (flat gs ++ [.int .i64 (N.last + 1), .int .i64 fr, .int .i64 rc, .slice A' body.length cap']))
    (hg3 : Chg (fun b => (Value.slice A gs.length cap).ownBlock = some b) (w1.alloc o) w2)
    (hat3 : (Value.slice A2 (gs.length + 1) cap2).ownBlock = (Value.slice A gs.length cap).ownBlock ∨ (Value.slice A2 (gs.length + 1) cap2).ownBlock = some (w1.alloc o).heap.size)
    (hbp3 : Blk w2 p 56 #[.int .i64 N.most, .int .i64 (N.last + 1), .slice A gs.length cap]) :
    ∃ S' B', NetI (w2.setCell ⟨p, 2, none⟩ (.slice A2 (gs.length + 1) cap2)) p S' B' ⟨N.most, N.last + 1, N.l ++ [⟨N.last + 1, fr, rc, body⟩]⟩ ∧ Upd S B w (w2.setCell ⟨p, 2, none⟩ (.slice A2 (gs.length + 1) cap2)) S' B' := by
  have hp := hS p hSp
  have hs1 := hW.size
  have hs2 := hb1.size
  have hs3 := hg3.size
  simp only [World.size_alloc] at hs3
  have hA : ∀ k, (Value.slice A gs.length cap).ownBlock = some k → k < w.heap.size := fun k hk => hS k (hv k hk)
  have hc1 : Chg (fun _ => False) W (w1.alloc o) := (Chg.of_below hb1 _).alloc o
  have hc2 : Chg (fun b => (Value.slice A gs.length cap).ownBlock = some b) W w2 := (hc1.mono (fun _ h => h.elim)).trans hg3 (fun b hb => .inl hb)
  have hown := own_blk_ne ho3 hbp3 (by decide)
  have hbp4 := hbp3.set_ 2 (.slice A2 (gs.length + 1) cap2)
  refine ⟨fun b => S b ∨ (w1.heap.size < b ∧ b < w2.heap.size), fun b => B b ∨ (W.heap.size ≤ b ∧ b < w1.heap.size), ⟨.inl hSp, fun b hb => ?_, fun b hb => ?_, .slice A2 (gs.length + 1) cap2, gs ++ [⟨⟨N.last + 1, fr, rc, body⟩, .slice A' body.length cap'⟩], hbp4, ?_, ?_, ?_, ?_⟩, ?_, ?_, ?_⟩
  · simp only [World.size_setCell]
    rcases hb with hb | hb
    · have := hS b hb; omega
    · exact hb.2
  · simp only [World.size_setCell]
    rcases hb with hb | hb
    · have := hBd b hb
      exact ⟨by omega, fun h => h.elim this.2 (fun h => by omega)⟩
    · exact ⟨by omega, fun h => h.elim (fun h => by have := hS b h; omega) (fun h => by omega)⟩
  · rw [flat_snoc, List.length_append, List.length_singleton]
    exact own_keep ho3 (fun k hk => Below.heap_setCell _ _ _ _ (fun e => hown (by rw [hk, e])))
  · intro k hk
    have hlt := own_lt ho3 hk
    rcases hat3 with e | e <;> rw [e] at hk
    · exact .inl (hv k hk)
    · simp only [World.size_alloc, Option.some.injEq] at hk
      exact .inr (by omega)
  · simp [hl]
  · intro g hg
    have hM : ∀ b, (B b ∨ (W.heap.size ≤ b ∧ b < w1.heap.size)) → ¬ (b = p) := fun b hb e => by
      subst e
      rcases hb with hb | hb
      · exact (hBd _ hb).2 hSp
      · omega
    have hset : Chg (fun b => b = p) w2 (w2.setCell ⟨p, 2, none⟩ (.slice A2 (gs.length + 1) cap2)) := (Chg.refl _ w2).setIn _ _
    rcases List.mem_append.1 hg with hg | hg
    · have h2 := (hbod g hg).chg hc2 (fun b hb hk => (hBd b hb).2 (hv b hk))
      exact (h2.sub (fun b hb _ => (Or.inl hb : B b ∨ (W.heap.size ≤ b ∧ b < w1.heap.size)))).chg hset hM
    · obtain rfl := List.mem_singleton.1 hg
      have h1 : Bs w1 (fun b => B b ∨ (W.heap.size ≤ b ∧ b < w1.heap.size)) _ _ := hbv.sub (fun b hb hlt => Or.inr ⟨hb, hlt⟩)
      have h2 := (h1.chg ((Chg.refl (fun _ => False) w1).alloc o) (fun _ _ h => h)).chg hg3 (fun b hb hk => hb.elim (fun h => (hBd b h).2 (hv b hk)) (fun h => by have := hA b hk; omega))
      exact h2.chg hset hM
  · refine Chg.setOf ?_ hSp _ _
    exact (hW.mono (fun b hb => hb ▸ hSp)).trans hc2 (fun b hb => .inl (hv b hb))
  · rintro b (hb | hb)
    · exact .inl hb
    · exact .inr (by omega)
  · rintro b (hb | hb)
    · exact .inl hb
    · exact .inr (by omega)

set_option maxHeartbeats 1000000 in
/-- add, room enough. -/
theorem add_room (p : Nat) (S B T : Nat → Prop) (N : NS) (id fr rc : Int) (bv : Value) (body : List UInt8) (w : World) (h : NetI w p S B N) (hroom : (N.l.length : Int) < N.most) (hbs : Bs w T bv body) (hTp : ¬ T p)
    (hl1 : 0 ≤ N.last) (hl2 : N.last ≤ 1000000000000000) (hsz : (N.l.length + 1) * 48 ≤ 140737488355328) :
    Calls Try.prog 21 #[.pointer (some ⟨p, 0, none⟩), .agg #[.int .i64 id, .int .i64 fr, .int .i64 rc, bv]] w fun e w' => e = .returned (.tuple #[.int .i64 (N.last + 1), .int .i64 0]) ∧
      ∃ S' B', NetI w' p S' B' ⟨N.most, N.last + 1, N.l ++ [⟨N.last + 1, fr, rc, body⟩]⟩ ∧ Upd S B w w' S' B' := by
  obtain ⟨hSp, hS, hBd, v, gs, hb, ho, hv, hl, hbodies⟩ := h
  have hBp : ¬ B p := fun h => (hBd p h).2 hSp
  have hlt := hb.lt
  have hc := hb.cell
  have hf := hb.frozen
  have hlen : N.l.length = gs.length := by rw [← hl, List.length_map]
  rw [hlen] at hroom hsz
  obtain ⟨A, cap, rfl⟩ := (Cs.of_own ho (S := fun _ => True) (fun _ _ => trivial)).form
  have Hlen := Lib.hid hlen
  have Hl := Lib.hid hl
  clear hlen hl
  go_enter Try.func21, Try.ntmps21
  go_wp2
  go_quiet (fail)
  go_wp2
  refine at_world (fun W => Blk W p 56 #[.int .i64 N.most, .int .i64 (N.last + 1), .slice A gs.length cap] ∧ Blk W w.heap.size 38 #[.int .i64 (N.last + 1), .int .i64 fr, .int .i64 rc, bv] ∧
    Own W 38 4 (.slice A gs.length cap) gs.length (flat gs) ∧ (∀ g ∈ gs, Bs W B g.bv g.it.body) ∧ Bs W T bv body ∧ Chg (fun b => b = p) w W) ?_ ?_
  · have hne : p ≠ w.heap.size := by omega
    have hcp := ((((Chg.refl (fun b => b = p) w).alloc (.cells #[.int .i64 id, .int .i64 fr, .int .i64 rc, bv] 38)).drewN nq).setCell (p := ⟨p, 1, none⟩) (.inl rfl) (.int .i64 (N.last + 1))).setCell (p := ⟨w.heap.size, 0, none⟩) (.inr (Nat.le_refl _)) (.int .i64 (N.last + 1))
    have hb1 := (((hb.alloc (.cells #[.int .i64 id, .int .i64 fr, .int .i64 rc, bv] 38)).drewN nq).set_ 1 (.int .i64 (N.last + 1))).far (p := ⟨w.heap.size, 0, none⟩) hne (.int .i64 (N.last + 1))
    have hb2 := (((Blk.new w 38 #[.int .i64 id, .int .i64 fr, .int .i64 rc, bv]).drewN nq).far (p := ⟨p, 1, none⟩) hne.symm (.int .i64 (N.last + 1))).set_ 0 (.int .i64 (N.last + 1))
    exact ⟨hb1, hb2, own_keep ho (fun k hk => hcp.block k (own_lt ho hk) (fun e => own_blk_ne ho hb (by decide) (by rw [hk, e]))), fun g hg => (hbodies g hg).chg hcp (fun b hb e => hBp (e ▸ hb)), hbs.chg hcp (fun b hb e => hTp (e ▸ hb)), hcp⟩
  · rintro W ⟨hbp, hbq, hoW, hbodW, hbsW, hchW⟩
    have hcW := hbp.cell
    have hfW := hbp.frozen
    have hqW := hbq.cell
    clear hc hf
    have Hfin := Lib.hid fun w1 w2 o A' cap' A2 cap2 => add_fin p S B N fr rc body A cap gs w W w1 w2 o A' cap' A2 cap2 hSp hS hBd hv Hl.out hbodW hchW
    have hne1 : (Value.slice A gs.length cap).ownBlock ≠ some p := own_blk_ne hoW hbp (by decide)
    have hne2 : (Value.slice A gs.length cap).ownBlock ≠ some w.heap.size := fun e => by have := hS _ (hv _ e); omega
    refine wp_region_hoist [0, 1, 2, 3, 4, 5] [6, 7, 8] [9, 10, 11] (fun w' => w'.cell? ⟨p, 2, none⟩ = some (.slice A gs.length cap) ∧ w'.cell? ⟨w.heap.size, 0, none⟩ = some (.int .i64 (N.last + 1)) ∧ w'.cell? ⟨w.heap.size, 1, none⟩ = some (.int .i64 fr) ∧ w'.cell? ⟨w.heap.size, 2, none⟩ = some (.int .i64 rc) ∧ w'.cell? ⟨w.heap.size, 3, none⟩ = some bv)
      (by kernel_rfl) (by kernel_rfl) (by kernel_rfl) (by kernel_rfl) (by kernel_rfl) (by kernel_rfl) ⟨hcW 2, hqW 0, hqW 1, hqW 2, hqW 3⟩ ?_
    (repeat (refine HoistK.yes (by rfl) (by rfl) ⟨?_, fun w hSw => ?_, ?_⟩; rotate_left; (· go_simp; try with_reducible rfl); simp only [Act.put, List.setIfInBounds_toArray]))
    refine HoistK.nil_ ?_
    simp only [opsAt, List.filterMap_cons, List.filterMap_nil, List.getElem?_toArray, List.getElem?_cons_succ, List.getElem?_cons_zero]
    refine Effects.cons_ fun _ hQ1 => ?_
    go_wp2_with (go_at_call 25; refine (own_any _ _ _ bv body T _ hbsW.drew).mono ?_; rintro e w1 ⟨bv', rfl, hbv', hb1⟩)
    have hbp1 := hbp.drew.below hb1 hbp.lt
    have hbq1 := hbq.drew.below hb1 hbq.lt
    refine hQ1 _ _ ⟨hbp1.cell 2, hbq1.cell 0, hbq1.cell 1, hbq1.cell 2, hbq1.cell 3⟩ (Effects.cons_ fun _ hQ2 => ?_)
    clear hQ1
    obtain ⟨A', cap', rfl⟩ := hbv'.form
    go_wp2_with fail
    have hbp2 := hbp1.alloc (.cells #[.int .i64 (N.last + 1), .int .i64 fr, .int .i64 rc, .slice A' body.length cap'] 38)
    have hbq2 := hbq1.alloc (.cells #[.int .i64 (N.last + 1), .int .i64 fr, .int .i64 rc, .slice A' body.length cap'] 38)
    have ho2 := (own_keep hoW.drew (fun k hk => hb1.block k (own_lt hoW hk))).alloc (.cells #[.int .i64 (N.last + 1), .int .i64 fr, .int .i64 rc, .slice A' body.length cap'] 38)
    refine hQ2 _ _ ⟨hbp2.cell 2, hbq2.cell 0, hbq2.cell 1, hbq2.cell 2, hbq2.cell 3⟩ (Effects.cons_ fun _ hQ3 => ?_)
    clear hQ2
    have hnew : Cs _ _ 4 _ 1 [.int .i64 (N.last + 1), .int .i64 fr, .int .i64 rc, .slice A' body.length cap'] := Cs.of_new w1 38 1 rfl (by decide)
    go_wp2_with (at_builtin; refine wpList_app _ rfl _ _ _ rfl Try.underlying51 info_item rfl (by decide) ho2 rfl hnew rfl (by simp [Value.oneCell']) (by simp only [maxLen]; omega) (by omega) ?_; intro v2 w2 ho3 hg3 hnil3 hat3)
    have hbp3 := hbp2.chg hg3 hne1
    have hbq3 := hbq2.chg hg3 hne2
    obtain ⟨A2, cap2, rfl⟩ := ho3.form
    refine hQ3 _ _ ⟨hbp3.cell 2, hbq3.cell 0, hbq3.cell 1, hbq3.cell 2, hbq3.cell 3⟩ (Effects.nil_ fun _ hQ4 => ?_)
    clear hQ3
    have hcp3 := hbp3.cell
    have hfp3 := hbp3.frozen
    go_wp2
    go_ret2
    exact ⟨rfl, Hfin.out w1 w2 _ A' cap' A2 cap2 ⟨hb1.os, hb1.tape, hb1.output, hb1.size, hb1.block⟩ hbv' ho3 hg3 hat3 hbp3⟩

end Go.Proofs.Ythlebfhljmcedaa
