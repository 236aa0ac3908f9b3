/- Contracts of package net: Waiting, its items with bytes in rows of their own, apart from each other. -/
import Derived.Test.YthlebfhljmcedaaNetE
import Derived.Laws.OwnMore
namespace Go.Proofs.Ythlebfhljmcedaa
open Go.RowKit

theorem own_chg {w w' : World} {e : TypeId} {size n : Nat} {v : Value} {xs : List Value} {M : Nat → Prop} (h : Own w e size v n xs) (hc : Chg M w w') (hd : ∀ k, v.ownBlock = some k → ¬ M k) : Own w' e size v n xs :=
  own_keep h fun k hk => hc.block k (own_lt h hk) (hd k hk)

/-- slices.Clone at []byte: a row of its own. -/
theorem clone_own (v : Value) (bs : List UInt8) (S : Nat → Prop) (w : World) (h : Bs w S v bs) :
    Calls Try.prog 28 #[v] w fun e w' => ∃ v', e = .returned v' ∧ Own w' 5 1 v' bs.length (u8s bs) ∧ (∀ k, v'.ownBlock = some k → w.heap.size ≤ k) ∧ Below w.heap.size w w' := by
  obtain ⟨hcs, hb⟩ := h
  have e1 := Lib.run_eql_slice_nil (P := Try.prog)
  have hcs1 := hcs.below ((Below.refl _ w).alloc (Nat.le_refl _) (.cells #[] 5))
  have hs := u8s_one bs
  obtain ⟨hl, A, cap, rfl, hn, hc, hp⟩ := hcs
  rcases A with _ | ad
  · have h0 : bs = [] := by
      rcases Nat.eq_zero_or_pos bs.length with h0 | h0
      · exact List.eq_nil_of_length_eq_zero h0
      · obtain ⟨b, off, h, _⟩ := hp h0
        cases h
    subst h0
    go_enter Try.func28, Try.ntmps28
    go_wp2
    go_ret
    exact ⟨_, rfl, Own.nil_ _ _ _, fun k hk => by simp [Value.ownBlock] at hk, Below.refl _ _⟩
  · have hcap : (bs.length : Int) ≤ 140737488355328 := by omega
    go_enter Try.func28, Try.ntmps28
    go_wp2_with (at_builtin; refine wpList_app _ rfl _ _ _ rfl Try.underlying30 info_u8 rfl (by decide) (Own.empty w 5 1) rfl hcs1 rfl hs (by simp only [maxLen]; omega) (by omega) ?_; intro v' w1 hown1 hg hnil hat)
    go_ret
    have hcg : Chg (fun _ => False) w w1 := ((Chg.refl _ w).alloc _).trans hg (fun b hb => by simp [Value.ownBlock] at hb; omega)
    simp only [Nat.zero_add, List.nil_append] at hown1
    exact ⟨v', rfl, hown1, fun k hk => by rcases hat with e | e <;> rw [e] at hk <;> simp [Value.ownBlock] at hk <;> omega, hcg.below (Nat.le_refl _) (fun _ h => h.elim)⟩

/-- net.own: the item with a row of bytes of its own. -/
theorem own_own (id fr rc : Int) (v : Value) (bs : List UInt8) (S : Nat → Prop) (w : World) (h : Bs w S v bs) :
    Calls Try.prog 25 #[.agg #[.int .i64 id, .int .i64 fr, .int .i64 rc, v]] w fun e w' =>
      ∃ v', e = .returned (.agg #[.int .i64 id, .int .i64 fr, .int .i64 rc, v']) ∧ Own w' 5 1 v' bs.length (u8s bs) ∧ (∀ k, v'.ownBlock = some k → w.heap.size + 2 ≤ k) ∧ Below w.heap.size w w' := by
  obtain ⟨hcs, hb⟩ := h
  go_enter Try.func25, Try.ntmps25
  go_wp2_with fail
  have hbl := (((Below.refl w.heap.size w).alloc (Nat.le_refl _) (.cells #[.int .i64 id, .int .i64 fr, .int .i64 rc, v] 38)).alloc (by simp) (.cells #[.int .i64 0, .int .i64 0, .int .i64 0, .slice none 0 0] 38))
  refine (clone_own v bs S _ ⟨hcs.below hbl, hb⟩).mono ?_
  rintro e w1 ⟨v', rfl, hv', hnew, hb1⟩
  have hz : w.heap.size + 1 < w1.heap.size := by have := hb1.size; simp at this; omega
  obtain ⟨hc1, hf1⟩ := (((Blk.new w 38 #[.int .i64 id, .int .i64 fr, .int .i64 rc, v]).alloc (.cells #[.int .i64 0, .int .i64 0, .int .i64 0, .slice none 0 0] 38)).below hb1 (by simp; omega)).rules
  obtain ⟨hc2, hf2⟩ := ((Blk.new (w.alloc (.cells #[.int .i64 id, .int .i64 fr, .int .i64 rc, v] 38)) 38 #[.int .i64 0, .int .i64 0, .int .i64 0, .slice none 0 0]).below hb1 (by simp)).rules
  simp only [World.size_alloc] at hc2 hf2 hnew
  obtain ⟨A', cap', rfl⟩ := hv'.form
  go_wp2
  refine bodyPost_ret (v := .agg #[.int .i64 id, .int .i64 fr, .int .i64 rc, .slice A' bs.length cap']) (by simp [results, Try.results25, go_sem, hc2]) rfl ⟨_, rfl, ?_, fun k hk => by have := hnew k hk; omega, ?_⟩
  · refine own_chg (M := fun b => b = w.heap.size ∨ b = w.heap.size + 1) hv' ?_ (fun k hk => by have := hnew k hk; omega)
    (repeat with_reducible refine Chg.setCell ?_ (by simp) _); exact Chg.refl _ _
  · refine ((hbl.trans (hb1.mono (by simp; omega))).trans ?_)
    (repeat with_reducible refine Below.setCell ?_ (by simp) _); exact Below.refl _ _

/-- A slice that lists these items; the row's block and the rows of the bytes are new since s, and all apart. -/
def ItemsD (w : World) (s : Nat) (v : Value) (gs : List GI) : Prop :=
  ∃ F : Nat → Nat → Prop, Own w 38 4 v gs.length (flat gs) ∧ (∀ k, v.ownBlock = some k → s ≤ k ∧ ∀ i, ¬ F i k) ∧
    (∀ i (h : i < gs.length), Own w 5 1 gs[i].bv gs[i].it.body.length (u8s gs[i].it.body) ∧ gs[i].it.body.length ≤ 140737488355328 ∧ ∀ k, gs[i].bv.ownBlock = some k → F i k) ∧
    (∀ i b, F i b → s ≤ b ∧ b < w.heap.size) ∧ ∀ i j b, F i b → F j b → i = j

set_option maxHeartbeats 1000000 in
theorem waiting_dis (p : Nat) (S B : Nat → Prop) (N : NS) (w : World) (h : NetI w p S B N) (hsz : N.l.length * 48 ≤ 140737488355328) :
    Calls Try.prog 20 #[.pointer (some ⟨p, 0, none⟩)] w fun e w' => ∃ v os, e = .returned v ∧ ItemsD w' w.heap.size v os ∧ os.map (·.it) = N.l ∧ Below w.heap.size w w' := by
  obtain ⟨hSp, hS, hBd, v, gs, hb, ho, hv, hl, hbodies⟩ := h
  have hlen : N.l.length = gs.length := by rw [← hl, List.length_map]
  rw [hlen] at hsz
  have Hl := Lib.hid hl; clear hl hlen
  have hb0 := hb.lt
  have hc := hb.cell
  obtain ⟨A, cap, rfl⟩ := ho.form
  have hcs := Cs.of_own ho (S := S) hv
  go_enter Try.func20, Try.ntmps20
  go_wp2_with fail
  go_loopw [3, 11] (fun out i wr => ∃ (j : Nat) (o : List GI), j ≤ gs.length ∧ i = .int .i64 j ∧ Hid (o.length = j) ∧ Hid (o.map (·.it) = (gs.map (·.it)).take j) ∧ (∃ A c, out = .slice A o.length c) ∧ ItemsD wr w.heap.size out o ∧ Below w.heap.size w wr) (fun _ i _ => gs.length - (intOf i).toNat)
  case atStart => exact ⟨0, [], Nat.zero_le _, rfl, Lib.hid rfl, Lib.hid rfl, ⟨_, _, rfl⟩, ⟨fun _ _ => False, Own.nil_ _ _ _, fun k hk => by simp [Value.ownBlock] at hk, fun i h => absurd h (by simp), fun _ _ h => h.elim, fun _ _ _ h => h.elim⟩, Below.refl _ _⟩
  case round =>
    obtain ⟨j, o, hj, rfl, hoj, hom, ⟨Ao, co, rfl⟩, ⟨F, hoo, hof, hob, hoB, hFd⟩, hbw⟩ := hrel
    by_cases hlt : j < gs.length
    · obtain ⟨b, off, rfl, hSb, hbl, q0, q1, q2, q3⟩ := items_at (hcs.below hbw) hlt
      have hbody := hbodies _ (List.getElem_mem hlt)
      have hb47 : gs[j].it.body.length ≤ 140737488355328 := hbody.2
      obtain ⟨Ab, cb, hbv⟩ := hbody.form
      rw [hbv] at q3
      have Hbv := Lib.hid hbv; clear hbv
      have hol : o.length = j := hoj.out
      have hszo : o.length < gs.length := by omega
      clear hol
      go_wp2_with fail
      have hbs1 : Bs (wr.alloc (.cells #[.int .i64 gs[j].it.id, .int .i64 gs[j].it.fr, .int .i64 gs[j].it.rc, .slice Ab gs[j].it.body.length cb] 38)) B (.slice Ab gs[j].it.body.length cb) gs[j].it.body :=
        Hbv.out ▸ (hbodies _ (List.getElem_mem hlt)).below (hbw.alloc hbw.size _)
      refine (own_own _ _ _ _ _ B _ hbs1).mono ?_
      rintro e w1 ⟨bv', rfl, hbv', hnew', hb1⟩
      obtain ⟨A', cap', rfl⟩ := hbv'.form
      have hlo : ∀ k, (Value.slice Ao o.length co).ownBlock = some k → k < wr.heap.size := fun k hk => own_lt hoo hk
      have hoo1 := (own_keep (hoo.alloc (.cells #[.int .i64 gs[j].it.id, .int .i64 gs[j].it.fr, .int .i64 gs[j].it.rc, .slice Ab gs[j].it.body.length cb] 38)) (fun k hk => hb1.block k (by simp; have := hlo k hk; omega))).alloc
        (.cells #[.int .i64 gs[j].it.id, .int .i64 gs[j].it.fr, .int .i64 gs[j].it.rc, .slice A' gs[j].it.body.length cap'] 38)
      have hnew : Cs _ _ 4 _ 1 [.int .i64 gs[j].it.id, .int .i64 gs[j].it.fr, .int .i64 gs[j].it.rc, .slice A' gs[j].it.body.length cap'] := Cs.of_new w1 38 1 rfl (by decide)
      clear hbs1
      go_wp2_with (at_builtin; refine wpList_app _ rfl _ _ _ rfl Try.underlying51 info_item rfl (by decide) hoo1 rfl hnew rfl (by simp [Value.oneCell']) (by simp only [maxLen]; omega) (by omega) ?_; intro v2 w2 ho3 hg3 hnil3 hat3)
      have hs1 := hb1.size
      simp only [World.size_alloc] at hs1 hnew'
      have hs2 := hg3.size
      simp only [World.size_alloc] at hs2
      have hsw := hbw.size
      have hcw : Chg (fun b => (Value.slice Ao o.length co).ownBlock = some b) wr w2 := ((Chg.of_below (((Below.refl _ wr).alloc (Nat.le_refl _) _).trans (hb1.mono (by simp))) _).alloc _).trans hg3 (fun b hb => .inl hb)
      have hjo : o.length = j := hoj.out
      obtain ⟨A2, c2, rfl⟩ := ho3.form
      go_roundw
      case rel =>
        refine ⟨j + 1, o ++ [⟨gs[j].it, .slice A' gs[j].it.body.length cap'⟩], by omega, by go_num, Lib.hid (by simp [hoj.out]), Lib.hid ?_, ⟨A2, c2, by simp⟩, ⟨fun i b => (i ≠ j ∧ F i b) ∨ (i = j ∧ wr.heap.size + 1 ≤ b ∧ b < w1.heap.size), ?_, ?_, ?_, ?_, ?_⟩, ?_⟩
        · rw [List.map_append, hom.out, List.map_singleton, List.take_succ_eq_append_getElem (by simpa using hlt)]; simp
        · rw [flat_snoc, List.length_append, List.length_singleton]; exact ho3
        · intro k hk
          rcases hat3 with e | e <;> rw [e] at hk
          · have := hof k hk
            exact ⟨this.1, fun i hb => hb.elim (fun h => this.2 i h.2) (fun h => by have := hlo k hk; omega)⟩
          · simp only [World.size_alloc, Option.some.injEq] at hk
            exact ⟨by omega, fun i hb => hb.elim (fun h => by have := hoB i k h.2; omega) (fun h => by omega)⟩
        · intro i hi
          by_cases hij : i < o.length
          · rw [List.getElem_append_left hij]
            obtain ⟨g1, g2, g3⟩ := hob i hij
            exact ⟨own_keep g1 (fun k hk => hcw.block k (own_lt g1 hk) (fun e => (hof k e).2 i (g3 k hk))), g2, fun k hk => .inl ⟨by omega, g3 k hk⟩⟩
          · obtain rfl : i = o.length := by simp at hi; omega
            rw [List.getElem_append_right (Nat.le_refl _)]
            simp only [Nat.sub_self, List.getElem_cons_zero]
            refine ⟨own_keep (hbv'.alloc _) (fun k hk => hg3.block k (by have := own_lt hbv' hk; simp; omega) (fun e => by have := hlo k e; have := hnew' k hk; omega)), hb47, fun k hk => .inr ⟨hjo, by have := hnew' k hk; omega, own_lt hbv' hk⟩⟩
        · rintro i b (hb | hb)
          · have := hoB i b hb.2; omega
          · omega
        · rintro i i' b (hb | hb) (hb' | hb')
          · exact hFd i i' b hb.2 hb'.2
          · have := hoB i b hb.2; omega
          · have := hoB i' b hb'.2; omega
          · omega
        · exact hbw.trans (hcw.below hbw.size (fun b hb => (hof b hb).1))
      case measure => simp [intOf]; omega
    · go_wp2
      go_ret
      refine ⟨_, rfl, o, ⟨F, hoo, hof, hob, hoB, hFd⟩, ?_, hbw⟩
      rw [hom.out, List.take_of_length_le (by simp; omega), Hl.out]

end Go.Proofs.Ythlebfhljmcedaa
