/- Contracts of package net: Waiting. -/
import Derived.Test.YthlebfhljmcedaaNetD
namespace Go.Proofs.Ythlebfhljmcedaa
open Go.RowKit

/-- A slice that lists these items: the row, and the items' bytes apart from it; all of it in blocks of S. -/
def ItemsI (w : World) (S : Nat → Prop) (v : Value) (l : List It) : Prop :=
  ∃ gs B, Own w 38 4 v gs.length (flat gs) ∧ (∀ k, v.ownBlock = some k → S k ∧ ¬ B k) ∧ gs.map (·.it) = l ∧ (∀ g ∈ gs, Bs w B g.bv g.it.body) ∧ (∀ b, B b → S b)

set_option maxHeartbeats 1000000 in
theorem waiting_any (p : Nat) (S B : Nat → Prop) (N : NS) (w : World) (h : NetI w p S B N) (hsz : N.l.length * 48 ≤ 140737488355328) :
    Calls Try.prog 20 #[.pointer (some ⟨p, 0, none⟩)] w fun e w' => ∃ v, e = .returned v ∧ ItemsI w' (fun b => w.heap.size ≤ b) v N.l ∧ Below w.heap.size w w' := by
  obtain ⟨hSp, hS, hBd, v, gs, hb, ho, hv, hl, hbodies⟩ := h
  have hlen : N.l.length = gs.length := by rw [← hl, List.length_map]
  rw [hlen] at hsz
  have Hl := Lib.hid hl; clear hl hlen
  have hb0 := hb.lt
  have hc := hb.cell
  obtain ⟨A, cap, rfl⟩ := ho.form
  have hcs := Cs.of_own ho (S := S) hv
  go_enter Try.func20, Try.ntmps20
  go_wp2_with fail
  go_loopw [3, 11] (fun out i wr => ∃ (j : Nat) (o : List GI) (B' : Nat → Prop), j ≤ gs.length ∧ i = .int .i64 j ∧ Hid (o.length = j) ∧ Hid (o.map (·.it) = (gs.map (·.it)).take j) ∧ Own wr 38 4 out o.length (flat o) ∧
      (∀ k, out.ownBlock = some k → w.heap.size ≤ k ∧ ¬ B' k) ∧ (∀ g ∈ o, Bs wr B' g.bv g.it.body) ∧ (∀ b, B' b → w.heap.size ≤ b ∧ b < wr.heap.size) ∧ Below w.heap.size w wr) (fun _ i _ => gs.length - (intOf i).toNat)
  case atStart => exact ⟨0, [], fun _ => False, Nat.zero_le _, rfl, Lib.hid rfl, Lib.hid rfl, Own.nil_ _ _ _, fun k hk => by simp [Value.ownBlock] at hk, (fun g hg => by cases hg), fun _ h => h.elim, Below.refl _ _⟩
  case round =>
    obtain ⟨j, o, B', hj, rfl, hoj, hom, hoo, hof, hob, hoB, hbw⟩ := hrel
    by_cases hlt : j < gs.length
    · obtain ⟨b, off, rfl, hSb, hbl, q0, q1, q2, q3⟩ := items_at (hcs.below hbw) hlt
      obtain ⟨Ab, cb, hbv⟩ := (hbodies _ (List.getElem_mem hlt)).form
      rw [hbv] at q3
      have Hbv := Lib.hid hbv; clear hbv
      obtain ⟨Ao, co, rfl⟩ := hoo.form
      have hol : o.length = j := hoj.out
      have hszo : o.length < gs.length := by omega
      clear hol
      go_wp2_with fail
      have hbs1 : Bs (wr.alloc (.cells #[.int .i64 gs[j].it.id, .int .i64 gs[j].it.fr, .int .i64 gs[j].it.rc, .slice Ab gs[j].it.body.length cb] 38)) B (.slice Ab gs[j].it.body.length cb) gs[j].it.body :=
        Hbv.out ▸ (hbodies _ (List.getElem_mem hlt)).below (hbw.alloc hbw.size _)
      refine (own_any _ _ _ _ _ B _ hbs1).mono ?_
      rintro e w1 ⟨bv', rfl, hbv', hb1⟩
      obtain ⟨A', cap', rfl⟩ := hbv'.form
      have hlo : ∀ k, (Value.slice Ao o.length co).ownBlock = some k → k < wr.heap.size := fun k hk => own_lt hoo hk
      have hoo1 := (own_keep (hoo.alloc (.cells #[.int .i64 gs[j].it.id, .int .i64 gs[j].it.fr, .int .i64 gs[j].it.rc, .slice Ab gs[j].it.body.length cb] 38)) (fun k hk => hb1.block k (by simp; have := hlo k hk; omega))).alloc
        (.cells #[.int .i64 gs[j].it.id, .int .i64 gs[j].it.fr, .int .i64 gs[j].it.rc, .slice A' gs[j].it.body.length cap'] 38)
      have hnew : Cs _ _ 4 _ 1 [.int .i64 gs[j].it.id, .int .i64 gs[j].it.fr, .int .i64 gs[j].it.rc, .slice A' gs[j].it.body.length cap'] := Cs.of_new w1 38 1 rfl (by decide)
      clear hbs1
      go_wp2_with (at_builtin; refine wpList_app _ rfl _ _ _ rfl Try.underlying51 info_item rfl (by decide) hoo1 rfl hnew rfl (by simp [Value.oneCell']) (by simp only [maxLen]; omega) (by omega) ?_; intro v2 w2 ho3 hg3 hnil3 hat3)
      have hs1 := hb1.size
      simp only [World.size_alloc] at hs1
      have hs2 := hg3.size
      simp only [World.size_alloc] at hs2
      have hsw := hbw.size
      have hcw : Chg (fun b => (Value.slice Ao o.length co).ownBlock = some b) wr w2 := ((Chg.of_below (((Below.refl _ wr).alloc (Nat.le_refl _) _).trans (hb1.mono (by simp))) _).alloc _).trans hg3 (fun b hb => .inl hb)
      go_roundw
      case rel =>
        refine ⟨j + 1, o ++ [⟨gs[j].it, .slice A' gs[j].it.body.length cap'⟩], fun b => B' b ∨ (wr.heap.size + 1 ≤ b ∧ b < w1.heap.size), by omega, by go_num, Lib.hid (by simp [hoj.out]), Lib.hid ?_, ?_, ?_, ?_, ?_, ?_⟩
        · rw [List.map_append, hom.out, List.map_singleton, List.take_succ_eq_append_getElem (by simpa using hlt)]; simp
        · rw [flat_snoc, List.length_append, List.length_singleton]; exact ho3
        · intro k hk
          rcases hat3 with e | e <;> rw [e] at hk
          · have := hof k hk
            exact ⟨this.1, fun hb => hb.elim this.2 (fun h => by have := hlo k hk; omega)⟩
          · simp only [World.size_alloc, Option.some.injEq] at hk
            exact ⟨by omega, fun hb => hb.elim (fun h => by have := hoB k h; omega) (fun h => by omega)⟩
        · intro g hg
          rcases List.mem_append.1 hg with hg | hg
          · exact ((hob g hg).chg hcw (fun b hb hk => (hof b hk).2 hb)).sub (fun b hb _ => .inl hb)
          · obtain rfl := List.mem_singleton.1 hg
            have h1 : Bs w1 (fun b => B' b ∨ (wr.heap.size + 1 ≤ b ∧ b < w1.heap.size)) _ _ := hbv'.sub (fun b hb hlt => Or.inr ⟨by simpa using hb, hlt⟩)
            exact (h1.chg ((Chg.refl (fun _ => False) w1).alloc _) (fun _ _ h => h)).chg hg3 (fun b hb hk => hb.elim (hof b hk).2 (fun h => by have := hlo b hk; omega))
        · rintro b (hb | hb)
          · have := hoB b hb; omega
          · omega
        · exact hbw.trans (hcw.below hbw.size (fun b hb => (hof b hb).1))
      case measure => simp [intOf]; omega
    · go_wp2
      go_ret
      refine ⟨_, rfl, ⟨o, B', hoo, hof, ?_, hob, fun b hb => (hoB b hb).1⟩, hbw⟩
      rw [hom.out, List.take_of_length_le (by simp; omega), Hl.out]

/-! The contracts, what they come to given as an equation. -/
section
variable {p : Nat} {S B : Nat → Prop} {N N' : NS} {w : World}
theorem new_to (m : Int) (w : World) :
    Calls Try.prog 9 #[.int .i64 m] w fun e w' => ∃ p S B, e = .returned (.pointer (some ⟨p, 0, none⟩)) ∧ NetI w' p S B ⟨max m 0, 0, []⟩ ∧ Upd (New w) (New w) w w' S B :=
  (new_any m w).mono fun _ _ ⟨he, hn, hb⟩ => ⟨_, _, _, he, hn, Chg.of_below hb _, fun _ hb => .inl (Nat.le_of_eq hb.symm), fun _ h => h.elim⟩
theorem send_to {T : Nat → Prop} {fr rc i e : Int} {bv : Value} {body : List UInt8} (h : NetI w p S B N) (hN : N.add fr rc body = (N', i, e)) (hbs : Bs w T bv body) (hTp : ¬ T p)
    (hl1 : 0 ≤ N.last) (hl2 : N.last ≤ 1000000000000000) (hsz : (N.l.length + 1) * 48 ≤ 140737488355328) :
    Calls Try.prog 10 #[.pointer (some ⟨p, 0, none⟩), .int .i64 fr, .int .i64 rc, bv] w fun r w' => r = .returned (.tuple #[.int .i64 i, .int .i64 e]) ∧ ∃ S' B', NetI w' p S' B' N' ∧ Upd S B w w' S' B' := by
  have := send_any p S B T N fr rc bv body w h hbs hTp hl1 hl2 hsz
  rw [hN] at this
  exact this
theorem take_to {k e : Int} {x : It} (h : NetI w p S B N) (hN : N.take k = (N', x, e)) (hsz : N.l.length * 48 ≤ 140737488355328) :
    Calls Try.prog 12 #[.pointer (some ⟨p, 0, none⟩), .int .i64 k] w fun r w' => ∃ bv, r = .returned (.tuple #[.agg #[.int .i64 x.id, .int .i64 x.fr, .int .i64 x.rc, bv], .int .i64 e]) ∧
      Bs w' B bv x.body ∧ NetI w' p S B N' ∧ Upd S B w w' S B := by
  have := take_any p S B N k w h hsz
  rw [hN] at this
  exact this
theorem drop_to {k e : Int} {x : It} (h : NetI w p S B N) (hN : N.take k = (N', x, e)) (hsz : N.l.length * 48 ≤ 140737488355328) :
    Calls Try.prog 15 #[.pointer (some ⟨p, 0, none⟩), .int .i64 k] w fun r w' => r = .returned (.int .i64 e) ∧ NetI w' p S B N' ∧ Upd S B w w' S B := by
  have := drop_any p S B N k w h hsz
  rw [hN] at this
  exact this
theorem double_to {k i e : Int} (h : NetI w p S B N) (hN : N.double k = (N', i, e)) (hl1 : 0 ≤ N.last) (hl2 : N.last ≤ 1000000000000000) (hsz : (N.l.length + 1) * 48 ≤ 140737488355328) :
    Calls Try.prog 16 #[.pointer (some ⟨p, 0, none⟩), .int .i64 k] w fun r w' => r = .returned (.tuple #[.int .i64 i, .int .i64 e]) ∧ ∃ S' B', NetI w' p S' B' N' ∧ Upd S B w w' S' B' := by
  have := double_any p S B N k w h hl1 hl2 hsz
  rw [hN] at this
  exact this
end

end Go.Proofs.Ythlebfhljmcedaa
