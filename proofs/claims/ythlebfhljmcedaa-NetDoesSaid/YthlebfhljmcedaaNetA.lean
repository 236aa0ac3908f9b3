/- Contracts of the small functions of package net: Clone of bytes, own, find. -/
import Derived.Test.YthlebfhljmcedaaNetP
import Derived.Deep.QuietTactic
import Derived.BigQuiet
namespace Go.Proofs.Ythlebfhljmcedaa
open Go.RowKit

theorem info_u8 : (Try.prog.info? 5).map (fun i => (i.zero, i.size, i.bytes)) = some (some (.int .u8 0), 1, 1) := by kernel_rfl

/-- slices.Clone at []byte: new bytes, the same ones. -/
theorem clone_any (v : Value) (bs : List UInt8) (S : Nat → Prop) (w : World) (h : Bs w S v bs) :
    Calls Try.prog 28 #[v] w fun e w' => ∃ v', e = .returned v' ∧ Bs w' (fun b => w.heap.size ≤ b) v' bs ∧ Below w.heap.size w w' := by
  obtain ⟨hcs, hb⟩ := h
  have e1 := Lib.run_eql_slice_nil (P := Try.prog)
  have hcs1 := hcs.below ((Below.refl _ w).alloc (Nat.le_refl _) (.cells #[] 5))
  have hs := u8s_one bs
  obtain ⟨hl, A, cap, rfl, hn, hc, hp⟩ := hcs
  rcases A with _ | ad
  · have h0 : bs = [] := by
      rcases Nat.eq_zero_or_pos bs.length with h0 | h0
      · exact List.eq_nil_of_length_eq_zero h0
      · obtain ⟨b, off, h, _⟩ := hp h0
        cases h
    subst h0
    go_enter Try.func28, Try.ntmps28
    go_wp2
    go_ret
    exact ⟨_, rfl, ⟨Cs.nil_ _ _ _, by simp⟩, Below.refl _ _⟩
  · have hcap : (bs.length : Int) ≤ 140737488355328 := by omega
    go_enter Try.func28, Try.ntmps28
    go_wp2_with (at_builtin; refine wpList_app _ rfl _ _ _ rfl Try.underlying30 info_u8 rfl (by decide) (Own.empty w 5 1) rfl hcs1 rfl hs (by simp only [maxLen]; omega) (by omega) ?_; intro v' w1 hown1 hg hnil hat)
    go_ret
    have hcg : Chg (fun _ => False) w w1 := ((Chg.refl _ w).alloc _).trans hg (fun b hb => by simp [Value.ownBlock] at hb; omega)
    refine ⟨v', rfl, ⟨?_, hb⟩, hcg.below (Nat.le_refl _) (fun _ h => h.elim)⟩
    simp only [Nat.zero_add, List.nil_append] at hown1
    exact Cs.of_own hown1 (fun k hk => by
      rcases hat with e | e <;> rw [e] at hk <;> simp [Value.ownBlock] at hk <;> omega)

/-- net.own: the item with bytes of its own. -/
theorem own_any (id fr rc : Int) (v : Value) (bs : List UInt8) (S : Nat → Prop) (w : World) (h : Bs w S v bs) :
    Calls Try.prog 25 #[.agg #[.int .i64 id, .int .i64 fr, .int .i64 rc, v]] w fun e w' =>
      ∃ v', e = .returned (.agg #[.int .i64 id, .int .i64 fr, .int .i64 rc, v']) ∧ Bs w' (fun b => w.heap.size ≤ b) v' bs ∧ Below w.heap.size w w' := by
  obtain ⟨hcs, hb⟩ := h
  go_enter Try.func25, Try.ntmps25
  go_wp2_with fail
  have hbl := (((Below.refl w.heap.size w).alloc (Nat.le_refl _) (.cells #[.int .i64 id, .int .i64 fr, .int .i64 rc, v] 38)).alloc (by simp) (.cells #[.int .i64 0, .int .i64 0, .int .i64 0, .slice none 0 0] 38))
  refine (clone_any v bs S _ ⟨hcs.below hbl, hb⟩).mono ?_
  rintro e w1 ⟨v', rfl, hv', hb1⟩
  have hz : w.heap.size + 1 < w1.heap.size := by have := hb1.size; simp at this; omega
  obtain ⟨hc1, hf1⟩ := (((Blk.new w 38 #[.int .i64 id, .int .i64 fr, .int .i64 rc, v]).alloc (.cells #[.int .i64 0, .int .i64 0, .int .i64 0, .slice none 0 0] 38)).below hb1 (by simp; omega)).rules
  obtain ⟨hc2, hf2⟩ := ((Blk.new (w.alloc (.cells #[.int .i64 id, .int .i64 fr, .int .i64 rc, v] 38)) 38 #[.int .i64 0, .int .i64 0, .int .i64 0, .slice none 0 0]).below hb1 (by simp)).rules
  simp only [World.size_alloc] at hc2 hf2
  obtain ⟨A', cap', rfl⟩ := hv'.form
  go_wp2
  refine bodyPost_ret (v := .agg #[.int .i64 id, .int .i64 fr, .int .i64 rc, .slice A' bs.length cap']) (by simp [results, Try.results25, go_sem, hc2]) rfl ⟨_, rfl, ?_, ?_⟩
  · refine (hv'.chg (M := fun b => b = w.heap.size ∨ b = w.heap.size + 1) ?_ (fun b hb => by simp at hb; omega)).sub (fun b hb _ => by simp at hb; omega)
    (repeat with_reducible refine Chg.setCell ?_ (by simp) _); exact Chg.refl _ _
  · refine ((hbl.trans (hb1.mono (by simp; omega))).trans ?_)
    (repeat with_reducible refine Below.setCell ?_ (by simp) _); exact Below.refl _ _

/-- The closure that find hands on: is it this number? -/
theorem eqid_any (id fr rc : Int) (v : Value) (k : Int) (p : Nat) (w : World) (hp : Blk w p 3 #[.int .i64 k]) :
    Calls Try.prog 27 #[.agg #[.int .i64 id, .int .i64 fr, .int .i64 rc, v], .pointer (some ⟨p, 0, none⟩)] w fun e w' =>
      e = .returned (.bool (id == k)) ∧ Below w.heap.size w w' := by
  have hlt := hp.lt
  obtain ⟨hc, hf⟩ := hp.rules
  go_enter Try.func27, Try.ntmps27
  go_wp2
  go_ret
  exact ⟨rfl, (Below.refl _ _).alloc (Nat.le_refl _) _⟩

/-- slices.IndexFunc over the items, asked by that closure. -/
theorem index_any (v : Value) (gs : List GI) (k : Int) (p : Nat) (S : Nat → Prop) (w : World) (h : Cs w S 4 v gs.length (flat gs)) (hp : Blk w p 3 #[.int .i64 k]) :
    Calls Try.prog 26 #[v, .func (.func 27) #[] #[.pointer (some ⟨p, 0, none⟩)]] w fun e w' =>
      e = .returned (.int .i64 (atInt (gs.map (·.it)) k)) ∧ Below w.heap.size w w' := by
  have hcs := h
  obtain ⟨hl, A, cap, rfl, hn, hc, _⟩ := h
  unfold maxLen at hc
  go_enter Try.func26, Try.ntmps26
  go_wp2_with fail
  go_loopw [8] (fun i wr => ∃ j : Nat, j ≤ gs.length ∧ i = .int .i64 j ∧ Hid (∀ (m : Nat) (y : It), m < j → (gs.map (·.it))[m]? = some y → (y.id == k) = false) ∧ Below w.heap.size w wr) (fun i _ => gs.length - (intOf i).toNat)
  case atStart => exact ⟨0, Nat.zero_le _, rfl, Lib.hid fun m y h => absurd h (by omega), Below.refl _ _⟩
  case round =>
    obtain ⟨j, hj, rfl, hno, hbw⟩ := hrel
    by_cases hlt : j < gs.length
    · obtain ⟨b, off, rfl, _, hb, q0, q1, q2, q3⟩ := items_at (hcs.below hbw) hlt
      have hp1 := hp.below hbw hp.lt
      have hgm : (gs.map (·.it))[j]? = some gs[j].it := by simp [hlt]
      have Hgm := Lib.hid hgm; clear hgm
      by_cases heq : (gs[j].it.id == k) = true
      · go_wp2_with (go_at_call 27; refine (eqid_any _ _ _ _ k p _ hp1).mono ?_; rintro e w1 ⟨rfl, hb1⟩; rw [heq])
        go_ret
        exact ⟨by rw [atInt_found _ _ j _ Hgm.out heq hno.out]; rfl, hbw.trans (hb1.mono hbw.size)⟩
      · have heq' : (gs[j].it.id == k) = false := by simpa using heq
        clear heq
        go_wp2_with (go_at_call 27; refine (eqid_any _ _ _ _ k p _ hp1).mono ?_; rintro e w1 ⟨rfl, hb1⟩; rw [heq'])
        go_roundw
        case rel => exact ⟨j + 1, by omega, by go_num, Lib.hid fun m y hm hy => by
          by_cases e : m = j
          · subst e
            rw [Hgm.out] at hy
            injection hy with hy
            rw [← hy]; exact heq'
          · exact hno.out m y (by omega) hy, hbw.trans (hb1.mono hbw.size)⟩
        case measure => simp [intOf]; omega
    · go_wp2
      go_ret
      refine ⟨?_, hbw⟩
      rw [atInt_none _ _ (fun m y hy => hno.out m y (by have := (List.getElem?_eq_some_iff.1 hy).1; simp at this; omega) hy)]
      rfl

end Go.Proofs.Ythlebfhljmcedaa
