/- Contracts of the reference network: add, Send, Take, Double. -/
import Derived.Test.YthlebfhljmcedaaNetE
namespace Go.Proofs.Ythlebfhljmcedaa
open Go.RowKit

def It.rcells (x : It) : List Value := [.int .i64 x.id, .int .i64 x.fr, .int .i64 x.rc, .string (str x.body)]
def flatR (l : List It) : List Value := l.flatMap It.rcells
theorem flatR_length (l : List It) : (flatR l).length = l.length * 4 := by
  induction l with
  | nil => rfl
  | cons g r ih => simp only [flatR, List.flatMap_cons, List.length_append, List.length_cons] at ih ⊢; simp only [It.rcells, List.length_cons, List.length_nil]; omega
theorem flatR_cons (g : It) (l : List It) : flatR (g :: l) = g.rcells ++ flatR l := by simp [flatR]
theorem flatR_append (a b : List It) : flatR (a ++ b) = flatR a ++ flatR b := by simp [flatR]
theorem flatR_get (l : List It) : ∀ (k : Nat) (g : It), l[k]? = some g → ∀ j, j < 4 → (flatR l)[k * 4 + j]? = g.rcells[j]? := by
  induction l with
  | nil => intro k g h; simp at h
  | cons x r ih =>
    intro k g h j hj
    rw [flatR_cons]
    rcases k with _ | k
    · obtain rfl : x = g := by simpa using h
      rw [List.getElem?_append_left (by simp [It.rcells]; omega)]
      simp
    · rw [List.getElem?_append_right (by simp [It.rcells]; omega)]
      have h' : r[k]? = some g := by simpa using h
      rw [← ih k g h' j hj]
      congr 1
      simp [It.rcells]; omega
theorem flatR_take (l : List It) (k : Nat) : (flatR l).take (k * 4) = flatR (l.take k) := by
  induction l generalizing k with
  | nil => simp [flatR]
  | cons x r ih =>
    rcases k with _ | k
    · simp [flatR]
    · rw [List.take_succ_cons, flatR_cons, flatR_cons, List.take_append, ← ih k]
      have : (k + 1) * 4 - x.rcells.length = k * 4 := by simp [It.rcells]; omega
      rw [this, List.take_of_length_le (by simp [It.rcells]; omega)]
theorem flatR_drop (l : List It) (k : Nat) : (flatR l).drop (k * 4) = flatR (l.drop k) := by
  induction l generalizing k with
  | nil => simp [flatR]
  | cons x r ih =>
    rcases k with _ | k
    · simp [flatR]
    · rw [List.drop_succ_cons, flatR_cons, List.drop_append, ← ih k]
      have : (k + 1) * 4 - x.rcells.length = k * 4 := by simp [It.rcells]; omega
      rw [this, List.drop_of_length_le (by simp [It.rcells]; omega), List.nil_append]
theorem flatR_one (l : List It) : ∀ u ∈ flatR l, u.oneCell' = true := by
  intro u hu
  simp only [flatR, List.mem_flatMap, It.rcells, List.mem_cons, List.not_mem_nil, or_false] at hu
  obtain ⟨g, _, rfl | rfl | rfl | rfl⟩ := hu <;> rfl
theorem ritems_at {w : World} {S : Nat → Prop} {A : Option Addr} {n cap : Nat} {l : List It} (h : Cs w S 4 (.slice A n cap) l.length (flatR l)) {k : Nat} (hk : k < l.length) :
    ∃ b off, A = some ⟨b, off, none⟩ ∧ S b ∧ b < w.heap.size ∧ w.cell? ⟨b, off + k * 4, none⟩ = some (.int .i64 l[k].id) ∧ w.cell? ⟨b, off + k * 4 + 1, none⟩ = some (.int .i64 l[k].fr) ∧
      w.cell? ⟨b, off + k * 4 + 2, none⟩ = some (.int .i64 l[k].rc) ∧ w.cell? ⟨b, off + k * 4 + 3, none⟩ = some (.string (str l[k].body)) := by
  obtain ⟨_, A', cap', e, _, _, hp⟩ := h
  injection e with e1 e2 e3
  subst e1
  obtain ⟨b, off, rfl, hs, hb, hc⟩ := hp (by omega)
  have f := flatR_get l k _ (List.getElem?_eq_getElem hk)
  exact ⟨b, off, rfl, hs, hb, hc _ _ (f 0 (by omega)), by rw [Nat.add_assoc]; exact hc _ _ (f 1 (by omega)), by rw [Nat.add_assoc]; exact hc _ _ (f 2 (by omega)), by rw [Nat.add_assoc]; exact hc _ _ (f 3 (by omega))⟩

/-- Behind the pointer to block q lies the reference's network N; what it may write lies in S. -/
def RefI (w : World) (q : Nat) (S : Nat → Prop) (N : NS) : Prop :=
  S q ∧ (∀ b, S b → b < w.heap.size) ∧ ∃ v, Blk w q 29 #[v, .int .i64 N.most, .int .i64 N.last] ∧ Own w 42 4 v N.l.length (flatR N.l) ∧ (∀ k, v.ownBlock = some k → S k)
theorem RefI.keep {w w' : World} {q : Nat} {S : Nat → Prop} {N : NS} (h : RefI w q S N) (hs : w.heap.size ≤ w'.heap.size) (hk : ∀ b, S b → w'.heap[b]? = w.heap[b]?) : RefI w' q S N := by
  obtain ⟨h1, h2, v, hb, ho, hv⟩ := h
  exact ⟨h1, fun b hb => by have := h2 b hb; omega, v, (hk q h1).trans hb, own_keep ho (fun k hk' => hk k (hv k hk')), hv⟩
theorem RefI.chg {w w' : World} {q : Nat} {S M : Nat → Prop} {N : NS} (h : RefI w q S N) (hc : Chg M w w') (hd : ∀ b, S b → ¬ M b) : RefI w' q S N :=
  h.keep hc.size fun b hb => hc.block b (h.2.1 b hb) (hd b hb)
theorem RefI.alloc {w : World} {q : Nat} {S : Nat → Prop} {N : NS} (h : RefI w q S N) (o : Obj) : RefI (w.alloc o) q S N :=
  h.keep (by simp) fun b hb => Below.heap_alloc w o b (h.2.1 b hb)
theorem RefI.below {w w' : World} {q : Nat} {S : Nat → Prop} {N : NS} (h : RefI w q S N) (hb : Below w.heap.size w w') : RefI w' q S N :=
  h.keep hb.size fun b hs => hb.block b (h.2.1 b hs)
abbrev Nil_ : Nat → Prop := fun _ => False

theorem info_ritem : (Try.prog.info? 42).map (fun i => (i.zero, i.size, i.bytes)) = some (some (.agg #[.int .i64 0, .int .i64 0, .int .i64 0, .string ⟨#[]⟩]), 4, 40) := by kernel_rfl

theorem radd_full (q : Nat) (S : Nat → Prop) (N : NS) (fr rc : Int) (s : ByteArray) (w : World) (h : RefI w q S N) (hfull : N.most ≤ N.l.length) :
    Calls Try.prog 22 #[.pointer (some ⟨q, 0, none⟩), .int .i64 fr, .int .i64 rc, .string s] w fun e w' => e = .returned (.tuple #[.int .i64 0, .int .i64 42]) ∧ Below w.heap.size w w' := by
  obtain ⟨_, _, v, hb, ho, _⟩ := h
  have hc := hb.cell
  obtain ⟨A, cap, rfl⟩ := ho.form
  go_enter Try.func22, Try.ntmps22
  go_wp2
  go_quiet (fail)
  go_wp2
  go_ret2
  exact ⟨rfl, below_drewN (Below.refl _ w) _⟩

set_option maxHeartbeats 1000000 in
theorem radd_room (q : Nat) (S : Nat → Prop) (N : NS) (fr rc : Int) (body : List UInt8) (w : World) (h : RefI w q S N) (hroom : (N.l.length : Int) < N.most)
    (hl1 : 0 ≤ N.last) (hl2 : N.last ≤ 1000000000000000) (hsz : (N.l.length + 1) * 40 ≤ 140737488355328) :
    Calls Try.prog 22 #[.pointer (some ⟨q, 0, none⟩), .int .i64 fr, .int .i64 rc, .string (str body)] w fun e w' => e = .returned (.tuple #[.int .i64 (N.last + 1), .int .i64 0]) ∧
      ∃ S', RefI w' q S' ⟨N.most, N.last + 1, N.l ++ [⟨N.last + 1, fr, rc, body⟩]⟩ ∧ Upd S Nil_ w w' S' Nil_ := by
  obtain ⟨hSq, hS, v, hb, ho, hv⟩ := h
  have hlt := hb.lt
  have hc := hb.cell
  have hf := hb.frozen
  obtain ⟨A, cap, rfl⟩ := ho.form
  go_enter Try.func22, Try.ntmps22
  go_wp2
  go_quiet (fail)
  go_wp2
  refine at_world (fun W => Blk W q 29 #[.slice A N.l.length cap, .int .i64 N.most, .int .i64 (N.last + 1)] ∧ Own W 42 4 (.slice A N.l.length cap) N.l.length (flatR N.l) ∧ Chg (fun b => b = q) w W) ?_ ?_
  · have hcq : Chg (fun b => b = q) w _ := ((Chg.refl (fun b => b = q) w).drewN nq).setIn 2 (.int .i64 (N.last + 1))
    exact ⟨(hb.drewN nq).set_ 2 (.int .i64 (N.last + 1)), own_keep ho (fun k hk => hcq.block k (own_lt ho hk) (fun e => own_blk_ne ho hb (by decide) (by rw [hk, e]))), hcq⟩
  · rintro W ⟨hbW, hoW, hchW⟩
    have hcW := hbW.cell
    have hne1 : (Value.slice A N.l.length cap).ownBlock ≠ some q := own_blk_ne hoW hbW (by decide)
    clear hc hf
    refine wp_region_hoist [0, 1, 2, 3, 4, 5, 6, 7, 8, 9, 10, 11, 12] [13, 14] [15, 16, 17] (fun w' => w'.cell? ⟨q, 0, none⟩ = some (.slice A N.l.length cap) ∧ w'.cell? ⟨q, 2, none⟩ = some (.int .i64 (N.last + 1)))
      (by kernel_rfl) (by kernel_rfl) (by kernel_rfl) (by kernel_rfl) (by kernel_rfl) (by kernel_rfl) ⟨hcW 0, hcW 2⟩ ?_
    (repeat (refine HoistK.yes (by rfl) (by rfl) ⟨?_, fun w hSw => ?_, ?_⟩; rotate_left; (· go_simp; try with_reducible rfl); simp only [Act.put, List.setIfInBounds_toArray]))
    refine HoistK.nil_ ?_
    simp only [opsAt, List.filterMap_cons, List.filterMap_nil, List.getElem?_toArray, List.getElem?_cons_succ, List.getElem?_cons_zero]
    refine Effects.cons_ fun _ hQ1 => ?_
    go_wp2_with fail
    have hb2 := (hbW.alloc (.cells #[.int .i64 (N.last + 1), .int .i64 fr, .int .i64 rc, .string (str body)] 42)).drew
    have ho2 := (hoW.alloc (.cells #[.int .i64 (N.last + 1), .int .i64 fr, .int .i64 rc, .string (str body)] 42)).drew
    have hch2 := ((Chg.refl (fun _ => False) W).alloc (.cells #[.int .i64 (N.last + 1), .int .i64 fr, .int .i64 rc, .string (str body)] 42)).drew
    have hnew : Cs _ _ 4 _ 1 [.int .i64 (N.last + 1), .int .i64 fr, .int .i64 rc, .string (str body)] := (Cs.of_new W 42 1 rfl (by decide)).drew
    refine hQ1 _ _ ⟨hb2.cell 0, hb2.cell 2⟩ (Effects.cons_ fun _ hQ2 => ?_)
    clear hQ1
    go_wp2_with (at_builtin; refine wpList_app _ rfl _ _ _ rfl Try.underlying27 info_ritem rfl (by decide) ho2 rfl hnew rfl (by simp [Value.oneCell']) (by simp only [maxLen]; omega) (by omega) ?_; intro v2 w2 ho3 hg3 hnil3 hat3)
    have hb3 := hb2.chg hg3 hne1
    obtain ⟨A2, cap2, rfl⟩ := ho3.form
    refine hQ2 _ _ ⟨hb3.cell 0, hb3.cell 2⟩ (Effects.nil_ fun _ hQ3 => ?_)
    clear hQ2
    have hc3 := hb3.cell
    have hf3 := hb3.frozen
    go_wp2
    go_ret2
    refine ⟨rfl, fun b => S b ∨ (w.heap.size ≤ b ∧ b < w2.heap.size), ?_, ?_⟩
    · refine ⟨.inl hSq, ?_, .slice A2 (N.l.length + 1) cap2, hb3.set_ 0 _, ?_, ?_⟩
      · rintro b (hb | hb)
        · have := hS b hb; have := hchW.size; have := hg3.size; simp only [World.size_setCell, World.size_alloc, World.size_drew] at *; omega
        · simpa using hb.2
      · simp only [List.length_append, List.length_singleton]
        rw [flatR_append]
        exact own_keep ho3 (fun k hk => Below.heap_setCell _ _ _ _ (fun e => own_blk_ne ho3 hb3 (by decide) (by rw [hk, e])))
      · intro k hk
        have hk3 := own_lt ho3 hk
        rcases hat3 with e | e <;> rw [e] at hk
        · exact .inl (hv k hk)
        · refine .inr ⟨?_, hk3⟩
          have := hchW.size
          simp only [World.size_alloc, World.size_drew, Option.some.injEq] at hk
          omega
    · have hc : Chg (fun b => b = q ∨ (Value.slice A N.l.length cap).ownBlock = some b) w (w2.setCell ⟨q, 0, none⟩ (.slice A2 (N.l.length + 1) cap2)) :=
        (((hchW.mono (fun _ h => .inl h)).trans (hch2.mono (fun _ h => h.elim)) (fun _ h => .inl h)).trans (hg3.mono (fun _ h => .inr h)) (fun _ h => .inl h)).setOf (.inl rfl) 0 _
      exact ⟨hc.mono (fun b hb => hb.elim (fun e => e ▸ hSq) (hv b)), fun b hb => hb.elim .inl (fun h => .inr h.1), fun b hb => .inl hb⟩

end Go.Proofs.Ythlebfhljmcedaa
