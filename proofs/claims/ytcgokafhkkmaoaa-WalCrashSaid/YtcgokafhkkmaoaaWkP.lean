/- Wal, plain: a torn mark; what Sync and Restart come to. -/
import Derived.Test.YtcgokafhkkmaoaaWkO
namespace Go.Proofs.Ytcgokafhkkmaoaa
open Go.RowKit Go.Maps

theorem num_before (a c : List UInt8) (t o : Nat) (h : o + 8 ≤ t) (ha : t ≤ a.length) : num (a.take t ++ c.drop t) o = num a o := by
  unfold num
  congr 1
  apply List.ext_getElem?
  intro i
  rw [List.getElem?_take, List.getElem?_take]
  split
  · rw [List.getElem?_drop, List.getElem?_drop, List.getElem?_append_left (by rw [List.length_take]; omega), List.getElem?_take, if_pos (by omega)]
  · rfl
theorem num_behind (a c : List UInt8) (t o : Nat) (h : t ≤ o) (ha : t ≤ a.length) : num (a.take t ++ c.drop t) o = num c o := by
  unfold num
  congr 1
  apply List.ext_getElem?
  intro i
  rw [List.getElem?_take, List.getElem?_take]
  split
  · rw [List.getElem?_drop, List.getElem?_drop, List.getElem?_append_right (by rw [List.length_take]; omega), List.length_take, List.getElem?_drop]
    congr 1; omega
  · rfl
/-- The last byte of a number. -/
theorem num_mod (bs : List UInt8) (o : Nat) (h : o + 8 ≤ bs.length) : num bs o % 256 = ((bs[o + 7]?).getD 0).toNat := by
  unfold num
  have hlen : ((bs.drop o).take 8).length = 8 := by rw [List.length_take, List.length_drop]; omega
  have e : (bs.drop o).take 8 = (bs.drop o).take 7 ++ [(bs[o + 7]'(by omega))] := by
    rw [List.take_succ_eq_append_getElem (by rw [List.length_drop]; omega)]
    simp
  rw [e, beNat_snoc, List.getElem?_eq_getElem (by omega), Option.getD_some]
  have := (bs[o + 7]'(by omega)).toNat_lt
  omega
theorem torn_mark {a c : List UInt8} {m e f e0 f0 t k : Nat} (ha : a.length = 256) (hc : c.length = 256) (hA : MarkI a (m + 2) e f) (hC : MarkI c m e0 f0) (ht : t ≤ 256) :
    (48 ≤ t → MarkI (a.take t ++ c.drop t) (m + 2) e f) ∧ (t < 48 → lookB (a.take t ++ c.drop t) k = true → num (a.take t ++ c.drop t) 0 = m) := by
  constructor
  · intro h
    obtain ⟨x0, x8, x16, x24, x32, x40⟩ := hA
    refine ⟨?_, ?_, ?_, ?_, ?_, ?_⟩ <;> rw [num_before a c t _ (by omega) (by omega)] <;> assumption
  · intro h hl
    have hl40 : num (a.take t ++ c.drop t) 0 = num (a.take t ++ c.drop t) 40 := by
      unfold lookB at hl
      simp only [Bool.and_eq_true, decide_eq_true_eq] at hl
      exact hl.1.1.1
    by_cases h40 : t ≤ 40
    · rw [hl40, num_behind a c t 40 h40 (by omega)]; exact hC.2.2.2.2.2
    · have h0 : num (a.take t ++ c.drop t) 0 = m + 2 := by rw [num_before a c t 0 (by omega) (by omega)]; exact hA.1
      have hlen : (a.take t ++ c.drop t).length = 256 := by rw [List.length_append, List.length_take, List.length_drop]; omega
      have h1 := num_mod (a.take t ++ c.drop t) 40 (by omega)
      have h2 := num_mod c 40 (by omega)
      rw [hC.2.2.2.2.2] at h2
      rw [← hl40, h0] at h1
      have e47 : (a.take t ++ c.drop t)[40 + 7]? = c[40 + 7]? := by
        rw [List.getElem?_append_right (by rw [List.length_take]; omega), List.length_take, List.getElem?_drop]
        congr 1; omega
      rw [e47] at h1
      omega

/-- One surviving write. -/
theorem ups_mix (torn : Int) (n0 : Nat) : ∀ (K : List (Int × List Int)) (s : Nat) (f : Int → Option (List Int)), OkF f → (K.map (·.1)).Nodup → (∀ x ∈ K, x.2.length = 256) → ∀ n,
    ((K.zipIdx s).foldl (upStep torn n0) f) n = f n ∨ ∃ l t, (n, l) ∈ K ∧ t ≤ 256 ∧ ((K.zipIdx s).foldl (upStep torn n0) f) n = some (l.take t ++ ((f n).getD noughts).drop t)
  | [], _, _, _, _, _, _ => .inl rfl
  | x :: r, s, f, hf, hn, hlen, n => by
    simp only [List.map_cons, List.nodup_cons] at hn
    rw [List.zipIdx_cons, List.foldl_cons]
    have ih := ups_mix torn n0 r (s + 1) (upStep torn n0 f (x, s)) (hf.up torn n0 (hlen x (List.mem_cons_self ..))) hn.2 (fun y hy => hlen y (List.mem_cons_of_mem _ hy)) n
    by_cases e : n = x.1
    · subst e
      have hnot : ∀ l, (x.1, l) ∉ r := fun l hl => hn.1 (List.mem_map.2 ⟨_, hl, rfl⟩)
      have hx := hlen x (List.mem_cons_self ..)
      rcases ih with h | ⟨l, t, hl, _⟩
      · refine .inr ?_
        rw [h]
        unfold upStep putF
        simp only [↓reduceIte]
        by_cases hc : s + 1 = n0 ∧ 0 ≤ torn ∧ torn < 256
        · rw [if_pos hc]
          exact ⟨x.2, torn.toNat, List.mem_cons_self .., by omega, rfl⟩
        · rw [if_neg hc]
          refine ⟨x.2, 256, List.mem_cons_self .., Nat.le_refl _, ?_⟩
          rw [List.take_of_length_le (by omega), List.drop_of_length_le (by rw [hf.got]; exact Nat.le_refl _), List.append_nil]
      · exact absurd hl (hnot l)
    · have hf1 : upStep torn n0 f (x, s) n = f n := by unfold upStep putF; simp only; rw [if_neg e]
      rw [hf1] at ih
      rcases ih with h | ⟨l, t, hl, ht, h⟩
      · exact .inl h
      · exact .inr ⟨l, t, List.mem_cons_of_mem _ hl, ht, h⟩

theorem ups_byt (torn : Int) (n0 : Nat) : ∀ (K : List ((Int × List Int) × Nat)) (f : Int → Option (List Int)), (∀ i x, f i = some x → ∃ bs, x = ints bs) → (∀ x ∈ K, ∃ bs, x.1.2 = ints bs) → ∀ i x, K.foldl (upStep torn n0) f i = some x → ∃ bs, x = ints bs
  | [], _, h, _ => h
  | y :: r, f, h, hl => ups_byt torn n0 r _ (fun i x hx => by
      unfold upStep putF at hx
      simp only at hx
      split at hx
      · injection hx with hx
        subst hx
        obtain ⟨a, ha⟩ := hl y (List.mem_cons_self ..)
        obtain ⟨c, hc⟩ : ∃ c, (f y.1.1).getD noughts = ints c := by
          cases e : f y.1.1 with
          | none => exact ⟨_, noughts_ints⟩
          | some l => exact h _ l e
        split
        · refine ⟨a.take torn.toNat ++ c.drop torn.toNat, ?_⟩
          rw [ha, hc, ints_append]
          simp [ints]
        · exact ⟨a, ha⟩
      · exact h i x hx) fun x hx => hl x (List.mem_cons_of_mem _ hx)
theorem keptOf_pair (l : List (Int × List Int)) (keep : List Bool) : (keptOf l keep).Sublist l := by
  have key : ∀ (l : List (Int × List Int)) (s : Nat), ((l.zipIdx s).filterMap fun x => if keep[x.2]? = some true then some x.1 else none).Sublist l := by
    intro l
    induction l with
    | nil => intro s; exact List.Sublist.refl _
    | cons x r ih =>
      intro s
      rw [List.zipIdx_cons, List.filterMap_cons]
      split
      · exact (ih (s + 1)).cons _
      · next h =>
        split at h
        · injection h with h
          subst h
          exact (ih (s + 1)).cons_cons _
        · cases h
  exact key l 0
theorem DS.Byt.up {D : DS} (h : D.Byt) (keep : List Bool) (torn : Int) : (D.up keep torn).Byt :=
  ⟨(fun x hx => by cases hx), ups_byt torn _ _ D.firm h.firm fun x hx => by
    obtain ⟨i, hi, e⟩ := List.getElem_of_mem hx
    rw [← e, List.getElem_zipIdx]
    exact h.loose _ (keptOf_mem (List.getElem_mem _))⟩
theorem DS.Ok.up {D : DS} (h : D.Ok) (keep : List Bool) (torn : Int) : (D.up keep torn).Ok :=
  ⟨(fun x hx => by cases hx), OkF.ups _ _ _ _ h.2 fun x hx => by
    obtain ⟨i, hi, e⟩ := List.getElem_of_mem hx
    rw [← e, List.getElem_zipIdx]
    exact h.1 _ (keptOf_mem (List.getElem_mem _))⟩
/-- What is in a block behind a going down. -/
theorem DS.up_bytes {D : DS} (hok : D.Ok) (hn : (D.loose.map (·.1)).Nodup) (keep : List Bool) (torn : Int) (n : Int) (h0 : 0 ≤ n) (h1 : n < D.blocks) :
    (D.up keep torn).bytes n = ((D.firm n).getD noughts).map toU8 ∨ ∃ l t, (n, l) ∈ D.loose ∧ t ≤ 256 ∧ (D.up keep torn).bytes n = (l.map toU8).take t ++ (((D.firm n).getD noughts).map toU8).drop t := by
  rw [DS.bytes_of (D := D.up keep torn) rfl rfl h0 h1]
  have hs := keptOf_pair D.loose keep
  have hm := ups_mix torn (keptOf D.loose keep).length (keptOf D.loose keep) 0 D.firm hok.2 (hn.sublist (hs.map _)) (fun x hx => hok.1 x (keptOf_mem hx)) n
  rcases hm with h | ⟨l, t, hl, ht, h⟩
  · refine .inl ?_
    show (((keptOf D.loose keep).zipIdx.foldl (upStep torn (keptOf D.loose keep).length) D.firm n).getD noughts).map toU8 = _
    rw [h]
  · refine .inr ⟨l, t, keptOf_mem hl, ht, ?_⟩
    show (((keptOf D.loose keep).zipIdx.foldl (upStep torn (keptOf D.loose keep).length) D.firm n).getD noughts).map toU8 = _
    rw [h, Option.getD_some, List.map_append, List.map_take, List.map_drop]

end Go.Proofs.Ytcgokafhkkmaoaa
