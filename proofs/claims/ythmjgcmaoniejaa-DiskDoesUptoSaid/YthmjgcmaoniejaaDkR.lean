/- DiskFirm: what comes up; rows of blocks. -/
import Derived.Test.YthmjgcmaoniejaaDkQ
namespace Go.Proofs.Ythmjgcmaoniejaa
open Go.RowKit Go.Maps

theorem keptOf_all (l : List (Int × List Int)) : keptOf l (List.replicate l.length true) = l := by
  have key : ∀ (r : List (Int × List Int)) (s : Nat), s + r.length ≤ l.length → (r.zipIdx s).filterMap (fun x => if (List.replicate l.length true)[x.2]? = some true then some x.1 else none) = r := by
    intro r
    induction r with
    | nil => intro s _; rfl
    | cons x r ih =>
      intro s hs
      simp only [List.length_cons] at hs
      rw [List.zipIdx_cons, List.filterMap_cons]
      simp only
      rw [if_pos (by rw [List.getElem?_replicate, if_pos (by omega)]), ih (s + 1) (by omega)]
  exact key l 0 (by omega)
theorem keptOf_no (l : List (Int × List Int)) (keep : List Bool) (h : ∀ i, i < l.length → keep[i]? ≠ some true) : keptOf l keep = [] := by
  unfold keptOf
  rw [List.filterMap_eq_nil_iff]
  intro x hx
  have := List.mem_zipIdx' hx
  rw [if_neg (h _ this.1)]
theorem ups_whole {torn : Int} (ht : torn < 0) (n : Nat) : ∀ (l : List (Int × List Int)) (s : Nat) (f : Int → Option (List Int)), (l.zipIdx s).foldl (upStep torn n) f = l.foldl putF f
  | [], _, _ => rfl
  | x :: r, s, f => by
    rw [List.zipIdx_cons, List.foldl_cons, List.foldl_cons, ups_whole ht n r (s + 1)]
    congr 1
    unfold upStep
    rw [if_neg (by omega)]
theorem ups_other (torn : Int) (n : Nat) (k : Int) : ∀ (l : List ((Int × List Int) × Nat)) (f : Int → Option (List Int)), (∀ x ∈ l, x.1.1 ≠ k) → l.foldl (upStep torn n) f k = f k
  | [], _, _ => rfl
  | x :: r, f, h => by
    rw [List.foldl_cons, ups_other torn n k r _ (fun y hy => h y (List.mem_cons_of_mem _ hy))]
    unfold upStep putF
    rw [if_neg (fun e => h x (List.mem_cons_self ..) e.symm)]

section
variable {gs : List KSt} {j : Nat} {D : DS} {sy now : List (List Int)}
theorem up_read (D : DS) (hb : D.blocks = 8) (keep : List Bool) (torn : Int) (k : Nat) (hk : k < 8) : (D.up keep torn).read k = (((keptOf D.loose keep).zipIdx.foldl (upStep torn (keptOf D.loose keep).length) D.firm k).getD noughts, 0) :=
  read_free rfl rfl (by omega) (by show (k : Int) < D.blocks; omega)
theorem FirI.none_read (h : FirI gs j D sy now) {keep : List Bool} (hn : ∀ i, i < D.loose.length → keep[i]? ≠ some true) (torn : Int) {k : Nat} (hk : k < 8) : (D.up keep torn).read k = (sy[k]'(by rw [h.syl]; exact hk), 0) := by
  rw [up_read D h.blocks keep torn k hk, keptOf_no _ _ hn]
  have := h.sy k hk
  rw [List.getElem?_eq_getElem (by rw [h.syl]; exact hk)] at this
  injection this with this
  rw [this]
  rfl
theorem FirI.all_read (h : FirI gs j D sy now) {k : Nat} (hk : k < 8) : (D.up (List.replicate D.loose.length true) (-1)).read k = (now[k]'(by rw [h.nowl]; exact hk), 0) := by
  rw [up_read D h.blocks _ _ k hk, keptOf_all, ups_whole (by decide)]
  have := h.now k hk
  rw [List.getElem?_eq_getElem (by rw [h.nowl]; exact hk)] at this
  injection this with this
  rw [this]
  rfl
theorem FirI.other_read (h : FirI gs gs.length D sy now) (keep : List Bool) (torn : Int) {k : Nat} (hk : k < 8) (hw : wroteF gs k = false) : (D.up keep torn).read k = (sy[k]'(by rw [h.syl]; exact hk), 0) := by
  have hw' := h.wrote k (by rw [List.take_length]; exact hw)
  rw [up_read D h.blocks keep torn k hk, ups_other]
  · have := h.sy k hk
    rw [List.getElem?_eq_getElem (by rw [h.syl]; exact hk)] at this
    injection this with this
    rw [this]
  · intro x hx
    obtain ⟨i, hi, e⟩ := List.getElem_of_mem hx
    rw [← e, List.getElem_zipIdx]
    exact hw' _ (keptOf_mem (List.getElem_mem _))
end

/-- Rows of blocks, as their cells lie. -/
def flatB (l : List (List Int)) : List Value := l.flatMap cu8
theorem flatB_length (l : List (List Int)) (h : ∀ x ∈ l, x.length = 256) : (flatB l).length = l.length * 256 := by
  induction l with
  | nil => rfl
  | cons x r ih =>
    have := ih (fun y hy => h y (List.mem_cons_of_mem _ hy))
    have hx := h x (List.mem_cons_self ..)
    simp only [flatB, List.flatMap_cons, List.length_append, List.length_cons] at this ⊢
    rw [cu8_length]
    omega
theorem flatB_get (l : List (List Int)) (h : ∀ x ∈ l, x.length = 256) : ∀ (k : Nat) (x : List Int), l[k]? = some x → ∀ i, i < 256 → (flatB l)[k * 256 + i]? = (cu8 x)[i]? := by
  induction l with
  | nil => intro k g h; simp at h
  | cons y r ih =>
    intro k x hk i hi
    have hy := h y (List.mem_cons_self ..)
    have hyl : (cu8 y).length = 256 := by rw [cu8_length, hy]
    rw [show flatB (y :: r) = cu8 y ++ flatB r by simp [flatB]]
    rcases k with _ | k
    · obtain rfl : y = x := by simpa using hk
      rw [List.getElem?_append_left (by omega)]
      simp
    · rw [List.getElem?_append_right (by omega)]
      have h' : r[k]? = some x := by simpa using hk
      rw [← ih (fun z hz => h z (List.mem_cons_of_mem _ hz)) k x h' i hi]
      congr 1
      omega
theorem flatB_set (l : List (List Int)) (h : ∀ x ∈ l, x.length = 256) : ∀ (k : Nat) (x : List Int), k < l.length → x.length = 256 → (flatB l).take (k * 256) ++ cu8 x ++ (flatB l).drop (k * 256 + 256) = flatB (l.set k x) := by
  induction l with
  | nil => intro k x hk; simp at hk
  | cons y r ih =>
    intro k x hk hx
    have hy := h y (List.mem_cons_self ..)
    have hyl : (cu8 y).length = 256 := by rw [cu8_length, hy]
    rw [show flatB (y :: r) = cu8 y ++ flatB r by simp [flatB]]
    rcases k with _ | k
    · rw [List.set_cons_zero, Nat.zero_mul, List.take_zero, List.nil_append, Nat.zero_add, List.drop_append_of_le_length (by omega), List.drop_of_length_le (by omega), List.nil_append]
      simp [flatB]
    · have := ih (fun z hz => h z (List.mem_cons_of_mem _ hz)) k x (by simpa using hk) hx
      rw [List.set_cons_succ, show flatB (y :: r.set k x) = cu8 y ++ flatB (r.set k x) by simp [flatB], ← this]
      rw [show (k + 1) * 256 = (cu8 y).length + k * 256 by omega, List.take_length_add_append, show (cu8 y).length + k * 256 + 256 = (cu8 y).length + (k * 256 + 256) by omega, List.drop_length_add_append]
      simp
theorem flatB_one {l : List (List Int)} : ∀ u ∈ flatB l, u.oneCell' = true := by
  intro u hu
  obtain ⟨x, _, hx⟩ := List.mem_flatMap.1 hu
  exact cu8_one x u hx

/-- A block in a row of blocks, as its cells lie. -/
theorem blocks_at {w : World} {S : Nat → Prop} {A : Option Addr} {n cap : Nat} {l : List (List Int)} (h : Cs w S 256 (.slice A n cap) l.length (flatB l)) (hl : ∀ x ∈ l, x.length = 256) {k : Nat} (hk : k < l.length) :
    ∃ b off, A = some ⟨b, off, none⟩ ∧ S b ∧ b < w.heap.size ∧ w.rangeAt b (off + k * 256) (cu8 l[k]) := by
  obtain ⟨_, A', cap', e, _, _, hp⟩ := h
  injection e with e1 e2 e3
  subst e1
  obtain ⟨b, off, rfl, hs, hb, hc⟩ := hp (by omega)
  refine ⟨b, off, rfl, hs, hb, fun j v hv => ?_⟩
  have hj : j < 256 := by
    have := (List.getElem?_eq_some_iff.1 hv).1
    rw [cu8_length, hl l[k] (List.getElem_mem hk)] at this
    omega
  rw [Nat.add_assoc]
  exact hc _ _ ((flatB_get l hl k _ (List.getElem?_eq_getElem hk) j hj).trans hv)

end Go.Proofs.Ythmjgcmaoniejaa
