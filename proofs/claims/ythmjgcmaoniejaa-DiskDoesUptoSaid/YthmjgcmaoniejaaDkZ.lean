/- The program's disk and the document's, side by side: the plain law. -/
import Derived.Test.YthmjgcmaoniejaaDkY
namespace Go.Proofs.Ythmjgcmaoniejaa
open Go.RowKit Go.Maps

/-- What is firm in both. -/
def FTie (fD : Int → Option (List Int)) (fR : List (List Int)) : Prop := ∀ k : Nat, k < fR.length → fR[k]? = some ((fD k).getD noughts)
theorem FTie.put {fD : Int → Option (List Int)} {fR : List (List Int)} (h : FTie fD fR) {x : Int × List Int} (h0 : 0 ≤ x.1) : FTie (putF fD x) (fR.set x.1.toNat x.2) := by
  intro k hk
  rw [List.length_set] at hk
  unfold putF
  by_cases e : (k : Int) = x.1
  · rw [if_pos e, show x.1.toNat = k by omega, List.getElem?_set_self hk]; rfl
  · rw [if_neg e, List.getElem?_set_ne (by omega)]
    exact h k hk
theorem FTie.puts : ∀ (l : List (Int × List Int)) (fD : Int → Option (List Int)) (fR : List (List Int)), FTie fD fR → (∀ x ∈ l, 0 ≤ x.1 ∧ x.1 < fR.length) → FTie (l.foldl putF fD) (l.foldl setF fR)
  | [], _, _, h, _ => h
  | x :: r, fD, fR, h, hn => by
    have h1 := hn x (List.mem_cons_self ..)
    exact FTie.puts r _ _ (h.put h1.1) (fun y hy => by unfold setF; rw [List.length_set]; exact hn y (List.mem_cons_of_mem _ hy))

/-- The two disks. -/
structure Tie (D : DS) (R : RS) : Prop where
  blocks : D.blocks = R.firm.length
  firm : FTie D.firm R.firm
  loose : R.loose = D.loose
  room : R.room = D.room
  fuse : R.fuse = D.fuse
  off : R.off = D.down
  names : ∀ x ∈ D.loose, 0 ≤ x.1 ∧ x.1 < R.firm.length
  len : R.firm.length ≤ 4096

section
variable {D : DS} {R : RS}
theorem Tie.begins (h : Tie D R) : Tie D.begins.1 R.begins ∧ D.begins.2 = !R.begins.off := by
  obtain ⟨Db, Dr, Df, Dd, Dm, Dl, De⟩ := D
  obtain ⟨Rf, Rl, Rr, Ru, Ro⟩ := R
  obtain ⟨t1, t2, t3, t4, t5, t6, t7, t8⟩ := h
  simp only at t1 t2 t3 t4 t5 t6 t7 t8
  subst t3 t4 t5 t6
  unfold DS.begins RS.begins
  cases Ro
  · by_cases h0 : Ru = 0
    · subst h0
      simp only [and_self, if_true, Bool.false_eq_true, if_false]
      exact ⟨⟨t1, t2, rfl, rfl, rfl, rfl, t7, t8⟩, rfl⟩
    · by_cases h1 : 0 < Ru
      · simp only [h0, h1, and_self, and_false, if_true, if_false, Bool.false_eq_true]
        exact ⟨⟨t1, t2, rfl, rfl, rfl, rfl, t7, t8⟩, rfl⟩
      · simp only [h0, h1, and_false, if_false, Bool.false_eq_true]
        exact ⟨⟨t1, t2, rfl, rfl, rfl, rfl, t7, t8⟩, rfl⟩
  · simp only [Bool.true_eq_false, false_and, if_false, if_true]
    exact ⟨⟨t1, t2, rfl, rfl, rfl, rfl, t7, t8⟩, rfl⟩

theorem Tie.write (h : Tie D R) (n : Int) (l : List Int) : (D.write n l).2 = (R.write n l).2 ∧ Tie (D.write n l).1 (R.write n l).1 := by
  obtain ⟨hb, ho⟩ := h.begins
  have e1 := R.begins_same
  unfold DS.write RS.write
  rw [ho]
  cases hoff : R.begins.off
  · simp only [Bool.not_false, Bool.true_eq_false, if_false, Bool.false_eq_true]
    rw [hb.blocks, e1.1, ← hb.room, e1.2.2]
    by_cases h1 : n < 0 ∨ (R.firm.length : Int) ≤ n
    · rw [if_pos h1, if_pos h1]; exact ⟨rfl, hb⟩
    · rw [if_neg h1, if_neg h1]
      by_cases h2 : R.room ≤ n
      · rw [if_pos h2, if_pos h2]; exact ⟨rfl, hb⟩
      · rw [if_neg h2, if_neg h2]
        refine ⟨rfl, ⟨rfl, (by rw [← e1.1]; exact hb.firm), by simp only [hb.loose], rfl, hb.fuse, hb.off, fun x hx => ?_, h.len⟩⟩
        rcases List.mem_append.1 hx with hx | hx
        · have := hb.names x hx
          rw [e1.1] at this
          exact this
        · obtain rfl := List.mem_singleton.1 hx
          simp only
          omega
  · simp only [Bool.not_true, if_true]
    exact ⟨trivial, hb⟩
theorem Tie.sync (h : Tie D R) : D.sync.2 = R.sync.2 ∧ Tie D.sync.1 R.sync.1 := by
  obtain ⟨hb, ho⟩ := h.begins
  unfold DS.sync RS.sync
  rw [ho]
  cases hoff : R.begins.off
  · simp only [Bool.not_false, Bool.true_eq_false, if_false, Bool.false_eq_true]
    refine ⟨trivial, ⟨?_, ?_, rfl, hb.room, hb.fuse, ?_, (fun x hx => by cases hx), ?_⟩⟩
    · show D.begins.1.blocks = ((R.begins.loose.foldl setF R.begins.firm).length : Int)
      rw [setF_length, hb.blocks]
    · rw [hb.loose]
      exact FTie.puts _ _ _ hb.firm hb.names
    · exact hb.off
    · show (R.begins.loose.foldl setF R.begins.firm).length ≤ 4096
      rw [setF_length]; exact hb.len
  · simp only [Bool.not_true, if_true]
    exact ⟨trivial, hb⟩
theorem Tie.setRoom (h : Tie D R) (n : Int) : Tie { D with room := max n 0 } { R with room := max n 0 } := ⟨h.blocks, h.firm, h.loose, rfl, h.fuse, h.off, h.names, h.len⟩
theorem Tie.setFuse (h : Tie D R) (n : Int) : Tie { D with fuse := max n (-1) } { R with fuse := max n (-1) } := ⟨h.blocks, h.firm, h.loose, h.room, rfl, h.off, h.names, h.len⟩
theorem Tie.new (n : Nat) (hn : n ≤ 4096) : Tie (DS.new n) (RS.new n) :=
  ⟨by simp [DS.new, RS.new], fun k hk => by simp only [RS.new, List.length_replicate] at hk ⊢; rw [List.getElem?_replicate, if_pos hk]; rfl, rfl, rfl, rfl, rfl, (fun x hx => by cases hx), by simp [RS.new, hn]⟩
theorem now_over (n : Int) : ∀ (l : List (Int × List Int)) (f : Int → Option (List Int)), (l.foldl putF f n).getD noughts = l.foldl (overB n) ((f n).getD noughts)
  | [], _ => rfl
  | x :: r, f => by
    rw [List.foldl_cons, List.foldl_cons, now_over n r]
    congr 1
    unfold putF overB
    by_cases e : x.1 = n
    · rw [if_pos e.symm, if_pos e]; rfl
    · rw [if_neg (Ne.symm e), if_neg e]
theorem Tie.read (h : Tie D R) (n : Int) : D.read n = R.read n := by
  unfold DS.read RS.read
  rw [h.off, h.blocks]
  cases D.down
  · by_cases h1 : n < 0 ∨ (R.firm.length : Int) ≤ n
    · simp only [h1, if_true, Bool.false_eq_true, if_false]
    · simp only [h1, Bool.false_eq_true, if_false]
      unfold DS.now RS.now
      rw [now_over, h.loose, List.getD_eq_getElem?_getD]
      have := h.firm n.toNat (by omega)
      rw [show ((n.toNat : Nat) : Int) = n by omega] at this
      rw [this]
      rfl
  · simp only [if_true]
end

/-! ### Up -/
def cnt (l : List (Int × List Int)) (keep : List Bool) (a : Nat) : Nat := (keptOf (l.take a) keep).length
theorem cnt_succ (l : List (Int × List Int)) (keep : List Bool) {a : Nat} (h : a < l.length) : cnt l keep (a + 1) = cnt l keep a + if keep[a]? = some true then 1 else 0 := by
  unfold cnt
  rw [keptOf_succ l keep h, List.length_append]
  split <;> rfl
theorem cnt_last (l : List (Int × List Int)) (keep : List Bool) (i : Nat) (hk : keep[i]? = some true) : ∀ b, i < b → b ≤ l.length → cnt l keep (i + 1) ≤ cnt l keep b ∧ (cnt l keep b = cnt l keep (i + 1) ↔ lastTo keep b = (i : Int))
  | 0, h, _ => by omega
  | b + 1, h, hb => by
    rcases Nat.lt_or_ge i b with hlt | hge
    · obtain ⟨h1, h2⟩ := cnt_last l keep i hk b hlt (by omega)
      rw [cnt_succ l keep (a := b) (by omega)]
      show _ ∧ (_ ↔ (if keep[b]? = some true then (b : Int) else lastTo keep b) = (i : Int))
      by_cases hb' : keep[b]? = some true
      · rw [if_pos hb', if_pos hb']
        exact ⟨by omega, by omega⟩
      · rw [if_neg hb', if_neg hb']
        exact ⟨by omega, by rw [Nat.add_zero]; exact h2⟩
    · obtain rfl : b = i := by omega
      refine ⟨Nat.le_refl _, ?_⟩
      show _ ↔ (if keep[b]? = some true then (b : Int) else lastTo keep b) = (b : Int)
      rw [if_pos hk]
      simp
theorem cnt_past (l : List (Int × List Int)) (keep : List Bool) : ∀ b, keep.length ≤ b → b ≤ l.length → cnt l keep b = cnt l keep keep.length
  | 0, h, _ => by rw [show keep.length = 0 by omega]
  | b + 1, h, hb => by
    rcases Nat.lt_or_ge b keep.length with hlt | hge
    · rw [show keep.length = b + 1 by omega]
    · rw [cnt_succ l keep (by omega), if_neg (by rw [List.getElem?_eq_none hge]; simp), Nat.add_zero]
      exact cnt_past l keep b hge (by omega)
theorem cnt_min (l : List (Int × List Int)) (keep : List Bool) : cnt l keep l.length = cnt l keep (min l.length keep.length) := by
  rcases Nat.le_total l.length keep.length with h | h
  · rw [Nat.min_eq_left h]
  · rw [Nat.min_eq_right h]; exact cnt_past l keep _ h (Nat.le_refl _)

theorem up_tie {l : List (Int × List Int)} {keep : List Bool} {torn : Int} {fD : Int → Option (List Int)} {fR : List (List Int)} (h : FTie fD fR) (hl : ∀ x ∈ l, x.2.length = 256) (hf : ∀ x ∈ fR, x.length = 256) (hn : ∀ x ∈ l, 0 ≤ x.1 ∧ x.1 < fR.length) :
    ∀ i, i ≤ min l.length keep.length → FTie ((keptOf (l.take i) keep).zipIdx.foldl (upStep torn (cnt l keep l.length)) fD) ((List.range i).foldl (rstep l keep torn (lastTo keep (min l.length keep.length))) fR) ∧
      ((List.range i).foldl (rstep l keep torn (lastTo keep (min l.length keep.length))) fR).length = fR.length ∧ ∀ x ∈ (List.range i).foldl (rstep l keep torn (lastTo keep (min l.length keep.length))) fR, x.length = 256
  | 0, _ => ⟨h, rfl, hf⟩
  | i + 1, hi => by
    obtain ⟨ih, ihl, ih2⟩ := up_tie (keep := keep) (torn := torn) h hl hf hn i (by omega)
    have hil : i < l.length := by omega
    rw [List.range_succ, List.foldl_append, keptOf_succ l keep hil, List.foldl_cons, List.foldl_nil]
    obtain ⟨r1, r2⟩ := rstep_ok (keep := keep) (torn := torn) (last := lastTo keep (min l.length keep.length)) ih2 hl (fun x hx => by rw [ihl]; exact hn x hx) hil
    refine ⟨?_, r1.trans ihl, r2⟩
    generalize (List.range i).foldl (rstep l keep torn (lastTo keep (min l.length keep.length))) fR = f at *
    by_cases hk : keep[i]? = some true
    · rw [if_pos hk, List.zipIdx_append, List.foldl_append]
      simp only [List.zipIdx_cons, List.zipIdx_nil, List.foldl_cons, List.foldl_nil, Nat.zero_add]
      generalize (keptOf (l.take i) keep).zipIdx.foldl (upStep torn (cnt l keep l.length)) fD = g at *
      have hx := hn _ (List.getElem_mem hil)
      have hxl := hl _ (List.getElem_mem hil)
      unfold rstep upStep
      rw [if_pos hk, show l.getD i (0, []) = l[i] by simp [hil]]
      have hc := (cnt_last l keep i hk (min l.length keep.length) (by omega) (by omega)).2
      have hci : cnt l keep (i + 1) = (keptOf (l.take i) keep).length + 1 := by
        rw [cnt_succ l keep hil, if_pos hk]; rfl
      rw [← cnt_min, hci] at hc
      have hg := ih l[i].1.toNat (by omega)
      rw [show ((l[i].1.toNat : Nat) : Int) = l[i].1 by omega] at hg
      have hold : f.getD l[i].1.toNat [] = (g l[i].1).getD noughts := by rw [List.getD_eq_getElem?_getD, hg]; rfl
      have holdl : (f.getD l[i].1.toNat []).length = 256 := by
        rw [List.getD_eq_getElem?_getD, List.getElem?_eq_getElem (by omega), Option.getD_some]
        exact ih2 _ (List.getElem_mem _)
      rw [← hold]
      have e : mixB (decide ((i : Int) ≠ lastTo keep (min l.length keep.length) ∨ torn < 0)) torn l[i].2 (f.getD l[i].1.toNat []) =
          if (keptOf (l.take i) keep).length + 1 = cnt l keep l.length ∧ 0 ≤ torn ∧ torn < 256 then l[i].2.take torn.toNat ++ (f.getD l[i].1.toNat []).drop torn.toNat else l[i].2 := by
        unfold mixB
        by_cases hlast : (i : Int) = lastTo keep (min l.length keep.length)
        · have hcc := hc.2 hlast.symm
          by_cases ht : torn < 0
          · rw [if_pos (by simp [ht]), if_neg (by omega)]
          · rw [if_neg (by simp [hlast, ht])]
            by_cases ht2 : torn < 256
            · rw [if_pos ⟨hcc.symm, by omega, ht2⟩]
            · rw [if_neg (by omega), List.take_of_length_le (by omega), List.drop_of_length_le (by omega), List.append_nil]
        · rw [if_pos (by simp [hlast]), if_neg (fun hh => hlast (hc.1 hh.1.symm).symm)]
      rw [e]
      exact ih.put (x := (l[i].1, _)) hx.1
    · rw [if_neg hk, List.append_nil]
      unfold rstep
      rw [if_neg hk]
      exact ih

theorem keptOf_past (l : List (Int × List Int)) (keep : List Bool) : ∀ b, min l.length keep.length ≤ b → b ≤ l.length → keptOf (l.take b) keep = keptOf (l.take (min l.length keep.length)) keep
  | 0, h, _ => by rw [show min l.length keep.length = 0 by omega]
  | b + 1, h, hb => by
    rcases Nat.lt_or_ge b (min l.length keep.length) with hlt | hge
    · rw [show min l.length keep.length = b + 1 by omega]
    · rw [keptOf_succ l keep (by omega), if_neg (by rw [List.getElem?_eq_none (by omega)]; simp), List.append_nil]
      exact keptOf_past l keep b hge (by omega)
theorem Tie.up {D : DS} {R : RS} (h : Tie D R) (hl : ∀ x ∈ D.loose, x.2.length = 256) (hf : ∀ x ∈ R.firm, x.length = 256) (keep : List Bool) (torn : Int) : Tie (D.up keep torn) (R.up keep torn) := by
  obtain ⟨h1, h2, _⟩ := up_tie (keep := keep) (torn := torn) h.firm hl hf h.names (min D.loose.length keep.length) (Nat.le_refl _)
  have e : keptOf (D.loose.take (min D.loose.length keep.length)) keep = keptOf D.loose keep := by
    have := keptOf_past D.loose keep D.loose.length (by omega) (Nat.le_refl _)
    rw [List.take_length] at this
    exact this.symm
  have ec : cnt D.loose keep D.loose.length = (keptOf D.loose keep).length := by unfold cnt; rw [List.take_length]
  rw [e, ec] at h1
  have e1 := h.loose
  unfold DS.up RS.up
  rw [e1]
  exact ⟨by simp only [h2]; exact h.blocks, h1, rfl, h.room, rfl, rfl, (fun x hx => by cases hx), by simp only [h2]; exact h.len⟩

end Go.Proofs.Ythmjgcmaoniejaa
