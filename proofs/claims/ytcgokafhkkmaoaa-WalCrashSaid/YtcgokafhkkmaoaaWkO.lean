/- Wal, plain: what Sync, Restart, Format leave on a disk, whatever goes down. -/
import Derived.Test.YtcgokafhkkmaoaaWkN
namespace Go.Proofs.Ytcgokafhkkmaoaa
open Go.RowKit Go.Maps

def toU8 (i : Int) : UInt8 := UInt8.ofNat i.toNat
theorem toU8_nat (b : UInt8) : toU8 (b.toNat : Int) = b := by simp [toU8]
theorem map_ints (bs : List UInt8) : (ints bs).map toU8 = bs := ints_back bs
theorem DS.bytes_of {D : DS} (hd : D.down = false) (hl : D.loose = []) {n : Int} (h0 : 0 ≤ n) (h1 : n < D.blocks) : D.bytes n = ((D.firm n).getD noughts).map toU8 := by
  unfold DS.bytes DS.read DS.now
  rw [hd, if_neg (by simp), if_neg (by omega), hl]
  rfl
theorem puts_none : ∀ (l : List (Int × List Int)) (f : Int → Option (List Int)) (n : Int), n ∉ l.map (·.1) → l.foldl putF f n = f n
  | [], _, _, _ => rfl
  | x :: r, f, n, h => by
    simp only [List.map_cons, List.mem_cons, not_or] at h
    rw [List.foldl_cons, puts_none r _ n h.2]
    unfold putF; rw [if_neg h.1]
theorem puts_some : ∀ (l : List (Int × List Int)) (f : Int → Option (List Int)) (n : Int) (x : List Int), (l.map (·.1)).Nodup → (n, x) ∈ l → l.foldl putF f n = some x
  | [], _, _, _, _, h => by cases h
  | y :: r, f, n, x, hn, h => by
    simp only [List.map_cons, List.nodup_cons] at hn
    rw [List.foldl_cons]
    rcases List.mem_cons.1 h with e | h
    · subst e
      rw [puts_none r _ n hn.1]
      unfold putF; rw [if_pos rfl]
    · exact puts_some r _ n x hn.2 h

/-- The writes of a Sync, the last block's first. -/
def wsOf (first : Int) (all : List UInt8) (lo : Nat) : Nat → List (Int × List Int)
  | 0 => []
  | k + 1 => (first + 2 + (lo + k : Nat), blkOf all (lo + k)) :: wsOf first all lo k
theorem wsOf_mem {first : Int} {all : List UInt8} {lo : Nat} {x : Int × List Int} : ∀ {k : Nat}, x ∈ wsOf first all lo k → ∃ q : Nat, lo ≤ q ∧ q < lo + k ∧ x = (first + 2 + (q : Int), blkOf all q)
  | k + 1, h => by
    rcases List.mem_cons.1 h with e | h
    · exact ⟨lo + k, by omega, by omega, e⟩
    · obtain ⟨q, h1, h2, h3⟩ := wsOf_mem h
      exact ⟨q, h1, by omega, h3⟩
theorem wsOf_in (first : Int) (all : List UInt8) (lo : Nat) : ∀ (k q : Nat), lo ≤ q → q < lo + k → (first + 2 + (q : Int), blkOf all q) ∈ wsOf first all lo k
  | 0, q, h1, h2 => by omega
  | k + 1, q, h1, h2 => by
    by_cases e : q = lo + k
    · subst e; exact List.mem_cons_self ..
    · exact List.mem_cons_of_mem _ (wsOf_in first all lo k q h1 (by omega))
theorem wsOf_nodup (first : Int) (all : List UInt8) (lo : Nat) : ∀ k, ((wsOf first all lo k).map (·.1)).Nodup
  | 0 => List.nodup_nil
  | k + 1 => by
    rw [wsOf, List.map_cons, List.nodup_cons]
    refine ⟨fun h => ?_, wsOf_nodup first all lo k⟩
    obtain ⟨x, hx, e⟩ := List.mem_map.1 h
    obtain ⟨q, _, h2, rfl⟩ := wsOf_mem hx
    simp only at e
    omega
/-- A block's share, as bytes. -/
def blkB (all : List UInt8) (n : Nat) : List UInt8 := (all.drop (256 * n)).take 256 ++ List.replicate (256 - ((all.drop (256 * n)).take 256).length) 0
theorem blkOf_ints (all : List UInt8) (n : Nat) : blkOf all n = ints (blkB all n) := by
  unfold blkOf blkB
  rw [ints_append]
  congr 1
  unfold ints; rw [List.map_replicate]; rfl
theorem blkB_get (all : List UInt8) (q j : Nat) (hj : j < 256) (b : UInt8) (h : all[256 * q + j]? = some b) : (blkB all q)[j]? = some b := by
  have hl : 256 * q + j < all.length := by
    rcases Nat.lt_or_ge (256 * q + j) all.length with h' | h'
    · exact h'
    · rw [List.getElem?_eq_none h'] at h; cases h
  unfold blkB
  rw [List.getElem?_append_left (by rw [List.length_take, List.length_drop]; omega), List.getElem?_take, if_pos hj, List.getElem?_drop]
  exact h

/-- The writing down, on a disk that is up. -/
theorem wdown_out (first : Int) (all : List UInt8) (lo : Nat) : ∀ (k : Nat) (D : DS), D.down = false → 0 ≤ first → (∀ q : Nat, lo ≤ q → q < lo + k → first + 2 + (q : Int) < D.blocks ∧ first + 2 + (q : Int) < D.room) →
    (∃ f, wdown first all lo k D = ({ D with fuse := f, loose := D.loose ++ wsOf first all lo k }, 0) ∧ (D.fuse < 0 → f = D.fuse) ∧ (0 ≤ D.fuse → 0 ≤ f)) ∨
    (0 ≤ D.fuse ∧ ∃ t, wdown first all lo k D = ({ D with down := true, fuse := -1, loose := D.loose ++ (wsOf first all lo k).take t }, 44))
  | 0, D, _, _, _ => .inl ⟨D.fuse, by rw [wdown, wsOf, List.append_nil], fun _ => rfl, fun h => h⟩
  | k + 1, D, hd, h0, hr => by
    obtain ⟨hr1, hr2⟩ := hr (lo + k) (by omega) (by omega)
    by_cases hf : D.fuse = 0
    · refine .inr ⟨by omega, 0, ?_⟩
      rw [wdown, D.write_dn hd hf]
      simp
    · have hw := D.write_go hd hf (n := first + 2 + ((lo + k : Nat) : Int)) (by omega) hr1 hr2 (blkOf all (lo + k))
      have ht1 : D.fuse < 0 → tickF D.fuse = D.fuse := fun h => by unfold tickF; rw [if_neg (by omega)]
      have ht2 : 0 ≤ D.fuse → 0 ≤ tickF D.fuse := fun h => by unfold tickF; split <;> omega
      rw [wdown, hw]
      simp only [↓reduceIte]
      rcases wdown_out first all lo k { D with fuse := tickF D.fuse, loose := D.loose ++ [(first + 2 + ((lo + k : Nat) : Int), blkOf all (lo + k))] } hd h0 (fun q h1 h2 => hr q h1 (by omega)) with ⟨f, h1, h2, h3⟩ | ⟨h1, t, h2⟩
      · refine .inl ⟨f, ?_, fun h => ?_, fun h => h3 (ht2 h)⟩
        · rw [h1]; simp [wsOf]
        · have := h2 (by simp only; rw [ht1 h]; exact h)
          simp only at this
          rw [this, ht1 h]
      · simp only at h1
        refine .inr ⟨?_, t + 1, ?_⟩
        · rcases Int.lt_or_le D.fuse 0 with h | h
          · rw [ht1 h] at h1; omega
          · exact h
        · rw [h2]; simp [wsOf]

/-- Is each byte of all where it belongs? -/
def DataI (D : DS) (first : Int) (all : List UInt8) : Prop := ∀ (i : Nat) (b : UInt8), all[i]? = some b → (D.bytes (first + 2 + (i / 256 : Nat)))[i % 256]? = some b

/-- Another disk: all blocks of it are as they were, or hold at each place what was there or what a Sync of more writes. -/
theorem WalI.mixed {D D2 : DS} {L : LogS} (h : WalI D L) (more : List UInt8) (hd : D2.down = false) (hl : D2.loose = []) (hb : D2.blocks = D.blocks) (hby : D2.Byt) (hok : D2.Ok)
    (hm : ∀ n, 0 ≤ n → n < D.blocks → D2.bytes n = D.bytes n ∨ ∃ q : Nat, n = L.first + 2 + (q : Int) ∧ ∀ j, j < 256 → (D2.bytes n)[j]? = (D.bytes n)[j]? ∨ (D2.bytes n)[j]? = (blkB (L.bytes ++ more) q)[j]?) :
    WalI D2 { L with more := [] } := by
  obtain ⟨b0, b1, b2, b3⟩ := h.bounds
  have hsame : ∀ k : Nat, k < 2 → D2.bytes (L.first + (k : Int)) = D.bytes (L.first + (k : Int)) := fun k hk => by
    rcases hm (L.first + (k : Int)) (by omega) (by omega) with e | ⟨q, e, _⟩
    · exact e
    · omega
  refine ⟨hd, hl, hby, hok, by rw [hb]; exact h.fit, by rw [hb]; exact h.blk, h.num1, h.num2, h.ep, h.fin, h.area, ?_, ?_, fun i b hi => ?_⟩
  · have := h.mark
    rcases Nat.mod_two_eq_zero_or_one L.number with hp | hp
    · rw [show L.first + (L.number : Int) % 2 = L.first + ((0 : Nat) : Int) by omega] at this ⊢
      rw [hsame 0 (by omega)]; exact this
    · rw [show L.first + (L.number : Int) % 2 = L.first + ((1 : Nat) : Int) by omega] at this ⊢
      rw [hsame 1 (by omega)]; exact this
  · have := h.other
    rcases Nat.mod_two_eq_zero_or_one (L.number + 1) with hp | hp
    · simp only
      rw [show L.first + ((L.number + 1 : Nat) : Int) % 2 = L.first + ((0 : Nat) : Int) by omega] at this ⊢
      rw [hsame 0 (by omega)]; exact this
    · simp only
      rw [show L.first + ((L.number + 1 : Nat) : Int) % 2 = L.first + ((1 : Nat) : Int) by omega] at this ⊢
      rw [hsame 1 (by omega)]; exact this
  · have hi' : L.bytes[i]? = some b := hi
    have hil : i < L.bytes.length := by
      rcases Nat.lt_or_ge i L.bytes.length with h' | h'
      · exact h'
      · rw [List.getElem?_eq_none h'] at hi'; cases hi'
    have ha := h.area
    have hdat := h.data i b hi'
    rcases hm (L.first + 2 + ((i / 256 : Nat) : Int)) (by omega) (by omega) with e | ⟨q, e, hq⟩
    · rw [e]; exact hdat
    · have hqi : q = i / 256 := by omega
      subst hqi
      rcases hq (i % 256) (by omega) with e2 | e2
      · rw [e2]; exact hdat
      · rw [e2]
        refine blkB_get _ _ _ (by omega) b ?_
        rw [show 256 * (i / 256) + i % 256 = i by omega, List.getElem?_append_left hil]
        exact hi'

end Go.Proofs.Ytcgokafhkkmaoaa
