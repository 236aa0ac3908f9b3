/- Wal: numbers of eight bytes, the highest first. -/
import Derived.Test.YtcgokafhkkmaoaaDkL
import Derived.Laws.BitsAllLaws
import Derived.Lib.EndianMore
import Derived.Lib.VarintMem
namespace Go.Proofs.Ytcgokafhkkmaoaa
open Go.RowKit Go.Maps

theorem or_shift (a b : Nat) (h : b < 256) : (a * 256) ||| b = a * 256 + b := by
  have := Nat.shiftLeft_add_eq_or_of_lt (i := 8) (b := b) (by omega) a
  rw [Nat.shiftLeft_eq, show (2 : Nat) ^ 8 = 256 from rfl] at this
  omega
theorem beFrom_append (acc : Nat) (l m : List UInt8) : Lib.beFrom acc (l ++ m) = Lib.beFrom (Lib.beFrom acc l) m := by
  induction l generalizing acc with
  | nil => rfl
  | cons b r ih => simp only [List.cons_append, Lib.beFrom, ih]
theorem beNat_snoc (l : List UInt8) (b : UInt8) : Lib.beNat (l ++ [b]) = Lib.beNat l * 256 + b.toNat := by
  unfold Lib.beNat; rw [beFrom_append]; rfl
theorem beFrom_lt (l : List UInt8) : ∀ acc, Lib.beFrom acc l < (acc + 1) * 256 ^ l.length := by
  induction l with
  | nil => intro acc; simp [Lib.beFrom]
  | cons b r ih =>
    intro acc
    have := ih (acc * 256 + b.toNat)
    have hb := b.toNat_lt
    refine Nat.lt_of_lt_of_le this ?_
    rw [List.length_cons, Nat.pow_succ, Nat.mul_comm (256 ^ r.length) 256, ← Nat.mul_assoc]
    exact Nat.mul_le_mul_right _ (by omega)
theorem beNat_lt (l : List UInt8) : Lib.beNat l < 256 ^ l.length := by
  have := beFrom_lt l 0
  simpa [Lib.beNat] using this
theorem pow_mono (k : Nat) (h : k ≤ 7) : 256 ^ k ≤ 72057594037927936 := by
  have := Nat.pow_le_pow_right (n := 256) (by omega) h
  simpa using this

set_option maxRecDepth 100000 in
theorem u64_any (w : World) {S : Nat → Prop} {v : Value} {bs : List UInt8} (h : Cs w S 1 v bs.length (u8s bs)) (h8 : 8 ≤ bs.length) :
    Calls Try.prog 28 #[v] w fun e w' => e = .returned (.int .u64 (Lib.beNat (bs.take 8))) ∧ w' = w := by
  obtain ⟨_, A, cap, rfl, hn, hc, hp⟩ := h
  obtain ⟨b, off, rfl, _, hlt, hcell⟩ := hp (by omega)
  simp only [maxLen] at hc
  have H := Lib.hid hcell; clear hcell hp
  go_enter Try.func28, Try.ntmps28
  go_wp2
  go_loopw [3, 9] (fun n i wr => wr = w ∧ ∃ k : Nat, k ≤ 8 ∧ i = .int .i64 k ∧ n = .int .u64 (Lib.beNat (bs.take k))) (fun _ i _ => 8 - (intOf i).toNat)
  case atStart => exact ⟨rfl, 0, by omega, rfl, by simp [Lib.beNat, Lib.beFrom]⟩
  case round =>
    obtain ⟨rfl, k, hk, rfl, rfl⟩ := hrel
    by_cases hlt8 : k < 8
    · have hg := H.out k _ (u8s_get bs k (by omega))
      have hx : bs[k].toNat < 256 := bs[k].toNat_lt
      have hN : Lib.beNat (bs.take k) < 72057594037927936 := by
        have := beNat_lt (bs.take k)
        rw [List.length_take, Nat.min_eq_left (by omega)] at this
        exact Nat.lt_of_lt_of_le this (pow_mono k (by omega))
      have hs : Lib.beNat (bs.take (k + 1)) = Lib.beNat (bs.take k) * 256 + bs[k].toNat := by
        rw [List.take_succ_eq_append_getElem (by omega), beNat_snoc]
      generalize Lib.beNat (bs.take k) = N at hN hs
      generalize bs[k].toNat = x at hg hx hs
      have hor : bits .or .u64 ((N : Int) * 256) (x : Int) = ((N * 256 + x : Nat) : Int) := by
        have := u64_or_nat (N * 256) x (by omega) (by omega)
        rw [or_shift N x hx] at this
        rw [← this]; congr 1
      go_wp2
      refine ⟨⟨trivial, k + 1, by omega, by push_cast; rfl, by rw [hs]; push_cast; rfl⟩, ?_⟩
      simp only [intOf]
      omega
    · have hk' : k = 8 := by omega
      subst hk'
      go_wp2
      go_ret
      exact ⟨rfl, rfl⟩

theorem leBytes_get : ∀ (k v i : Nat), i < k → (Lib.leBytes k v)[i]? = some ((v / 256 ^ i) % 256).toUInt8
  | 0, _, _, h => by omega
  | k + 1, v, 0, _ => by simp [Lib.leBytes]
  | k + 1, v, i + 1, h => by
    rw [Lib.leBytes, List.getElem?_cons_succ, leBytes_get k (v / 256) i (by omega), Nat.div_div_eq_div_mul, Nat.pow_succ, Nat.mul_comm 256]
theorem beBytes_get (v i : Nat) (h : i < 8) : (Lib.beBytes 8 v)[i]? = some ((v / 2 ^ (56 - 8 * i)) % 256).toUInt8 := by
  rw [Lib.beBytes, List.getElem?_reverse (by rw [Lib.leBytes_length]; omega), Lib.leBytes_length, leBytes_get 8 v _ (by omega), show (256 : Nat) = 2 ^ 8 from rfl, ← Nat.pow_mul, show 8 * (8 - 1 - i) = 56 - 8 * i by omega]

theorem put_step (w : World) (g o : Nat) (l : List UInt8) (k : Nat) (hk : k < l.length) : (w.setCells g o (u8s (l.take k))).setCell ⟨g, o + k, none⟩ (.int .u8 l[k].toNat) = w.setCells g o (u8s (l.take (k + 1))) := by
  have h := Lib.setCells_snoc_w g (.int .u8 l[k].toNat) (u8s (l.take k)) o w
  rw [u8s_length, List.length_take, Nat.min_eq_left (by omega)] at h
  rw [h, List.take_succ_eq_append_getElem (by omega)]
  simp only [u8s, List.map_append, List.map_cons, List.map_nil]

set_option maxRecDepth 100000 in
theorem put64_any (w : World) (g off n cap : Nat) (t : TypeId) (cs : List Value) (v : Nat) (hb : Blk w g t cs.toArray) (h8 : 8 ≤ n) (hl : off + n ≤ cs.length) :
    Calls Try.prog 33 #[.slice (some ⟨g, off, none⟩) n cap, .int .u64 v] w fun e w' => e = .returned (.tuple #[]) ∧ w' = w.setCells g off (u8s (Lib.beBytes 8 v)) := by
  obtain ⟨L, hL⟩ : ∃ L, L = Lib.beBytes 8 v := ⟨_, rfl⟩
  have hLl : L.length = 8 := by rw [hL, Lib.beBytes_length]
  have hg : ∀ i, i < 8 → L[i]? = some ((v / 2 ^ (56 - 8 * i)) % 256).toUInt8 := fun i hi => by rw [hL]; exact beBytes_get v i hi
  rw [← hL]
  have HG := Lib.hid hg; clear hg hL
  have HC := Lib.hid hl
  go_enter Try.func33, Try.ntmps33
  go_wp2
  go_loopw [5] (fun i wr => ∃ k : Nat, k ≤ 8 ∧ i = .int .i64 k ∧ wr = w.setCells g off (u8s (L.take k))) (fun i _ => 8 - (intOf i).toNat)
  case atStart => exact ⟨0, by omega, rfl, by simp [u8s, World.setCells]⟩
  case round =>
    obtain ⟨k, hk, rfl, hwr⟩ := hrel
    by_cases hlt8 : k < 8
    · have hgk := HG.out k hlt8
      have hbk := Blk.setCells (u8s (L.take k)) off w cs hb (by rw [u8s_length, List.length_take]; omega)
      rw [← hwr] at hbk
      have hst := put_step w g off L k (by omega)
      rw [← hwr] at hst
      have HW := Lib.hid hwr; clear hwr
      obtain ⟨old, hck⟩ : ∃ old, wr.cell? ⟨g, off + k, none⟩ = some old := by
        rw [hbk.cell, List.getElem?_toArray]
        exact ⟨_, List.getElem?_eq_getElem (by simp [u8s_length]; omega)⟩
      have hfk := hbk.frozen (off + k)
      have hby : ((v : Int) / 2 ^ (56 - 8 * k)) % 256 = (L[k].toNat : Int) := by
        rw [List.getElem?_eq_getElem (by omega)] at hgk
        injection hgk with e
        rw [e, Nat.toUInt8, UInt8.toNat_ofNat']
        push_cast
        omega
      clear hgk hbk
      go_wp2
      refine ⟨⟨k + 1, by omega, by push_cast; rfl, rfl⟩, ?_⟩
      simp only [intOf]
      omega
    · have hk' : k = 8 := by omega
      subst hk'
      rw [← hLl, List.take_length] at hwr
      have HW := Lib.hid hwr; clear hwr
      go_wp2
      go_end0
      exact ⟨rfl, HW.out⟩

end Go.Proofs.Ytcgokafhkkmaoaa
