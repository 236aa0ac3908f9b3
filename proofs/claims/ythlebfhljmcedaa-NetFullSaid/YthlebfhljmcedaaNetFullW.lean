/- NetFull: the walk. -/
import Derived.Test.YthlebfhljmcedaaNetG
namespace Go.Proofs.Ythlebfhljmcedaa
open Go.RowKit

/-- What waits behind j sends. -/
def sent (body : List UInt8) (j : Nat) : List It := (List.range j).map fun i : Nat => ⟨(i : Int) + 1, i, i, body⟩
theorem sent_length (body : List UInt8) (j : Nat) : (sent body j).length = j := by simp [sent]
theorem sent_succ (body : List UInt8) (j : Nat) : sent body (j + 1) = sent body j ++ [⟨(j : Int) + 1, j, j, body⟩] := by simp [sent, List.range_succ]
theorem sent_get (body : List UInt8) (j i : Nat) (h : i < j) : (sent body j)[i]? = some ⟨(i : Int) + 1, i, i, body⟩ := by simp [sent, h]
theorem at_some {l : List It} {k : Int} {i : Nat} {x : It} (h : l[i]? = some x) (hx : x.id = k) (hb : ∀ (j : Nat) (y : It), j < i → l[j]? = some y → y.id ≠ k) : at_ l k = some i := by
  unfold at_
  rw [List.findIdx?_eq_some_iff_getElem]
  have hlt := (List.getElem?_eq_some_iff.1 h).1
  refine ⟨hlt, ?_, fun j hj => ?_⟩
  · have e := (List.getElem?_eq_some_iff.1 h).2
    rw [e]; simp [hx]
  · have := hb j l[j] hj (List.getElem?_eq_getElem (by omega))
    simp [this]
theorem full_send (k j : Nat) (body : List UInt8) (h : j < k) : NS.add ⟨k, j, sent body j⟩ j j body = (⟨k, (j : Int) + 1, sent body (j + 1)⟩, (j : Int) + 1, 0) := by
  unfold NS.add
  rw [if_neg (by simp only [sent_length]; omega), sent_succ]
theorem full_more (k : Nat) (fr rc : Int) (body b : List UInt8) : NS.add ⟨k, k, sent body k⟩ fr rc b = (⟨k, k, sent body k⟩, 0, 42) := by
  unfold NS.add
  rw [if_pos (by simp only [sent_length]; omega)]
theorem full_at (k : Nat) (body : List UInt8) (h : 0 < k) : at_ (sent body k) 1 = some 0 := at_some (sent_get body k 0 h) rfl (fun j y hj => by omega)
theorem full_double (k : Nat) (body : List UInt8) (h : 0 < k) : NS.double ⟨k, k, sent body k⟩ 1 = (⟨k, k, sent body k⟩, 0, 42) := by
  unfold NS.double
  simp only [full_at k body h]
  exact full_more _ _ _ _ _
theorem full_drop (k : Nat) (body : List UInt8) (h : 0 < k) : NS.take ⟨k, k, sent body k⟩ 1 = (⟨k, k, (sent body k).eraseIdx 0⟩, ⟨1, 0, 0, body⟩, 0) := by
  unfold NS.take
  simp only [full_at k body h]
  simp [List.getD, sent_get body k 0 h]
theorem rest_get (k i : Nat) (body : List UInt8) (h : i + 1 < k) : ((sent body k).eraseIdx 0)[i]? = some ⟨(i : Int) + 1 + 1, (i : Int) + 1, (i : Int) + 1, body⟩ := by
  rw [List.getElem?_eraseIdx, if_neg (by omega), sent_get body k (i + 1) h]
  simp
theorem rest_length (k : Nat) (body : List UInt8) (h : 0 < k) : ((sent body k).eraseIdx 0).length = k - 1 := by
  rw [List.length_eraseIdx, sent_length, if_pos h]
theorem full_again (k : Nat) (body : List UInt8) (h : 2 ≤ k) : ∃ x : It, NS.double ⟨k, k, (sent body k).eraseIdx 0⟩ k = (⟨k, (k : Int) + 1, (sent body k).eraseIdx 0 ++ [x]⟩, (k : Int) + 1, 0) := by
  have ha : at_ ((sent body k).eraseIdx 0) k = some (k - 2) := at_some (rest_get k (k - 2) body (by omega)) (by simp; omega) (fun j y hj hy => by
    rw [rest_get k j body (by omega)] at hy
    injection hy with hy
    rw [← hy]; simp; omega)
  unfold NS.double
  simp only [ha]
  unfold NS.add
  rw [if_neg (by simp only [rest_length k body (by omega)]; omega)]
  exact ⟨_, rfl⟩
theorem full_one (body : List UInt8) : NS.double ⟨((1 : Nat) : Int), ((1 : Nat) : Int), (sent body 1).eraseIdx 0⟩ 1 = (⟨1, 1, []⟩, 0, 32) := rfl
theorem full_last (k : Nat) (body : List UInt8) (h : 2 ≤ k) (x : It) (b : List UInt8) : NS.add ⟨k, (k : Int) + 1, (sent body k).eraseIdx 0 ++ [x]⟩ 0 0 b = (⟨k, (k : Int) + 1, (sent body k).eraseIdx 0 ++ [x]⟩, 0, 42) := by
  unfold NS.add
  rw [if_pos (by simp only [List.length_append, List.length_singleton, rest_length k body (by omega)]; omega)]
theorem most_mod (most : Int) : ∃ k : Nat, k < 200 ∧ wrap64 ((IntKind.u64.wrap most).tmod 200) = k := by
  have h : 0 ≤ IntKind.u64.wrap most := by simp [IntKind.wrap, IntKind.signed]; omega
  rw [Int.tmod_eq_emod_of_nonneg h]
  have h2 : 0 ≤ IntKind.u64.wrap most % 200 := Int.emod_nonneg _ (by decide)
  have h3 : IntKind.u64.wrap most % 200 < 200 := Int.emod_lt_of_pos _ (by decide)
  refine ⟨(IntKind.u64.wrap most % 200).toNat, by omega, ?_⟩
  rw [IntWalk.wrap64_in _ ⟨by omega, by omega⟩]
  omega

set_option maxRecDepth 100000 in
set_option maxHeartbeats 4000000 in
theorem full_any (most : Int) (v : Value) (body : List UInt8) (w : World) (h : Bs w (fun b => b < w.heap.size) v body) :
    Calls Try.prog 7 #[.int .i64 most, v] w fun e w' => e = .returned (.bool true) ∧ Below w.heap.size w w' := by
  obtain ⟨A, cap, rfl⟩ := h.form
  go_enter Try.func7, Try.ntmps7
  go_wp2_with fail
  refine (awake_any w).mono ?_
  rintro e w1 ⟨rfl, hb1⟩
  go_wp2_with fail
  obtain ⟨k, hk, e⟩ := most_mod most
  rw [e]
  clear e
  refine (new_to _ w1).mono ?_
  rintro e w2 ⟨p, S, B, rfl, h2, u2⟩
  have v2 : Upd (New w) (New w) w w2 S B := u2.of_new hb1
  rw [show max (k : Int) 0 = k from by omega] at h2
  clear u2
  go_wp2_with fail
  go_loopw [6] (fun i wr => ∃ (j : Nat) (S B : Nat → Prop), j ≤ k ∧ i = .int .i64 j ∧ NetI wr p S B ⟨k, j, sent body j⟩ ∧ Upd (New w) (New w) w wr S B) (fun i _ => k - (intOf i).toNat)
  case atStart => exact ⟨0, S, B, Nat.zero_le _, rfl, h2, v2⟩
  case round =>
    clear h2 v2 S B
    obtain ⟨j, S, B, hj, rfl, hN, hu⟩ := hrel
    have hpw : w.heap.size ≤ p := (hu.2.1 p hN.1).elim id id
    have hbs := h.below hu.new_below
    by_cases hlt : j < k
    · have E0 := Lib.hid (full_send k j body hlt)
      go_wp2_with (go_at_call 10; refine (send_to hN E0.out hbs (by simp; omega) (by simp) (by simp; omega) (by simp only [sent_length]; omega)).mono ?_; rintro e wx ⟨rfl, S', B', hx, ux⟩)
      go_roundw
      case rel => exact ⟨j + 1, S', B', by omega, by go_num, hx, hu.trans ux⟩
      case measure => simp [intOf]; omega
    · obtain rfl : j = k := by omega
      clear hlt hj
      have E0 := Lib.hid (full_more j 0 0 body body)
      have hj0 : (0 : Int) ≤ (j : Int) := Int.natCast_nonneg _
      have hsl := sent_length body j
      have Hsl := Lib.hid hsl; clear hsl
      by_cases h0 : j = 0
      · subst h0
        go_wp2_with fail
        refine (send_to hN E0.out hbs (by simp; omega) (by simp) (by simp) (by simp [sent])).mono ?_
        rintro e w3 ⟨rfl, S3, B3, h3, u3⟩
        go_wp2_with fail
        refine (double_to (N' := ⟨0, 0, []⟩) (i := 0) (e := 32) h3 rfl (by simp) (by simp) (by simp [sent])).mono ?_
        rintro e w4 ⟨rfl, S4, B4, h4, u4⟩
        go_wp2_with fail
        refine (len_any p _ _ _ _ h4).mono ?_
        rintro e w5 ⟨rfl, rfl⟩
        go_wp2
        go_ret
        exact ⟨rfl, ((hu.trans u3).trans u4).new_below⟩
      have E1 := Lib.hid (full_double j body (by omega))
      have E2 := Lib.hid (full_drop j body (by omega))
      have d0 : ((j : Int) == 0) = false := by simp; omega
      have d1 : decide ((0 : Int) < (j : Int)) = true := by simp; omega
      have d2 : decide (0 < j) = true := by simp; omega
      have hpos : 0 < j := by omega
      clear h0
      go_wp2_with fail
      refine (send_to hN E0.out hbs (by simp; omega) (by simp) (by simp; omega) (by rw [Hsl.out]; omega)).mono ?_
      rintro e w3 ⟨rfl, S3, B3, h3, u3⟩
      go_wp2_with fail
      refine (double_to h3 E1.out (by simp) (by simp; omega) (by rw [Hsl.out]; omega)).mono ?_
      rintro e w4 ⟨rfl, S4, B4, h4, u4⟩
      go_wp2_with fail
      refine (len_any p _ _ _ _ h4).mono ?_
      rintro e w5 ⟨rfl, rfl⟩
      rw [Hsl.out]
      go_wp2_with fail
      refine (drop_to h4 E2.out (by rw [Hsl.out]; omega)).mono ?_
      rintro e w6 ⟨rfl, h6, u6⟩
      have v6 := ((hu.trans u3).trans u4).trans u6
      clear hN h3 h4 u3 u4 u6 hu
      by_cases h1 : j = 1
      · subst h1
        go_wp2_with fail
        refine (double_to h6 (full_one body) (by simp) (by simp) (by simp [sent])).mono ?_
        rintro e w7 ⟨rfl, S7, B7, h7, u7⟩
        go_wp2
        go_ret
        exact ⟨rfl, (v6.trans u7).new_below⟩
      have d3 : ((j : Int) == 1) = false := by simp; omega
      obtain ⟨x, E3⟩ := full_again j body (by omega)
      have E4 := Lib.hid (full_last j body (by omega) x body)
      have E3' := Lib.hid E3
      have Hrl := Lib.hid (rest_length j body (by omega))
      clear h1 E3
      have hj9 : (j : Int) + 1 ≤ 1000 := by omega
      have hbs6 := h.below v6.new_below
      go_wp2_with fail
      refine (double_to h6 E3'.out (by simp) (by simp; omega) (by rw [Hrl.out]; omega)).mono ?_
      rintro e w7 ⟨rfl, S7, B7, h7, u7⟩
      have hbs7 := h.below (v6.trans u7).new_below
      go_wp2_with fail
      refine (send_to h7 E4.out hbs7 (by simp; omega) (by simp; omega) (by simp; omega) (by rw [List.length_append, Hrl.out, List.length_singleton]; omega)).mono ?_
      rintro e w8 ⟨rfl, S8, B8, h8, u8⟩
      go_wp2
      go_ret
      exact ⟨rfl, ((v6.trans u7).trans u8).new_below⟩

end Go.Proofs.Ythlebfhljmcedaa
