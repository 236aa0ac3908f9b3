/- Contracts of the reference network: Double. -/
import Derived.Test.YthlebfhljmcedaaNetS
import Derived.Test.YthlebfhljmcedaaHoist2
namespace Go.Proofs.Ythlebfhljmcedaa
open Go.RowKit

set_option maxHeartbeats 1000000 in
theorem rdouble_any (q : Nat) (S : Nat → Prop) (N : NS) (k : Int) (w : World) (h : RefI w q S N) (hl1 : 0 ≤ N.last) (hl2 : N.last ≤ 1000000000000000) (hsz : (N.l.length + 1) * 40 ≤ 140737488355328) :
    Calls Try.prog 17 #[.pointer (some ⟨q, 0, none⟩), .int .i64 k] w fun e w' =>
      e = .returned (.tuple #[.int .i64 (N.double k).2.1, .int .i64 (N.double k).2.2]) ∧ ∃ S', RefI w' q S' (N.double k).1 ∧ Upd S Nil_ w w' S' Nil_ := by
  have href := Lib.hid h
  obtain ⟨hSq, hS, v, hb, ho, hv⟩ := h
  have hlt := hb.lt
  have hc := hb.cell
  obtain ⟨A, cap, rfl⟩ := ho.form
  have hcs := Cs.of_own ho (S := S) hv
  go_enter Try.func17, Try.ntmps17
  go_wp2
  go_loopw [6] (fun i wr => ∃ j : Nat, j ≤ N.l.length ∧ i = .int .i64 j ∧ Hid (∀ (m : Nat) (y : It), m < j → N.l[m]? = some y → (y.id == k) = false) ∧ wr = w) (fun i _ => N.l.length - (intOf i).toNat)
  case atStart => exact ⟨0, Nat.zero_le _, rfl, Lib.hid fun m y h => absurd h (by omega), rfl⟩
  case round =>
    obtain ⟨j, hj, rfl, hno, rfl⟩ := hrel
    by_cases hjl : j < N.l.length
    · obtain ⟨b, off, rfl, _, hbl, q0, q1, q2, q3⟩ := ritems_at hcs hjl
      have Hgm := Lib.hid (List.getElem?_eq_getElem hjl)
      by_cases heq : (N.l[j].id == k) = true
      · go_wp2
        have e : N.double k = N.add N.l[j].fr N.l[j].rc N.l[j].body := by
          unfold NS.double; rw [at_found _ _ j _ Hgm.out heq hno.out]; simp [List.getD, Hgm.out]
        have He := Lib.hid e; clear e
        refine wp_region_two [0, 1, 2, 3, 4, 5, 6, 7, 8, 9, 10, 11, 12, 13, 14, 15, 16, 17, 18, 19, 20, 21, 22, 23, 24] [25] [26, 27, 28, 29, 30]
          (fun w' => w'.cell? ⟨q, 0, none⟩ = some (.slice (some ⟨b, off, none⟩) N.l.length cap) ∧ w'.cell? ⟨b, off + j * 4 + 1, none⟩ = some (.int .i64 N.l[j].fr) ∧ w'.cell? ⟨b, off + j * 4 + 2, none⟩ = some (.int .i64 N.l[j].rc) ∧ w'.cell? ⟨b, off + j * 4 + 3, none⟩ = some (.string (str N.l[j].body)))
          (by kernel_rfl) (by kernel_rfl) (by kernel_rfl) (by kernel_rfl) (by kernel_rfl) (by kernel_rfl) (by kernel_rfl) (by kernel_rfl) (by kernel_rfl) ⟨hc 0, q1, q2, q3⟩ ?_
        (repeat (refine HoistK.yes (by rfl) (by rfl) ⟨?_, fun w hSw => ?_, ?_⟩; rotate_left; (· go_simp; try with_reducible rfl); simp only [Act.put, List.setIfInBounds_toArray]))
        refine HoistK.nil_ ?_
        simp only [opsAt, List.filterMap_cons, List.filterMap_nil, List.getElem?_toArray, List.getElem?_cons_succ, List.getElem?_cons_zero]
        refine EffK.cons_ fun _ _ => ?_
        have hrd := (href.out.keep (w' := wr.drew) (Nat.le_refl _) (fun _ _ => rfl))
        have hud : Upd S Nil_ wr wr.drew S Nil_ := ⟨(Chg.refl _ _).drew, fun _ h => .inl h, fun _ h => .inl h⟩
        go_wp2_with (go_at_call 22; refine (radd_any q S N _ _ _ _ hrd hl1 hl2 hsz).mono ?_; rintro e w1 ⟨rfl, S', hR, hU⟩)
        refine EffK.nil_ ?_
        (repeat (refine HoistK.yes (by rfl) (by rfl) ⟨?_, fun w hSw => ?_, ?_⟩; rotate_left; (· go_simp; try with_reducible rfl); simp only [Act.put, List.setIfInBounds_toArray]))
        refine HoistK.nil_ fun _ _ => ?_
        go_wp2
        go_ret2
        rw [He.out]
        exact ⟨rfl, S', hR, hud.trans hU⟩
      · have heq' : (N.l[j].id == k) = false := by simpa using heq
        clear heq
        go_wp2
        go_roundw
        case rel => exact ⟨j + 1, by omega, by go_num, Lib.hid fun m y hm hy => by
          by_cases e : m = j
          · subst e
            rw [Hgm.out] at hy
            injection hy with hy
            rw [← hy]; exact heq'
          · exact hno.out m y (by omega) hy, trivial⟩
        case measure => simp [intOf]; omega
    · go_wp2
      go_ret2
      have e : N.double k = (N, 0, 32) := by
        unfold NS.double; rw [at_not _ _ (fun m y hy => hno.out m y (by have := (List.getElem?_eq_some_iff.1 hy).1; omega) hy)]
      rw [e]
      exact ⟨rfl, S, href.out, Upd.refl _ _ _⟩

end Go.Proofs.Ythlebfhljmcedaa
