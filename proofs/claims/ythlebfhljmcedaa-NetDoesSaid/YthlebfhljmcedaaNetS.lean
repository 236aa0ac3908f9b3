/- Contracts of the reference network: add and Send in one word, Take, Double. -/
import Derived.Test.YthlebfhljmcedaaNetR
namespace Go.Proofs.Ythlebfhljmcedaa
open Go.RowKit

theorem radd_any (q : Nat) (S : Nat → Prop) (N : NS) (fr rc : Int) (body : List UInt8) (w : World) (h : RefI w q S N)
    (hl1 : 0 ≤ N.last) (hl2 : N.last ≤ 1000000000000000) (hsz : (N.l.length + 1) * 40 ≤ 140737488355328) :
    Calls Try.prog 22 #[.pointer (some ⟨q, 0, none⟩), .int .i64 fr, .int .i64 rc, .string (str body)] w fun e w' =>
      e = .returned (.tuple #[.int .i64 (N.add fr rc body).2.1, .int .i64 (N.add fr rc body).2.2]) ∧ ∃ S', RefI w' q S' (N.add fr rc body).1 ∧ Upd S Nil_ w w' S' Nil_ := by
  by_cases hfull : N.most ≤ N.l.length
  · refine (radd_full q S N fr rc _ w h hfull).mono ?_
    rintro e w' ⟨rfl, hb⟩
    have e : N.add fr rc body = (N, 0, 42) := by unfold NS.add; rw [if_pos hfull]
    rw [e]
    exact ⟨rfl, S, h.below hb, Upd.of_below hb⟩
  · refine (radd_room q S N fr rc body w h (by omega) hl1 hl2 hsz).mono ?_
    rintro e w' ⟨rfl, hb⟩
    have e : N.add fr rc body = (⟨N.most, N.last + 1, N.l ++ [⟨N.last + 1, fr, rc, body⟩]⟩, N.last + 1, 0) := by unfold NS.add; rw [if_neg hfull]
    rw [e]
    exact ⟨rfl, hb⟩

theorem rsend_any (q : Nat) (S : Nat → Prop) (N : NS) (fr rc : Int) (body : List UInt8) (w : World) (h : RefI w q S N)
    (hl1 : 0 ≤ N.last) (hl2 : N.last ≤ 1000000000000000) (hsz : (N.l.length + 1) * 40 ≤ 140737488355328) :
    Calls Try.prog 11 #[.pointer (some ⟨q, 0, none⟩), .int .i64 fr, .int .i64 rc, .string (str body)] w fun e w' =>
      e = .returned (.tuple #[.int .i64 (N.add fr rc body).2.1, .int .i64 (N.add fr rc body).2.2]) ∧ ∃ S', RefI w' q S' (N.add fr rc body).1 ∧ Upd S Nil_ w w' S' Nil_ := by
  have H := Lib.hid (radd_any q S N fr rc body w h hl1 hl2 hsz)
  clear h
  go_enter Try.func11, Try.ntmps11
  go_wp2_with (go_at_call 22; refine H.out.mono ?_; rintro e w1 ⟨rfl, h1⟩)
  go_ret2
  exact ⟨rfl, h1⟩

theorem at_found (l : List It) (k : Int) (i : Nat) (x : It) (h : l[i]? = some x) (hx : (x.id == k) = true) (hb : ∀ (j : Nat) (y : It), j < i → l[j]? = some y → (y.id == k) = false) : at_ l k = some i := by
  have := atInt_found l k i x h hx hb
  unfold atInt at this
  split at this
  · rename_i a e; rw [e, Int.ofNat_inj.1 this]
  · omega
theorem at_not (l : List It) (k : Int) (hb : ∀ (j : Nat) (y : It), l[j]? = some y → (y.id == k) = false) : at_ l k = none := by
  have := atInt_none l k hb
  unfold atInt at this
  split at this
  · omega
  · assumption

/-- The rest of a slice, as Op.slice spells it. -/
theorem Cs.tail {w : World} {S : Nat → Prop} {size n b off cap : Nat} {xs : List Value} (h : Cs w S size (.slice (some ⟨b, off, none⟩) n cap) n xs) (i : Nat) (hi : i ≤ n) :
    Cs w S size (.slice (if cap = i then some ⟨b, off, none⟩ else some ⟨b, off + i * size, none⟩) (n - i) (cap - i)) (n - i) (xs.drop (i * size)) := by
  obtain ⟨hl, A, cap', e, h2, h3, hp⟩ := h
  injection e with e1 e2 e3
  subst e1; subst e3
  refine ⟨by rw [List.length_drop, hl, Nat.sub_mul], _, _, rfl, by omega, by omega, fun hpos => ?_⟩
  obtain ⟨b', off', e, hs, hb, hc⟩ := hp (by omega)
  simp only [Option.some.injEq, Addr.mk.injEq, and_true] at e
  obtain ⟨rfl, rfl⟩ := e
  rw [if_neg (by omega)]
  refine ⟨b, off + i * size, rfl, hs, hb, fun j u hu => ?_⟩
  rw [List.getElem?_drop] at hu
  have := hc (i * size + j) u hu
  rw [Nat.add_assoc]; exact this

set_option maxHeartbeats 1000000 in
theorem rtake_any (q : Nat) (S : Nat → Prop) (N : NS) (k : Int) (w : World) (h : RefI w q S N) (hsz : N.l.length * 40 ≤ 140737488355328) :
    Calls Try.prog 13 #[.pointer (some ⟨q, 0, none⟩), .int .i64 k] w fun e w' =>
      e = .returned (.tuple #[.agg #[.int .i64 (N.take k).2.1.id, .int .i64 (N.take k).2.1.fr, .int .i64 (N.take k).2.1.rc, .string (str (N.take k).2.1.body)], .int .i64 (N.take k).2.2]) ∧
        ∃ S', RefI w' q S' (N.take k).1 ∧ Upd S Nil_ w w' S' Nil_ := by
  have href := Lib.hid h
  obtain ⟨hSq, hS, v, hb, ho, hv⟩ := h
  have hlt := hb.lt
  have hb0 := hb.alloc (.cells #[.int .i64 0, .int .i64 0, .int .i64 0, .string ⟨#[]⟩] 42)
  have ho0 := ho.alloc (.cells #[.int .i64 0, .int .i64 0, .int .i64 0, .string ⟨#[]⟩] 42)
  have hr0 := Blk.new w 42 #[.int .i64 0, .int .i64 0, .int .i64 0, .string ⟨#[]⟩]
  have hch0 := (Chg.refl (fun _ => False) w).alloc (.cells #[.int .i64 0, .int .i64 0, .int .i64 0, .string ⟨#[]⟩] 42)
  have hbl0 := (Below.refl w.heap.size w).alloc (Nat.le_refl _) (.cells #[.int .i64 0, .int .i64 0, .int .i64 0, .string ⟨#[]⟩] 42)
  have hc := hb0.cell
  have hfr := hb0.frozen
  have hrc := hr0.cell
  have hrf := hr0.frozen
  obtain ⟨A, cap, rfl⟩ := ho.form
  have hcs := Cs.of_own ho0 (S := S) hv
  go_enter Try.func13, Try.ntmps13
  go_wp2
  go_loopw [6] (fun i wr => ∃ j : Nat, j ≤ N.l.length ∧ i = .int .i64 j ∧ Hid (∀ (m : Nat) (y : It), m < j → N.l[m]? = some y → (y.id == k) = false) ∧ wr = w.alloc (.cells #[.int .i64 0, .int .i64 0, .int .i64 0, .string ⟨#[]⟩] 42)) (fun i _ => N.l.length - (intOf i).toNat)
  case atStart => exact ⟨0, Nat.zero_le _, rfl, Lib.hid fun m y h => absurd h (by omega), rfl⟩
  case round =>
    obtain ⟨j, hj, rfl, hno, rfl⟩ := hrel
    by_cases hjl : j < N.l.length
    · obtain ⟨b, off, rfl, _, hbl, q0, q1, q2, q3⟩ := ritems_at hcs hjl
      obtain rfl : off = 0 := by
        obtain ⟨g, c, e, _⟩ := World.ownsRow.form ho (by omega)
        simp only [Value.slice.injEq, Option.some.injEq, Addr.mk.injEq] at e
        exact e.1.2.1
      simp only [Nat.zero_add] at q0 q1 q2 q3
      have Hgm := Lib.hid (List.getElem?_eq_getElem hjl)
      have hnb : b ≠ q := fun e => own_blk_ne ho hb (by decide) (by rw [← e]; rfl)
      by_cases heq : (N.l[j].id == k) = true
      · have hle : (j : Int) ≤ (N.l.length : Int) := by omega
        have hle1 : (j : Int) + 1 ≤ (N.l.length : Int) := by omega
        go_wp2
        refine at_world (fun W => Blk W q 29 #[.slice (some ⟨b, 0, none⟩) N.l.length cap, .int .i64 N.most, .int .i64 N.last] ∧ Own W 42 4 (.slice (some ⟨b, 0, none⟩) N.l.length cap) N.l.length (flatR N.l) ∧
          Blk W w.heap.size 42 #[.int .i64 0, .int .i64 0, .int .i64 0, .string ⟨#[]⟩] ∧ Blk W (w.heap.size + 1) 42 #[.int .i64 N.l[j].id, .int .i64 N.l[j].fr, .int .i64 N.l[j].rc, .string (str N.l[j].body)] ∧
          Chg (fun _ => False) w W ∧ W.heap.size = w.heap.size + 2) ?_ ?_
        · refine ⟨hb0.alloc _, ho0.alloc _, hr0.alloc _, ?_, hch0.alloc _, by simp⟩
          have := Blk.new (w.alloc (.cells #[.int .i64 0, .int .i64 0, .int .i64 0, .string ⟨#[]⟩] 42)) 42 #[.int .i64 N.l[j].id, .int .i64 N.l[j].fr, .int .i64 N.l[j].rc, .string (str N.l[j].body)]
          simpa using this
        · rintro W ⟨hbW, hoW, hrW, hxW, hchW, hszW⟩
          have hcW := hbW.cell
          clear hc hrc hrf q0 q1 q2 q3
          obtain ⟨hnc, hcm⟩ := hoW.cap_le
          unfold maxLen at hcm
          have hi0 : (0 : Int) ≤ (j : Int) := Int.natCast_nonneg _
          have hi1 : (0 : Int) ≤ (j : Int) + 1 := by omega
          have hi2 : (j : Int) ≤ (cap : Int) := by omega
          have hi3 : (N.l.length : Int) ≤ (cap : Int) := by omega
          have hi4 : j ≤ cap := by omega
          have hi5 : j + 1 ≤ N.l.length := by omega
          have hi6 : (j : Int) + 1 ≤ (cap : Int) := by omega
          refine wp_region_hoist [0, 2, 3, 4, 5, 6, 7, 9, 10, 11, 12, 13, 14, 15] [1, 8, 16] [17, 18, 19] (fun w' => w'.cell? ⟨q, 0, none⟩ = some (.slice (some ⟨b, 0, none⟩) N.l.length cap))
            (by kernel_rfl) (by kernel_rfl) (by kernel_rfl) (by kernel_rfl) (by kernel_rfl) (by kernel_rfl) (hcW 0) ?_
          have hwr : IntKind.i64.wrap ((j : Int) + 1) = (j : Int) + 1 := by first | (simp [go_sem]; done) | (rw [IntKind.wrap_i64]; omega) | (simp [go_sem]; omega)
          have hwt : ((j : Int) + 1).toNat = j + 1 := by omega
          obtain ⟨Ax, hAx'⟩ : ∃ Ax, ∀ d : Decidable (cap = j + 1), @ite _ (cap = j + 1) d (some (⟨b, 0, none⟩ : Addr)) (some ⟨b, (j + 1) * 4, none⟩) = Ax := ⟨if cap = j + 1 then _ else _, fun d => by congr⟩
          have hAx := Lib.hid hAx'; clear hAx'
          (repeat (refine HoistK.yes (by rfl) (by rfl) ⟨?_, fun w hSw => ?_, ?_⟩; rotate_left; (· go_simp; try (first | rw [hAx.out] | with_reducible rfl)); simp only [Act.put, List.setIfInBounds_toArray]))
          refine HoistK.nil_ ?_
          simp only [opsAt, List.filterMap_cons, List.filterMap_nil, List.getElem?_toArray, List.getElem?_cons_succ, List.getElem?_cons_zero]
          refine Effects.cons_ fun _ hQ1 => ?_
          go_wp2_with fail
          have hsW : W.heap.size = w.heap.size + 2 := hszW
          have hoE : Own (W.alloc (.cells #[] 42)).drew 42 4 (.slice (some ⟨w.heap.size + 2, 0, none⟩) 0 0) 0 [] := by rw [← hszW]; exact (Own.empty W _ 4).drew
          have hb2 := (hbW.alloc (.cells #[] 42)).drew
          have ho2 := (hoW.alloc (.cells #[] 42)).drew
          have hr2 := (hrW.alloc (.cells #[] 42)).drew
          have hx2 := (hxW.alloc (.cells #[] 42)).drew
          have hch2 : Chg (fun _ => False) w (W.alloc (.cells #[] 42)).drew := (hchW.alloc _).drew
          have hsrc1 := Cs.of_own (Own.short ho2 (k := j) (by omega)) (S := fun _ => True) (fun _ _ => trivial)
          have hone : ∀ u ∈ flatR N.l, u.oneCell' = true := flatR_one N.l
          refine hQ1 _ _ (hb2.cell 0) (Effects.cons_ fun _ hQ2 => ?_)
          clear hQ1
          go_wp2_with (at_builtin; refine wpList_app _ rfl _ _ _ rfl Try.underlying27 info_ritem rfl (by decide) hoE rfl hsrc1 rfl (fun u hu => hone u (List.mem_of_mem_take hu)) (by simp only [maxLen]; omega) (by omega) ?_; intro v3 w3 ho3 hg3 hnil3 hat3)
          have hs2 : (W.alloc (.cells #[] 42)).drew.heap.size = w.heap.size + 3 := by simp [hszW]
          have hg3' : Chg (fun b => b = w.heap.size + 2) _ w3 := hg3.mono (fun b hb => by simp [Value.ownBlock] at hb; exact hb.symm)
          have hs3 := hg3.size
          have hne3 : q ≠ w.heap.size + 2 := by omega
          have hne4 : ∀ k', (Value.slice (some ⟨b, 0, none⟩) N.l.length cap).ownBlock = some k' → k' < w.heap.size := fun k' hk' => hS k' (hv k' hk')
          have hb3 := hb2.chg hg3' hne3
          have ho3' := own_keep ho2 (fun k' hk' => hg3'.block k' (own_lt ho2 hk') (by have := hne4 k' hk'; omega))
          have hr3 := hr2.chg hg3' (by omega)
          have hx3 := hx2.chg hg3' (by omega)
          have hch3 : Chg (fun _ => False) w w3 := hch2.trans hg3' (fun b hb => .inr (by omega))
          have hat3' : ∀ k', v3.ownBlock = some k' → w.heap.size + 2 ≤ k' := fun k' hk' => by
            rcases hat3 with e | e <;> rw [e] at hk'
            · simp [Value.ownBlock] at hk'; omega
            · injection hk' with hk'; omega
          obtain ⟨A3, cap3, rfl⟩ := ho3.form
          refine hQ2 _ _ (hb3.cell 0) (Effects.cons_ fun _ hQ3 => ?_)
          clear hQ2
          have hsrc2 := (Cs.of_own ho3' (S := fun _ => True) (fun _ _ => trivial)).tail (j + 1) (by omega)
          rw [Nat.zero_add, hAx.out] at hsrc2
          have hln : 0 + j + (N.l.length - (j + 1)) + 1 = N.l.length := by omega
          go_wp2_with (at_builtin; refine wpList_app _ rfl _ _ _ rfl Try.underlying27 info_ritem rfl (by decide) ho3 rfl hsrc2 rfl (fun u hu => hone u (List.mem_of_mem_drop hu)) (by simp only [maxLen]; omega) (by omega) ?_; intro v4 w4 ho4 hg4 hnil4 hat4)
          have hg4' : Chg (fun b => w.heap.size + 2 ≤ b) w3 w4 := hg4.mono hat3'
          have hs4 := hg4.size
          have hb4 := hb3.chg hg4' (by omega)
          have hr4 := hr3.chg hg4' (by omega)
          have hx4 := hx3.chg hg4' (by omega)
          have hch4 : Chg (fun _ => False) w w4 := hch3.trans hg4' (fun b hb => .inr (by omega))
          have hat4' : ∀ k', v4.ownBlock = some k' → w.heap.size + 2 ≤ k' := fun k' hk' => by
            rcases hat4 with e | e <;> rw [e] at hk'
            · exact hat3' k' hk'
            · injection hk' with hk'; omega
          obtain ⟨A4, cap4, rfl⟩ := ho4.form
          refine hQ3 _ _ (hb4.cell 0) (Effects.nil_ fun _ hQ4 => ?_)
          clear hQ3
          have hc4 := hb4.cell
          have hf4 := hb4.frozen
          have hcr4 := hr4.cell
          have hfr4 := hr4.frozen
          have hcx4 := hx4.cell
          have hfx4 := hx4.frozen
          have hn1 : q ≠ w.heap.size := by omega
          have hn2 : q ≠ w.heap.size + 1 := by omega
          go_wp2
          have e : N.take k = (⟨N.most, N.last, N.l.eraseIdx j⟩, N.l[j], 0) := by
            unfold NS.take; rw [at_found _ _ j _ Hgm.out heq hno.out]; simp [List.getD, Hgm.out]
          refine bodyPost_ret (v := .tuple #[.agg #[.int .i64 N.l[j].id, .int .i64 N.l[j].fr, .int .i64 N.l[j].rc, .string (str N.l[j].body)], .int .i64 0]) (by simp [results, Try.results13, go_sem, hcr4]) rfl ?_
          rw [e]
          refine ⟨rfl, fun b => S b ∨ (w.heap.size ≤ b ∧ b < w4.heap.size), ?_, ?_⟩
          · rw [Nat.zero_add] at ho4
            have hlen : j + (N.l.length - (j + 1)) = (N.l.eraseIdx j).length := by rw [List.length_eraseIdx, if_pos hjl]; omega
            have hfl : [] ++ (flatR N.l).take (j * 4) ++ (flatR N.l).drop ((j + 1) * 4) = flatR (N.l.eraseIdx j) := by
              rw [List.nil_append, flatR_take, flatR_drop, ← flatR_append, List.eraseIdx_eq_take_drop_succ]
            rw [Nat.zero_add] at hat4'
            rw [hfl] at ho4
            have hcf := (((((Chg.refl (fun b => b = q ∨ b = w.heap.size) w4).setOf (.inl rfl) 0 (.slice A4 (j + (N.l.length - (j + 1))) cap4)).setOf (.inr rfl) 0 (.int .i64 N.l[j].id)).setOf (.inr rfl) 1 (.int .i64 N.l[j].fr)).setOf (.inr rfl) 2 (.int .i64 N.l[j].rc)).setOf (.inr rfl) 3 (.string (str N.l[j].body))
            refine ⟨.inl hSq, ?_, .slice A4 (j + (N.l.length - (j + 1))) cap4, ((((hb4.set_ 0 _).far (p := ⟨w.heap.size, 0, none⟩) hn1 _).far (p := ⟨w.heap.size, 1, none⟩) hn1 _).far (p := ⟨w.heap.size, 2, none⟩) hn1 _).far (p := ⟨w.heap.size, 3, none⟩) hn1 _, ?_, ?_⟩
            · rintro b (hb | hb)
              · have := hS b hb; simp only [World.size_setCell]; omega
              · simpa using hb.2
            · rw [← hlen]
              exact own_keep ho4 (fun k' hk' => hcf.block k' (own_lt ho4 hk') (by have := hat4' k' hk'; omega))
            · intro k' hk'
              exact .inr ⟨by have := hat4' k' hk'; omega, own_lt ho4 hk'⟩
          · have hcf : Chg (fun b => b = q) w _ := ((((((hch4.mono (M' := fun b => b = q) (fun _ h => h.elim)).setOf rfl 0 (.slice A4 (j + (N.l.length - (j + 1))) cap4)).setNew (Nat.le_refl _) 0 (.int .i64 N.l[j].id)).setNew (Nat.le_refl _) 1 (.int .i64 N.l[j].fr)).setNew (Nat.le_refl _) 2 (.int .i64 N.l[j].rc)).setNew (Nat.le_refl _) 3 (.string (str N.l[j].body)))
            exact ⟨hcf.mono (fun b hb => hb ▸ hSq), fun b hb => hb.elim .inl (fun h => .inr h.1), fun b hb => .inl hb⟩
      · have heq' : (N.l[j].id == k) = false := by simpa using heq
        clear heq
        go_wp2
        go_roundw
        case rel => exact ⟨j + 1, by omega, by go_num, Lib.hid fun m y hm hy => by
          by_cases e : m = j
          · subst e
            rw [Hgm.out] at hy
            injection hy with hy
            rw [← hy]; exact heq'
          · exact hno.out m y (by omega) hy, trivial⟩
        case measure => simp [intOf]; omega
    · go_wp2
      refine bodyPost_ret (v := .tuple #[.agg #[.int .i64 0, .int .i64 0, .int .i64 0, .string (str [])], .int .i64 32]) (by simp [results, Try.results13, go_sem, hrc]; rfl) rfl ?_
      have e : N.take k = (N, ⟨0, 0, 0, []⟩, 32) := by
        unfold NS.take; rw [at_not _ _ (fun m y hy => hno.out m y (by have := (List.getElem?_eq_some_iff.1 hy).1; omega) hy)]
      rw [e]
      refine ⟨rfl, S, ?_⟩
      exact ⟨href.out.below hbl0, Upd.of_below hbl0⟩

end Go.Proofs.Ythlebfhljmcedaa
