/- A region that draws its order, in three parts: H is taken first (its values hang on S), then E one behind the other, then H2, whose values hang on no world: a call between what it is handed and the shares of its answer. -/
import Derived.Test.YtcgokafhkkmaoaaHoist
namespace Go.Proofs.Ytcgokafhkkmaoaa
open Go.RowKit

section
variable {P : Program} {ops : Array Oper} {Q : Exit → Act → World → Prop} {S S' : World → Prop} {late late' : List Nat}

theorem AnyS.weaken : ∀ (n : Nat) (listed : Array Bool) (a : Act) (w : World), (∀ i, listed.getD i true = false → late.contains i = true) → AnyS P ops Q S' late' n listed a w → AnyS P ops Q S late n listed a w
  | 0, _, _, _, _, h => h
  | n + 1, listed, a, w, hl, h => ⟨h.1, fun i hi => wpOp_mono (fun a' w' h' => ⟨fun hn => (by rw [hl i (mem_ready.1 hi).1] at hn; cases hn), AnyS.weaken n _ a' w' (fun k hk => by
      by_cases e : i = k
      · subst e
        exact hl i (mem_ready.1 hi).1
      · rw [getD_set_ne true e] at hk
        exact hl k hk) h'.2⟩) (h.2 i hi)⟩

/-- One behind the other, and behind them K. -/
def EffK (P : Program) (ops : Array Oper) (Q : Exit → Act → World → Prop) : List Oper → Act → World → (Act → World → Prop) → Prop
  | [], a, w, K => K a w
  | o :: r, a, w, K => wpList P ops (Exit.then (fun a' w' => EffK P ops Q r a' w' K) Q) [o] a w
theorem EffK.nil_ {a : Act} {w : World} {K : Act → World → Prop} (h : K a w) : EffK P ops Q [] a w K := h
theorem EffK.cons_ {o : Oper} {r : List Oper} {a : Act} {w : World} {K : Act → World → Prop} (h : ∀ Q' : Exit → Act → World → Prop, (∀ a w, EffK P ops Q r a w K → Q' .normal a w) → wpList P ops Q' [o] a w) : EffK P ops Q (o :: r) a w K :=
  h _ fun _ _ he => he

/-- Is each of them the only one that may come up in its turn? -/
def chainPre (ops : Array Oper) : List Nat → Array Bool → Bool
  | [], _ => true
  | i :: r, listed => (Region.ready .any ops listed == [i]) && chainPre ops r (listed.setIfInBounds i true)

theorem Closed.chain : ∀ (E : List Nat) (listed : Array Bool), Closed ops listed → chainPre ops E listed = true → Closed ops (listedBy E listed)
  | [], _, h, _ => h
  | i :: r, listed, h, hc => by
    simp only [chainPre, Bool.and_eq_true, beq_iff_eq] at hc
    exact Closed.chain r _ (h.more (by rw [hc.1]; simp)) hc.2
theorem Closed.hoist {late : List Nat} : ∀ (H : List Nat) (listed : Array Bool), Closed ops listed → hoistOk ops late H listed = true → Closed ops (listedBy H listed)
  | [], _, h, _ => h
  | i :: r, listed, h, hc => by
    simp only [hoistOk, Bool.and_eq_true] at hc
    exact Closed.hoist r _ (h.more (by simpa using hc.1.1.2)) hc.2

theorem AnyS.chainK {n : Nat} {K : Act → World → Prop} : ∀ (E : List Nat) (listed : Array Bool) (a : Act) (w : World), E.all (fun i => late.contains i) = true → chainPre ops E listed = true → E.all (fun i => (ops[i]?).isSome) = true →
    (∀ a' w', K a' w' → AnyS P ops (NoPanic Q) S late n (listedBy E listed) a' w') → EffK P ops (NoPanic Q) (opsAt ops E) a w K → AnyS P ops (NoPanic Q) S late (E.length + n) listed a w
  | [], listed, a, w, _, _, _, hK, h => by simpa [opsAt, EffK, listedBy] using hK a w h
  | i :: r, listed, a, w, hl, hc, hs, hK, h => by
    simp only [List.all_cons, Bool.and_eq_true] at hl hs
    simp only [chainPre, Bool.and_eq_true, beq_iff_eq] at hc
    obtain ⟨o, ho⟩ := Option.isSome_iff_exists.1 hs.1
    rw [show (i :: r).length + n = r.length + n + 1 from by simp; omega]
    refine ⟨fun h0 => (by rw [hc.1] at h0; cases h0), fun j hj => ?_⟩
    rw [hc.1] at hj
    obtain rfl : j = i := by simpa using hj
    have hops : opsAt ops (j :: r) = o :: opsAt ops r := by simp [opsAt, ho]
    rw [hops] at h
    exact wpOp_mono (fun a' w' h' => ⟨fun hn => (by rw [hl.1] at hn; cases hn), AnyS.chainK r _ _ _ hl.2 hc.2 hs.2 hK h'⟩) (wpList_one ho h (fun h => h) (fun _ _ _ h => h))

theorem listedBy_less : ∀ (E : List Nat) (listed : Array Bool) (i : Nat), (listedBy E listed).getD i true = false → listed.getD i true = false
  | [], _, _, h => h
  | k :: r, listed, i, h => by
    have := listedBy_less r (listed.setIfInBounds k true) i h
    by_cases e : k = i
    · subst e
      simp only [Array.getD_eq_getD_getElem?, Array.getElem?_setIfInBounds] at this
      split at this
      · split at this <;> simp at this
      · rename_i hne; exact absurd trivial hne
    · rwa [getD_set_ne true e] at this
theorem listedBy_size : ∀ (E : List Nat) (listed : Array Bool), (listedBy E listed).size = listed.size
  | [], _ => rfl
  | k :: r, listed => by have := listedBy_size r (listed.setIfInBounds k true); simpa [listedBy] using this

/-- A region that draws its order: H first, then E, then H2. -/
theorem wp_region_two {id : Nat} {a : Act} {w : World} (H E H2 : List Nat) (S : World → Prop) (hm : P.follows .mixedOrders = true)
    (hsel : Region.noSelect ops = true) (hall : H.length + (E.length + (H2.length + 0)) = ops.size) (hok : hoistOk ops (E ++ H2) H (Array.replicate ops.size false) = true)
    (hch : chainPre ops E (listedBy H (Array.replicate ops.size false)) = true) (hsome : E.all (fun i => (ops[i]?).isSome) = true)
    (hok2 : hoistOk ops [] H2 (listedBy E (listedBy H (Array.replicate ops.size false))) = true)
    (hrest : (List.range ops.size).all (fun i => (listedBy H (Array.replicate ops.size false)).getD i true || (E ++ H2).contains i) = true)
    (hend : (Region.ready .any ops (listedBy H2 (listedBy E (listedBy H (Array.replicate ops.size false))))).isEmpty = true)
    (hS : S w.drew) (hH : HoistK P ops S H a fun a' => EffK P ops (NoPanic Q) (opsAt ops E) a' w.drew fun a2 w2 => HoistK P ops (fun _ => True) H2 a2 fun a3 =>
      ∀ Q' : Exit → Act → World → Prop, (∀ a w, Q .normal a w → Q' .normal a w) → wpList P ops Q' [] a3 w2) : (Code.region id ops true).wp P Q a w := by
  obtain ⟨a', hH, h⟩ := HoistK.out _ _ _ hH
  have hcl1 := Closed.hoist (late := E ++ H2) H _ (Closed.start ops.size) hok
  have hcl2 := Closed.chain E _ hcl1 hch
  have hrest' : ∀ i, (listedBy H (Array.replicate ops.size false)).getD i true = false → (E ++ H2).contains i = true := fun i hi => by
    have hlt : i < ops.size := by
      rcases Nat.lt_or_ge i ops.size with h | h
      · exact h
      · have := listedBy_size H (Array.replicate ops.size false)
        rw [Array.getD_eq_getD_getElem?, Array.getElem?_eq_none (by rw [this]; simpa using h)] at hi
        cases hi
    have := List.all_eq_true.1 hrest i (List.mem_range.2 hlt)
    rw [hi] at this
    simpa using this
  have hmid : AnyS P ops (NoPanic Q) S (E ++ H2) (E.length + (H2.length + 0)) (listedBy H (Array.replicate ops.size false)) a' w.drew := by
    refine AnyS.chainK E _ _ _ (List.all_eq_true.2 fun i hi => by simp [hi]) hch hsome (fun a2 w2 h2 => ?_) h
    obtain ⟨a3, hH2, h3⟩ := HoistK.out _ _ _ h2
    have hq : NoPanic Q .normal a3 w2 := h3 (NoPanic Q) (fun _ _ h => h)
    have := AnyS.hoist (Q := Q) (late := []) hsel (S := fun _ => True) trivial H2 0 _ a2 hcl2 hok2 hH2 ⟨by simpa using hend, hq⟩
    exact AnyS.weaken _ _ _ _ (fun i hi => hrest' i (listedBy_less E _ i hi)) this
  have hfin := AnyS.hoist (Q := Q) (late := E ++ H2) hsel hS H _ _ a (Closed.start _) hok hH hmid
  rw [hall] at hfin
  exact wp_region_noPanic (wp_region_any hm (AnyS.any (S := S) (late := E ++ H2) _ _ _ _ hfin))
end

end Go.Proofs.Ytcgokafhkkmaoaa
