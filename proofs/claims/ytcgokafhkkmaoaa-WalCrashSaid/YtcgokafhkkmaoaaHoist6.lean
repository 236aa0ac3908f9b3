/- A region that draws its order, in which one alloc may come at any time: H is taken first, then segments (an effect, and operations taken first behind it), then E. -/
import Derived.Test.YtcgokafhkkmaoaaHoist5
namespace Go.Proofs.Ytcgokafhkkmaoaa
open Go.RowKit

section
variable {P : Program} {ops : Array Oper} {Q : Exit → Act → World → Prop} {S : World → Prop}

def slotOf (v0 : Value) : Option Nat → Value
  | none => v0
  | some X => .pointer (some ⟨X, 0, none⟩)
def maskOf (j : Nat) (l : Array Bool) : Option Nat → Array Bool
  | none => l
  | some _ => l.setIfInBounds j true
def restOf : Option Nat → Nat
  | none => 1
  | some _ => 0

/-- Segment by segment; o: the block that the alloc has made, if it has come. -/
def FloatK (P : Program) (ops : Array Oper) (Q : Exit → Act → World → Prop) (S : World → Prop) (d : Nat) (v0 : Value) (obj : Obj) (K : Act → Nat → World → Prop) : List (Nat × List Nat) → Act → Option Nat → World → Prop
  | [], a, none, w => K (a.put (some d) (.pointer (some ⟨w.heap.size, 0, none⟩))) w.heap.size (w.alloc obj)
  | [], a, some X, w => K a X w
  | (e, H) :: r, a, o, w => ∃ oe, ops[e]? = some oe ∧ wpList P ops (Exit.then (fun a' w' => S w' ∧ HoistK P ops S H a' fun a2 => a2.put (some d) (slotOf v0 o) = a2 ∧
      ∃ I : Option Nat → World → Prop, (∀ w, I none w → I (some w.heap.size) (w.alloc obj)) ∧ I o w' ∧ ∀ o' w'', I o' w'' → S w'' → FloatK P ops Q S d v0 obj K r (a2.put (some d) (slotOf v0 o')) o' w'') (NoPanic Q)) [oe] a w
/-- The same, whether the alloc has come or not. -/
def FloatI (P : Program) (ops : Array Oper) (Q : Exit → Act → World → Prop) (S : World → Prop) (d : Nat) (v0 : Value) (obj : Obj) (K : Act → Nat → World → Prop) (segs : List (Nat × List Nat)) (a : Act) (o : Option Nat) (w : World) : Prop :=
  a.put (some d) (slotOf v0 o) = a ∧ ∃ I : Option Nat → World → Prop, (∀ w, I none w → I (some w.heap.size) (w.alloc obj)) ∧ I o w ∧ ∀ o' w'', I o' w'' → S w'' → FloatK P ops Q S d v0 obj K segs (a.put (some d) (slotOf v0 o')) o' w''
theorem FloatI.mk {d : Nat} {v0 : Value} {obj : Obj} {K : Act → Nat → World → Prop} {segs : List (Nat × List Nat)} {a : Act} {o : Option Nat} {w : World} (I : Option Nat → World → Prop) (hI : ∀ w, I none w → I (some w.heap.size) (w.alloc obj)) (h0 : I o w)
    (ha : a.put (some d) (slotOf v0 o) = a) (h : ∀ o' w'', I o' w'' → S w'' → FloatK P ops Q S d v0 obj K segs (a.put (some d) (slotOf v0 o')) o' w'') : FloatI P ops Q S d v0 obj K segs a o w := ⟨ha, I, hI, h0, h⟩
theorem FloatK.cons_ {d : Nat} {v0 : Value} {obj : Obj} {K : Act → Nat → World → Prop} {e : Nat} {H : List Nat} {r : List (Nat × List Nat)} {a : Act} {o : Option Nat} {w : World} {oe : Oper} (he : ops[e]? = some oe)
    (h : ∀ Q' : Exit → Act → World → Prop, (∀ a' w', S w' → HoistK P ops S H a' (fun a2 => FloatI P ops Q S d v0 obj K r a2 o w') → Q' .normal a' w') → wpList P ops Q' [oe] a w) : FloatK P ops Q S d v0 obj K ((e, H) :: r) a o w :=
  ⟨oe, he, h _ fun _ _ hs hh => ⟨hs, hh⟩⟩

def floatOk (ops : Array Oper) (j : Nat) : List (Nat × List Nat) → Array Bool → Bool
  | [], l => Region.ready .any ops l == [j]
  | (e, H) :: r, l => (Region.ready .any ops l == [e, j] || Region.ready .any ops l == [j, e]) && (Region.ready .any ops (l.setIfInBounds j true) == [e]) && hoistOk ops [] H (l.setIfInBounds e true) &&
      hoistOk ops [] H ((l.setIfInBounds e true).setIfInBounds j true) && (e != j) && !(H.contains j) && floatOk ops j r (listedBy H (l.setIfInBounds e true))
def segMask : List (Nat × List Nat) → Array Bool → Array Bool
  | [], l => l
  | (e, H) :: r, l => segMask r (listedBy H (l.setIfInBounds e true))
def segSize : List (Nat × List Nat) → Nat
  | [] => 0
  | (_, H) :: r => 1 + (H.length + segSize r)

theorem listedBy_set (j : Nat) : ∀ (H : List Nat) (l : Array Bool), H.contains j = false → listedBy H (l.setIfInBounds j true) = (listedBy H l).setIfInBounds j true
  | [], _, _ => rfl
  | i :: r, l, h => by
    simp only [List.contains_cons, Bool.or_eq_false_iff, beq_eq_false_iff_ne] at h
    have := listedBy_set j r (l.setIfInBounds i true) h.2
    simp only [listedBy, List.foldl_cons] at this ⊢
    rw [Array.setIfInBounds_comm _ _ h.1]
    exact this

theorem anyS_float {j d : Nat} {oj : Oper} {v0 : Value} {obj : Obj} {K : Act → Nat → World → Prop} (hsel : Region.noSelect ops = true) (hj : ops[j]? = some oj) (hg : oj.guard = none) (hd : oj.dst = some d)
    (hrun : ∀ (a : Act) (w : World), (execOp a.eval oj).run P w = .ok (.value (.pointer (some ⟨w.heap.size, 0, none⟩))) (w.alloc obj)) (hSa : ∀ w, S w → S (w.alloc obj)) {n : Nat} {fin : Array Bool} :
    ∀ (segs : List (Nat × List Nat)) (l : Array Bool) (a : Act) (o : Option Nat) (w : World), Closed ops (maskOf j l o) → floatOk ops j segs l = true → (segMask segs l).setIfInBounds j true = fin → S w →
      (∀ a X w, S w → K a X w → AnyS P ops (NoPanic Q) S [] n fin a w) → FloatI P ops Q S d v0 obj K segs a o w → AnyS P ops (NoPanic Q) S [] (segSize segs + (restOf o + n)) (maskOf j l o) a w := by
  have hwant : ∀ a : Act, Region.wanted oj (yielded ops a.tmps) = true := fun a => by simp [Region.wanted, hg]
  have hop : ∀ (a : Act) (w : World) (K' : Act → World → Prop), K' (a.put (some d) (.pointer (some ⟨w.heap.size, 0, none⟩))) (w.alloc obj) → wpOp P ops (NoPanic Q) j K' a w := fun a w K' h => by
    unfold wpOp
    simp only [hj]
    rw [if_pos (hwant a)]
    refine .inl ?_
    unfold Oper.wp
    rw [hrun]
    simp only [Oper.upon]
    rw [hd]
    exact h
  intro segs
  induction segs with
  | nil =>
    intro l a o w _ hok hfin hS hK hI
    obtain ⟨ha, I, hI1, hI2, hI3⟩ := hI
    simp only [floatOk, beq_iff_eq] at hok
    have h := hI3 o w hI2 hS
    rw [ha] at h
    cases o with
    | none =>
      rw [show segSize [] + (restOf none + n) = n + 1 from by simp only [segSize, restOf]; omega]
      refine ⟨fun h0 => (by simp only [maskOf] at h0; rw [hok] at h0; cases h0), fun i hi => ?_⟩
      simp only [maskOf] at hi
      rw [hok] at hi
      obtain rfl : i = j := by simpa using hi
      refine hop _ _ _ ⟨fun _ => hSa _ hS, ?_⟩
      have : (maskOf i l none).setIfInBounds i true = fin := hfin
      rw [this]
      exact hK _ _ _ (hSa _ hS) h
    | some X =>
      rw [show segSize [] + (restOf (some X) + n) = n from by simp only [segSize, restOf]; omega]
      have : maskOf j l (some X) = fin := hfin
      rw [this]
      exact hK _ _ _ hS h
  | cons eH r ih =>
    obtain ⟨e, H⟩ := eH
    intro l a o w hcl hok hfin hS hK hI
    obtain ⟨ha, I, hI1, hI2, hI3⟩ := hI
    simp only [floatOk, Bool.and_eq_true, Bool.or_eq_true, beq_iff_eq, bne_iff_ne, Bool.not_eq_true'] at hok
    obtain ⟨⟨⟨⟨⟨⟨hr1, hr2⟩, hh1⟩, hh2⟩, hej⟩, hHj⟩, hok'⟩ := hok
    -- the effect, whether the alloc has come or not
    have step : ∀ (o : Option Nat) (a : Act) (w : World), Closed ops (maskOf j l o) → e ∈ Region.ready .any ops (maskOf j l o) → FloatK P ops Q S d v0 obj K ((e, H) :: r) a o w →
        wpOp P ops (NoPanic Q) e (fun a' w' => (([] : List Nat).contains e = false → S w') ∧ AnyS P ops (NoPanic Q) S [] (H.length + (segSize r + (restOf o + n))) ((maskOf j l o).setIfInBounds e true) a' w') a w := by
      intro o a w hcl hm h
      obtain ⟨oe, hoe, h⟩ := h
      refine wpOp_mono (fun a' w' h' => ?_) (wpList_one hoe h (fun h => h) (fun _ _ _ h => h))
      obtain ⟨hS', hH⟩ := h'
      refine ⟨fun _ => hS', ?_⟩
      obtain ⟨a2, hH, h2⟩ := HoistK.out _ _ _ hH
      have hmask : (maskOf j l o).setIfInBounds e true = maskOf j (l.setIfInBounds e true) o := by
        cases o with
        | none => rfl
        | some X => simp only [maskOf]; exact Array.setIfInBounds_comm _ _ (Ne.symm hej)
      have hcl2 : Closed ops (maskOf j (l.setIfInBounds e true) o) := hmask ▸ hcl.more hm
      have hhok : hoistOk ops [] H (maskOf j (l.setIfInBounds e true) o) = true := by
        cases o with
        | none => exact hh1
        | some X => exact hh2
      have hmask2 : listedBy H (maskOf j (l.setIfInBounds e true) o) = maskOf j (listedBy H (l.setIfInBounds e true)) o := by
        cases o with
        | none => rfl
        | some X => exact listedBy_set j H _ hHj
      rw [hmask]
      refine AnyS.hoist hsel hS' H _ _ a' hcl2 hhok hH ?_
      have hcl3 := Closed.hoist (late := []) H _ hcl2 hhok
      rw [hmask2] at hcl3 ⊢
      exact ih _ a2 o w' hcl3 hok' hfin hS' hK h2
    have hself := hI3 o w hI2 hS
    rw [ha] at hself
    cases o with
    | some X =>
      have hr : Region.ready .any ops (maskOf j l (some X)) = [e] := hr2
      rw [show segSize ((e, H) :: r) + (restOf (some X) + n) = H.length + (segSize r + (restOf (some X) + n)) + 1 from by simp only [segSize, restOf]; omega]
      refine ⟨fun h0 => (by rw [hr] at h0; cases h0), fun i hi => ?_⟩
      rw [hr] at hi
      obtain rfl : i = e := by simpa using hi
      exact step (some X) a w hcl (by rw [hr]; simp) hself
    | none =>
      have hmem : ∀ i, i ∈ Region.ready .any ops l ↔ i = e ∨ i = j := fun i => by
        rcases hr1 with hr1 | hr1 <;> rw [hr1] <;> simp [or_comm]
      rw [show segSize ((e, H) :: r) + (restOf none + n) = H.length + (segSize r + (restOf none + n)) + 1 from by simp only [segSize, restOf]; omega]
      refine ⟨fun h0 => ?_, fun i hi => ?_⟩
      · have := (hmem e).2 (.inl rfl)
        simp only [maskOf] at h0
        rw [h0] at this; cases this
      · rcases (hmem i).1 hi with rfl | rfl
        · exact step none a w hcl ((hmem i).2 (.inl rfl)) hself
        · refine hop _ _ _ ⟨fun _ => hSa _ hS, ?_⟩
          have hs2 := hI3 (some w.heap.size) (w.alloc obj) (hI1 w hI2) (hSa _ hS)
          have hr : Region.ready .any ops (maskOf i l (some w.heap.size)) = [e] := hr2
          have hcl' : Closed ops (maskOf i l (some w.heap.size)) := hcl.more hi
          rw [show H.length + (segSize r + (restOf none + n)) = H.length + (segSize r + (restOf (some w.heap.size) + n)) + 1 from by simp only [restOf]; omega]
          refine ⟨fun h0 => (by have h0' : Region.ready .any ops (maskOf i l (some w.heap.size)) = [] := h0; rw [hr] at h0'; cases h0'), fun k hk => ?_⟩
          have hk' : k ∈ Region.ready .any ops (maskOf i l (some w.heap.size)) := hk
          rw [hr] at hk'
          obtain rfl : k = e := by simpa using hk'
          exact step (some w.heap.size) _ _ hcl' (by rw [hr]; simp) hs2

theorem put_put (a : Act) (d : Nat) (u v : Value) : (a.put (some d) u).put (some d) v = a.put (some d) v := by
  simp [Act.put]
theorem FloatI.end_ {d : Nat} {v0 : Value} {obj : Obj} {K : Act → Nat → World → Prop} {a : Act} {o : Option Nat} {w : World} (I : Option Nat → World → Prop) (hI : ∀ w, I none w → I (some w.heap.size) (w.alloc obj)) (hSa : ∀ w, S w → S (w.alloc obj)) (h0 : I o w)
    (ha : a.put (some d) (slotOf v0 o) = a) (h : ∀ X w'', I (some X) w'' → S w'' → K (a.put (some d) (.pointer (some ⟨X, 0, none⟩))) X w'') : FloatI P ops Q S d v0 obj K [] a o w := by
  refine ⟨ha, I, hI, h0, fun o' w'' hI' hS' => ?_⟩
  cases o' with
  | none =>
    show K ((a.put (some d) v0).put (some d) _) _ _
    rw [put_put]
    exact h _ _ (hI _ hI') (hSa _ hS')
  | some X => exact h _ _ hI' hS'
/-- The region. -/
theorem wp_region_float {id : Nat} {a : Act} {w : World} (H : List Nat) (segs : List (Nat × List Nat)) (j d : Nat) (E : List Nat) (v0 : Value) (obj : Obj) (S : World → Prop) {oj : Oper} (hm : P.follows .mixedOrders = true) (hsel : Region.noSelect ops = true)
    (hall : H.length + (segSize segs + (1 + E.length)) = ops.size) (hok : hoistOk ops [] H (Array.replicate ops.size false) = true) (hfl : floatOk ops j segs (listedBy H (Array.replicate ops.size false)) = true)
    (hch : chainOk ops E ((segMask segs (listedBy H (Array.replicate ops.size false))).setIfInBounds j true) = true) (hsome : E.all (fun i => (ops[i]?).isSome) = true)
    (hj : ops[j]? = some oj) (hg : oj.guard = none) (hd : oj.dst = some d) (hrun : ∀ (a : Act) (w : World), (execOp a.eval oj).run P w = .ok (.value (.pointer (some ⟨w.heap.size, 0, none⟩))) (w.alloc obj)) (hSa : ∀ w, S w → S (w.alloc obj))
    (hS : S w.drew) (h : HoistK P ops S H a fun a' => FloatI P ops Q S d v0 obj (fun a _ w => Effects P ops (NoPanic Q) S (opsAt ops E) [] a w) segs a' none w.drew) : (Code.region id ops true).wp P Q a w := by
  obtain ⟨a', hH, h⟩ := HoistK.out _ _ _ h
  have hcl := Closed.hoist (late := []) H _ (Closed.start ops.size) hok
  have h1 := anyS_float (Q := Q) (n := E.length) hsel hj hg hd hrun hSa segs _ a' none w.drew hcl hfl rfl hS (fun a X w _ hk => by
    have := AnyS.chain (P := P) (Q := Q) (S := S) (late := []) [] rfl E _ a w (by rw [List.append_nil]; exact hch) (by rw [List.append_nil]; exact hsome) hk
    rw [List.append_nil] at this
    exact this) h
  have hfin := AnyS.hoist (Q := Q) (late := []) hsel hS H _ _ a (Closed.start _) hok hH h1
  rw [show H.length + (segSize segs + (restOf none + E.length)) = ops.size from hall] at hfin
  exact wp_region_noPanic (wp_region_any hm (AnyS.any (S := S) (late := []) _ _ _ _ hfin))
end

end Go.Proofs.Ytcgokafhkkmaoaa
