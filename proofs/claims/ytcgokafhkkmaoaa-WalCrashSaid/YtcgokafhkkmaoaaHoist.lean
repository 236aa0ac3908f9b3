/- A region that draws its order: operations that give one value in every world that meets S are taken first; S need hold only behind those operations that one of them does not wait for. -/
import Derived.Test.YtcgokafhkkmaoaaLib2
import Derived.OrdersHeld
import Derived.Deep.RegionHeld3
namespace Go.Proofs.Ytcgokafhkkmaoaa
open Go.RowKit

section
variable {P : Program} {ops : Array Oper} {Q : Exit → Act → World → Prop} {S : World → Prop} {late : List Nat}

/-- Every order from here on; behind an operation that is not late S holds. -/
def AnyS (P : Program) (ops : Array Oper) (Q : Exit → Act → World → Prop) (S : World → Prop) (late : List Nat) : Nat → Array Bool → Act → World → Prop
  | 0, listed, a, w => Region.ready .any ops listed = [] ∧ Q .normal a w
  | n + 1, listed, a, w => (Region.ready .any ops listed = [] → Q .normal a w) ∧
      ∀ i ∈ Region.ready .any ops listed, wpOp P ops Q i (fun a' w' => (late.contains i = false → S w') ∧ AnyS P ops Q S late n (listed.setIfInBounds i true) a' w') a w

theorem AnyS.any : ∀ (n : Nat) (listed : Array Bool) (a : Act) (w : World), AnyS P ops Q S late n listed a w → wpAny P .any ops Q n listed a w
  | 0, _, _, _, h => h
  | n + 1, _, _, _, h => ⟨h.1, fun i hi => wpOp_mono (fun a' w' h' => AnyS.any n _ a' w' h'.2) (h.2 i hi)⟩

/-- Does operation j wait for number i, be it through others? -/
def waits (ops : Array Oper) (i : Nat) : Nat → Nat → Bool
  | 0, _ => false
  | n + 1, j => ((ops[j]?).map fun o => o.after.any fun e => Region.binds .any e && (e.on == i || waits ops i n e.on)).getD false
/-- What has come up came up behind all that it waits for. -/
def Closed (ops : Array Oper) (listed : Array Bool) : Prop := ∀ (k : Nat) (o : Oper), listed.getD k false = true → ops[k]? = some o → ∀ e ∈ o.after, Region.binds .any e = true → listed.getD e.on false = true
theorem Closed.start (n : Nat) : Closed ops (Array.replicate n false) := by
  intro k o h
  simp only [Array.getD_eq_getD_getElem?, Array.getElem?_replicate] at h
  split at h <;> simp at h
theorem Closed.more {listed : Array Bool} (h : Closed ops listed) {j : Nat} (hj : j ∈ Region.ready .any ops listed) : Closed ops (listed.setIfInBounds j true) := by
  intro k o hk ho e he hb
  by_cases hjk : j = k
  · subst hjk
    obtain ⟨_, o', ho', hall⟩ := mem_ready.1 hj
    rw [ho] at ho'
    obtain rfl : o = o' := by injection ho'
    exact getD_set_true (hall e he hb)
  · rw [getD_set_ne false hjk] at hk
    exact getD_set_true (h k o hk ho e he hb)
theorem Closed.waits {listed : Array Bool} (h : Closed ops listed) {i : Nat} : ∀ (n j : Nat), waits ops i n j = true → (∀ o, ops[j]? = some o → ∀ e ∈ o.after, Region.binds .any e = true → listed.getD e.on false = true) → listed.getD i false = true
  | 0, j, hw, _ => by simp [Go.Proofs.Ytcgokafhkkmaoaa.waits] at hw
  | n + 1, j, hw, hj => by
    cases ho : ops[j]? with
    | none => simp [Go.Proofs.Ytcgokafhkkmaoaa.waits, ho] at hw
    | some o =>
      simp only [Go.Proofs.Ytcgokafhkkmaoaa.waits, ho, Option.map_some, Option.getD_some] at hw
      obtain ⟨e, he, hb⟩ := Array.any_eq_true'.1 hw
      simp only [Bool.and_eq_true, Bool.or_eq_true, beq_iff_eq] at hb
      have hl := hj o ho e he hb.1
      rcases hb.2 with rfl | hb2
      · exact hl
      · exact Closed.waits h n e.on hb2 (fun o' ho' e' he' hb' => h e.on o' hl ho' e' he' hb')

theorem AnyS.first {i : Nat} {oi : Oper} {v : Value} (hi : ops[i]? = some oi) (hsel : Region.noSelect ops = true)
    (hQ : ∀ c a w, Q (.panic c) (a.put oi.dst v) w → Q (.panic c) a w) (hlate : late.all (waits ops i ops.size) = true) (n : Nat) :
    ∀ (listed : Array Bool) (a : Act) (w : World), Closed ops listed → Region.free .any ops listed i = true → i ∈ Region.ready .any ops listed → YieldsIf P ops S oi v a → S w →
      AnyS P ops Q S late n (listed.setIfInBounds i true) (a.put oi.dst v) w → AnyS P ops Q S late (n + 1) listed a w := by
  have key : ∀ (n : Nat) (listed : Array Bool) (a : Act) (w : World), Closed ops listed →
      (∀ j oj, ops[j]? = some oj → j ≠ i → listed.getD j true = false → (∀ e ∈ oj.after, Region.binds .any e = true → e.on ≠ i) → oi.apart ops oj = true) →
      i ∈ Region.ready .any ops listed → YieldsIf P ops S oi v a → S w →
      AnyS P ops Q S late n (listed.setIfInBounds i true) (a.put oi.dst v) w → AnyS P ops Q S late (n + 1) listed a w := by
    intro n
    induction n with
    | zero =>
      intro listed a w _ _ hr hy hS H
      refine ⟨fun h => (by rw [h] at hr; cases hr), fun j hj => ?_⟩
      by_cases e : j = i
      · subst e
        exact hy.wpOp hi hS ⟨fun _ => hS, H⟩
      · have hm := ready_mono hj e
        rw [H.1] at hm
        cases hm
    | succ n ih =>
      intro listed a w hcl hap hr hy hS H
      refine ⟨fun h => (by rw [h] at hr; cases hr), fun j hj => ?_⟩
      by_cases e : j = i
      · subst e
        exact hy.wpOp hi hS ⟨fun _ => hS, H⟩
      obtain ⟨hun, oj, hoj, hall⟩ := mem_ready.1 hj
      have hi0 := (mem_ready.1 hr).1
      have hif : listed.getD i false = false := by
        rcases Nat.lt_or_ge i listed.size with h' | h'
        · simpa [h'] using hi0
        · simp [Array.getElem?_eq_none h']
      have hno : ∀ ed ∈ oj.after, Region.binds .any ed = true → ed.on ≠ i := by
        intro ed he hb hq
        have h1 := hall ed he hb
        rw [hq, hif] at h1
        cases h1
      have hnl : late.contains j = false := by
        cases hc : late.contains j with
        | false => rfl
        | true =>
          have hw := List.all_eq_true.1 hlate j (by simpa using hc)
          have := hcl.waits _ _ hw (fun o ho => by
            rw [hoj] at ho
            obtain rfl : oj = o := by injection ho
            exact hall)
          rw [hif] at this
          cases this
      have h2 := wpOp_putIf hoj (hap j oj hoj e hun hno) (fun cs b => Region.noSelect_spec hsel i oi cs b hi) (fun cs b => Region.noSelect_spec hsel j oj cs b hoj) hQ hy (H.2 j (ready_mono hj e))
      refine wpOp_mono (fun a' w' h3 => ?_) h2
      have hS' := h3.2.1 hnl
      refine ⟨fun _ => hS', ih (listed.setIfInBounds j true) a' w' (hcl.more hj) ?_ (ready_mono hr (Ne.symm e)) h3.1 hS' ?_⟩
      · intro k ok hk hki hkun hkno
        by_cases hjk : j = k
        · subst hjk
          exact hap j ok hk hki hun hkno
        · rw [getD_set_ne true hjk] at hkun
          exact hap k ok hk hki hkun hkno
      · rw [Array.setIfInBounds_comm _ _ e]
        exact h3.2.2
  intro listed a w hcl hf
  exact key n listed a w hcl (Region.free_spec hi hf)

/-- These operations, one behind the other, give values that hang on nothing but S. -/
def Hoisted (P : Program) (ops : Array Oper) (S : World → Prop) : List Nat → Act → Act → Prop
  | [], a, a' => a = a'
  | i :: r, a, a' => ∃ o v, ops[i]? = some o ∧ YieldsIf P ops S o v a ∧ Hoisted P ops S r (a.put o.dst v) a'
theorem Hoisted.nil_ {a : Act} : Hoisted P ops S [] a a := rfl
theorem Hoisted.yes {i : Nat} {r : List Nat} {a a' : Act} {o : Oper} {v : Value} (hi : ops[i]? = some o) (hw : Region.wanted o (yielded ops a.tmps) = true)
    (hv : ∀ w, S w → (execOp a.eval o).run P w = .ok (.value v) w) (h : Hoisted P ops S r (a.put o.dst v) a') : Hoisted P ops S (i :: r) a a' := ⟨o, v, hi, .inl ⟨hw, hv⟩, h⟩
theorem Hoisted.no {i : Nat} {r : List Nat} {a a' : Act} {o : Oper} (hi : ops[i]? = some o) (hw : Region.wanted o (yielded ops a.tmps) = false)
    (h : Hoisted P ops S r (a.put o.dst undef) a') : Hoisted P ops S (i :: r) a a' := ⟨o, undef, hi, .inr ⟨hw, rfl⟩, h⟩

/-- The same, and behind them K. -/
def HoistK (P : Program) (ops : Array Oper) (S : World → Prop) : List Nat → Act → (Act → Prop) → Prop
  | [], a, K => K a
  | i :: r, a, K => ∃ o v, ops[i]? = some o ∧ YieldsIf P ops S o v a ∧ HoistK P ops S r (a.put o.dst v) K
theorem HoistK.out : ∀ (r : List Nat) (a : Act) (K : Act → Prop), HoistK P ops S r a K → ∃ a', Hoisted P ops S r a a' ∧ K a'
  | [], a, _, h => ⟨a, rfl, h⟩
  | _ :: r, _, K, ⟨o, v, hi, hy, h⟩ => let ⟨a', h1, h2⟩ := HoistK.out r _ K h; ⟨a', ⟨o, v, hi, hy, h1⟩, h2⟩
theorem HoistK.nil_ {a : Act} {K : Act → Prop} (h : K a) : HoistK P ops S [] a K := h
theorem HoistK.yes {i : Nat} {r : List Nat} {a : Act} {K : Act → Prop} {o : Oper} (hi : ops[i]? = some o) (hw : Region.wanted o (yielded ops a.tmps) = true)
    (h : ∃ v, (∀ w, S w → (execOp a.eval o).run P w = .ok (.value v) w) ∧ HoistK P ops S r (a.put o.dst v) K) : HoistK P ops S (i :: r) a K :=
  let ⟨v, hv, h⟩ := h; ⟨o, v, hi, .inl ⟨hw, hv⟩, h⟩
theorem HoistK.no {i : Nat} {r : List Nat} {a : Act} {K : Act → Prop} {o : Oper} (hi : ops[i]? = some o) (hw : Region.wanted o (yielded ops a.tmps) = false)
    (h : HoistK P ops S r (a.put o.dst undef) K) : HoistK P ops S (i :: r) a K := ⟨o, undef, hi, .inr ⟨hw, rfl⟩, h⟩

/-- May they be taken first, in this order? -/
def hoistOk (ops : Array Oper) (late : List Nat) : List Nat → Array Bool → Bool
  | [], _ => true
  | i :: r, listed => Region.free .any ops listed i && (Region.ready .any ops listed).contains i && late.all (waits ops i ops.size) && hoistOk ops late r (listed.setIfInBounds i true)
def listedBy (r : List Nat) (listed : Array Bool) : Array Bool := r.foldl (fun l i => l.setIfInBounds i true) listed

theorem AnyS.hoist (hsel : Region.noSelect ops = true) {a' : Act} {w : World} (hS : S w) : ∀ (r : List Nat) (n : Nat) (listed : Array Bool) (a : Act), Closed ops listed → hoistOk ops late r listed = true →
    Hoisted P ops S r a a' → AnyS P ops (NoPanic Q) S late n (listedBy r listed) a' w → AnyS P ops (NoPanic Q) S late (r.length + n) listed a w
  | [], n, listed, a, _, _, hh, h => by
    have e : a = a' := hh
    subst e
    simpa [listedBy] using h
  | i :: r, n, listed, a, hcl, hok, hh, h => by
    obtain ⟨o, v, hi, hy, hh⟩ := hh
    simp only [hoistOk, Bool.and_eq_true] at hok
    obtain ⟨⟨⟨hf, hr⟩, hl⟩, hok⟩ := hok
    have := AnyS.first (Q := NoPanic Q) hi hsel (fun c a w h => h.elim) hl (r.length + n) listed a w hcl hf (by simpa using hr) hy hS (AnyS.hoist hsel hS r n _ _ (hcl.more (by simpa using hr)) hok hh h)
    rw [show (i :: r).length + n = r.length + n + 1 from by simp; omega]
    exact this

/-- What is left, one behind the other: E behind each of which S is to hold, then the rest. -/
def Effects (P : Program) (ops : Array Oper) (Q : Exit → Act → World → Prop) (S : World → Prop) : List Oper → List Oper → Act → World → Prop
  | [], T, a, w => wpList P ops Q T a w
  | o :: r, T, a, w => wpList P ops (Exit.then (fun a' w' => S w' ∧ Effects P ops Q S r T a' w') Q) [o] a w
theorem Effects.nil_ {T : List Oper} {a : Act} {w : World} (h : ∀ Q' : Exit → Act → World → Prop, (∀ a w, Q .normal a w → Q' .normal a w) → wpList P ops Q' T a w) : Effects P ops (NoPanic Q) S [] T a w :=
  h _ fun _ _ h => h
theorem Effects.cons_ {o : Oper} {r T : List Oper} {a : Act} {w : World} (h : ∀ Q' : Exit → Act → World → Prop, (∀ a w, S w → Effects P ops Q S r T a w → Q' .normal a w) → wpList P ops Q' [o] a w) : Effects P ops Q S (o :: r) T a w :=
  h _ fun _ _ hs he => ⟨hs, he⟩

/-- Is each of them the only one that may come up in its turn? -/
def chainOk (ops : Array Oper) : List Nat → Array Bool → Bool
  | [], listed => (Region.ready .any ops listed).isEmpty
  | i :: r, listed => (Region.ready .any ops listed == [i]) && chainOk ops r (listed.setIfInBounds i true)
/-- the operations of these numbers -/
def opsAt (ops : Array Oper) (r : List Nat) : List Oper := r.filterMap (ops[·]?)

theorem wpList_one {o : Oper} {K : Act → World → Prop} {a : Act} {w : World} {i : Nat} (hi : ops[i]? = some o) (h : wpList P ops (Exit.then K Q) [o] a w) (hout : LetsOut (Exit.then K Q) → LetsOut Q)
    (hp : ∀ c a w, Exit.then K Q (.panic c) a w → Q (.panic c) a w) : wpOp P ops Q i K a w := by
  unfold wpOp
  simp only [hi]
  unfold wpList at h
  split at h
  · rename_i hw
    rw [if_pos hw]
    rcases h with h | ⟨h1, h2⟩
    · refine .inl ?_
      unfold Oper.wp at h ⊢
      generalize (execOp a.eval o).run P w = r at h
      cases r with
      | ok nx w' =>
        cases nx <;> simp only [Oper.upon] at h ⊢
        case value v => exact h
        case skip => exact h
        case defer d => exact h
        case enter f args =>
          refine Calls.mono h fun e w'' he => ?_
          cases e with
          | returned v => exact he
          | panicked c => exact hp _ _ _ he
          | outgrown => exact hout he
        case row row args => exact Rows.mono h fun v w'' he => he
      | halt x w' =>
        cases x <;> simp only [Oper.upon] at h ⊢
        case panic v => exact hp _ _ _ h
    · exact .inr ⟨h1, hout h2⟩
  · rename_i hw
    rw [if_neg hw]
    exact h

theorem AnyS.chain (T : List Nat) (hT : T.all (fun i => decide (i ∈ late)) = true) : ∀ (E : List Nat) (listed : Array Bool) (a : Act) (w : World), chainOk ops (E ++ T) listed = true → (E ++ T).all (fun i => (ops[i]?).isSome) = true →
    Effects P ops (NoPanic Q) S (opsAt ops E) (opsAt ops T) a w → AnyS P ops (NoPanic Q) S late (E ++ T).length listed a w := by
  have tail : ∀ (T : List Nat), T.all (fun i => decide (i ∈ late)) = true → ∀ (listed : Array Bool) (a : Act) (w : World), chainOk ops T listed = true → T.all (fun i => (ops[i]?).isSome) = true →
      wpList P ops (NoPanic Q) (opsAt ops T) a w → AnyS P ops (NoPanic Q) S late T.length listed a w := by
    intro T
    induction T with
    | nil =>
      intro _ listed a w hc _ h
      exact ⟨by simpa [chainOk] using hc, h⟩
    | cons i r ih =>
      intro hl listed a w hc hs h
      simp only [List.all_cons, Bool.and_eq_true, decide_eq_true_eq] at hl hs
      simp only [chainOk, Bool.and_eq_true, beq_iff_eq] at hc
      obtain ⟨o, ho⟩ := Option.isSome_iff_exists.1 hs.1
      refine ⟨fun h0 => (by rw [hc.1] at h0; cases h0), fun j hj => ?_⟩
      rw [hc.1] at hj
      obtain rfl : j = i := by simpa using hj
      have hops : opsAt ops (j :: r) = o :: opsAt ops r := by simp [opsAt, ho]
      rw [hops] at h
      unfold wpOp
      simp only [ho]
      unfold wpList at h
      have go : ∀ a w, wpList P ops (NoPanic Q) (opsAt ops r) a w → (late.contains j = false → S w) ∧ AnyS P ops (NoPanic Q) S late r.length (listed.setIfInBounds j true) a w :=
        fun a w h => ⟨fun hn => (by rw [List.contains_iff_mem.2 hl.1] at hn; cases hn), ih hl.2 _ _ _ hc.2 hs.2 h⟩
      split at h
      · rename_i hw
        rw [if_pos hw]
        exact h.imp (Oper.wp_mono go) id
      · rename_i hw
        rw [if_neg hw]
        exact go _ _ h
  intro E
  induction E with
  | nil =>
    intro listed a w hc hs h
    simpa using tail T hT listed a w (by simpa using hc) (by simpa using hs) h
  | cons i r ih =>
    intro listed a w hc hs h
    simp only [List.cons_append, List.all_cons, Bool.and_eq_true] at hs
    simp only [List.cons_append, chainOk, Bool.and_eq_true, beq_iff_eq] at hc
    obtain ⟨o, ho⟩ := Option.isSome_iff_exists.1 hs.1
    refine ⟨fun h0 => (by rw [hc.1] at h0; cases h0), fun j hj => ?_⟩
    rw [hc.1] at hj
    obtain rfl : j = i := by simpa using hj
    have hops : opsAt ops (j :: r) = o :: opsAt ops r := by simp [opsAt, ho]
    rw [hops] at h
    refine wpOp_mono (fun a' w' h' => ⟨fun _ => h'.1, ih _ _ _ hc.2 hs.2 h'.2⟩) (wpList_one ho h (fun h => h) (fun _ _ _ h => h))

/-- A region that draws its order: H first, then E, then T. -/
theorem wp_region_hoist {id : Nat} {a : Act} {w : World} (H E T : List Nat) (S : World → Prop) (hm : P.follows .mixedOrders = true)
    (hsel : Region.noSelect ops = true) (hall : (H ++ (E ++ T)).length = ops.size) (hok : hoistOk ops T H (Array.replicate ops.size false) = true)
    (hch : chainOk ops (E ++ T) (listedBy H (Array.replicate ops.size false)) = true) (hsome : (E ++ T).all (fun i => (ops[i]?).isSome) = true)
    (hS : S w.drew) (hH : HoistK P ops S H a fun a' => Effects P ops (NoPanic Q) S (opsAt ops E) (opsAt ops T) a' w.drew) : (Code.region id ops true).wp P Q a w := by
  obtain ⟨a', hH, h⟩ := HoistK.out _ _ _ hH
  have hfin := AnyS.hoist (Q := Q) (late := T) hsel hS H _ _ a (Closed.start _) hok hH (AnyS.chain T (List.all_eq_true.2 fun i hi => by simpa using hi) E _ _ _ hch hsome h)
  rw [← List.length_append, hall] at hfin
  exact wp_region_noPanic (wp_region_any hm (AnyS.any (S := S) (late := T) _ _ _ _ hfin))
end

end Go.Proofs.Ytcgokafhkkmaoaa
