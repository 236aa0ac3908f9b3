/- A region that draws its order and only reads or makes memory: segments, in each operations that are taken first (their values hang on S), then effects, one behind the other, that leave S. -/
import Derived.Test.YtcgokafhkkmaoaaHoist2
namespace Go.Proofs.Ytcgokafhkkmaoaa
open Go.RowKit

section
variable {P : Program} {ops : Array Oper} {Q : Exit → Act → World → Prop} {S : World → Prop}

/-- One behind the other, S behind each, and behind them K. -/
def EffS (P : Program) (ops : Array Oper) (Q : Exit → Act → World → Prop) (S : World → Prop) : List Oper → Act → World → (Act → World → Prop) → Prop
  | [], a, w, K => K a w
  | o :: r, a, w, K => wpList P ops (Exit.then (fun a' w' => S w' ∧ EffS P ops Q S r a' w' K) Q) [o] a w
theorem EffS.nil_ {a : Act} {w : World} {K : Act → World → Prop} (h : K a w) : EffS P ops Q S [] a w K := h
theorem EffS.cons_ {o : Oper} {r : List Oper} {a : Act} {w : World} {K : Act → World → Prop} (h : ∀ Q' : Exit → Act → World → Prop, (∀ a w, S w → EffS P ops Q S r a w K → Q' .normal a w) → wpList P ops Q' [o] a w) : EffS P ops Q S (o :: r) a w K :=
  h _ fun _ _ hs he => ⟨hs, he⟩

theorem AnyS.chainS {n : Nat} {K : Act → World → Prop} : ∀ (E : List Nat) (listed : Array Bool) (a : Act) (w : World), chainPre ops E listed = true → E.all (fun i => (ops[i]?).isSome) = true → S w →
    (∀ a' w', S w' → K a' w' → AnyS P ops (NoPanic Q) S [] n (listedBy E listed) a' w') → EffS P ops (NoPanic Q) S (opsAt ops E) a w K → AnyS P ops (NoPanic Q) S [] (E.length + n) listed a w
  | [], listed, a, w, _, _, hS, hK, h => by simpa [opsAt, EffS, listedBy] using hK a w hS h
  | i :: r, listed, a, w, hc, hs, hS, hK, h => by
    simp only [List.all_cons, Bool.and_eq_true] at hs
    simp only [chainPre, Bool.and_eq_true, beq_iff_eq] at hc
    obtain ⟨o, ho⟩ := Option.isSome_iff_exists.1 hs.1
    rw [show (i :: r).length + n = r.length + n + 1 from by simp; omega]
    refine ⟨fun h0 => (by rw [hc.1] at h0; cases h0), fun j hj => ?_⟩
    rw [hc.1] at hj
    obtain rfl : j = i := by simpa using hj
    have hops : opsAt ops (j :: r) = o :: opsAt ops r := by simp [opsAt, ho]
    rw [hops] at h
    exact wpOp_mono (fun a' w' h' => ⟨fun _ => h'.1, AnyS.chainS r _ _ _ hc.2 hs.2 h'.1 hK h'.2⟩) (wpList_one ho h (fun h => h) (fun _ _ _ h => h))

/-- Segment for segment. -/
def SegK (P : Program) (ops : Array Oper) (Q : Exit → Act → World → Prop) (S : World → Prop) : List (List Nat × List Nat) → Act → World → Prop
  | [], a, w => ∀ Q' : Exit → Act → World → Prop, (∀ a w, Q .normal a w → Q' .normal a w) → wpList P ops Q' [] a w
  | (H, E) :: r, a, w => HoistK P ops S H a fun a' => EffS P ops (NoPanic Q) S (opsAt ops E) a' w (SegK P ops Q S r)
def segsOk (ops : Array Oper) : List (List Nat × List Nat) → Array Bool → Bool
  | [], listed => (Region.ready .any ops listed).isEmpty
  | (H, E) :: r, listed => hoistOk ops [] H listed && chainPre ops E (listedBy H listed) && E.all (fun i => (ops[i]?).isSome) && segsOk ops r (listedBy E (listedBy H listed))
def segsLen : List (List Nat × List Nat) → Nat
  | [] => 0
  | (H, E) :: r => H.length + (E.length + segsLen r)

theorem AnyS.segs (hsel : Region.noSelect ops = true) : ∀ (segs : List (List Nat × List Nat)) (listed : Array Bool) (a : Act) (w : World), Closed ops listed → segsOk ops segs listed = true → S w → SegK P ops Q S segs a w → AnyS P ops (NoPanic Q) S [] (segsLen segs) listed a w
  | [], listed, a, w, _, hok, _, h => ⟨by simpa [segsOk] using hok, (h (NoPanic Q) (fun _ _ h => h) : NoPanic Q .normal a w)⟩
  | (H, E) :: r, listed, a, w, hcl, hok, hS, h => by
    simp only [segsOk, Bool.and_eq_true] at hok
    obtain ⟨⟨⟨h1, h2⟩, h3⟩, h4⟩ := hok
    obtain ⟨a', hH, h⟩ := HoistK.out _ _ _ h
    have hcl1 := Closed.hoist (late := []) H _ hcl h1
    have hcl2 := Closed.chain E _ hcl1 h2
    exact AnyS.hoist hsel hS H _ _ a hcl h1 hH (AnyS.chainS E _ _ _ h2 h3 hS (fun a2 w2 hs2 hk => AnyS.segs hsel r _ a2 w2 hcl2 h4 hs2 hk) h)

/-- The region. -/
theorem wp_region_segs {id : Nat} {a : Act} {w : World} (segs : List (List Nat × List Nat)) (S : World → Prop) (hm : P.follows .mixedOrders = true) (hsel : Region.noSelect ops = true)
    (hall : segsLen segs = ops.size) (hok : segsOk ops segs (Array.replicate ops.size false) = true) (hS : S w.drew) (h : SegK P ops Q S segs a w.drew) : (Code.region id ops true).wp P Q a w := by
  have hfin := AnyS.segs (Q := Q) hsel segs _ a _ (Closed.start ops.size) hok hS h
  rw [hall] at hfin
  exact wp_region_noPanic (wp_region_any hm (AnyS.any (S := S) (late := []) _ _ _ _ hfin))
end

end Go.Proofs.Ytcgokafhkkmaoaa
