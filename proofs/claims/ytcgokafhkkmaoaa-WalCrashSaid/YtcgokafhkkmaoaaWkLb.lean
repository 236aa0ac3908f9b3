/- Wal: rows of rows; slices of slices. -/
import Derived.Test.YtcgokafhkkmaoaaWkL
namespace Go.Proofs.Ytcgokafhkkmaoaa
open Go.RowKit Go.Maps

attribute [-simp] Try.isAgg37 Try.sizeOf37 Try.typeInfo37

theorem Cs.sub' {w w' : World} {S T : Nat → Prop} {size n : Nat} {v : Value} {xs : List Value} (h : Cs w' S size v n xs) (h0 : Cs w S size v n xs) (hs : ∀ b, S b → b < w.heap.size → T b) : Cs w' T size v n xs := by
  obtain ⟨h1, A, cap, rfl, hn, hc, hp⟩ := h
  obtain ⟨_, A0, cap0, e, _, _, hp0⟩ := h0
  injection e with e
  subst e
  refine ⟨h1, A, cap, rfl, hn, hc, fun hpos => ?_⟩
  obtain ⟨b, off, rfl, hS, hlt, hcell⟩ := hp hpos
  obtain ⟨b0, off0, e0, hS0, hlt0, _⟩ := hp0 hpos
  injection e0 with e0
  injection e0 with e1 e2
  subst e1
  exact ⟨b, off, rfl, hs b hS0 hlt0, hlt, hcell⟩
/-- A log as Open builds it. -/
def LogB (w : World) (g p : Nat) (first size : Int) (n e f : Nat) (bv : Value) : Prop :=
  Blk w g 59 #[.pointer (some ⟨p, 0, none⟩), .int .i64 first, .int .i64 size, .int .u64 n, .int .u64 e, .int .u64 f, bv, .slice none 0 0]
theorem LogB.reg {w : World} {g p : Nat} {first size : Int} {n e f : Nat} {bv : Value} (h : LogB w g p first size n e f bv) : RegI w g p first size :=
  ⟨by rw [Blk.cell h]; rfl, by rw [Blk.cell h]; rfl, by rw [Blk.cell h]; rfl⟩

/-- A row of rows of bytes, of the call's own: its cells lie in S, what they hold in T. -/
def Bss (w : World) (S T : Nat → Prop) (v : Value) (rows : List (List UInt8)) : Prop := ∃ vs : List Value, Own w 32 1 v rows.length vs ∧ (∀ k, v.ownBlock = some k → S k) ∧
  ∀ (i : Nat) (x : List UInt8) (u : Value), rows[i]? = some x → vs[i]? = some u → Cs w (fun b => T b ∧ v.ownBlock ≠ some b) 1 u x.length (u8s x)
theorem Bss.nil_ (w : World) (S T : Nat → Prop) : Bss w S T (.slice none 0 0) [] := ⟨[], Own.nil_ _ _ _, fun k h => by simp [Value.ownBlock] at h, fun i x u h => by simp at h⟩
theorem Bss.form {w : World} {S T : Nat → Prop} {v : Value} {rows : List (List UInt8)} (h : Bss w S T v rows) : ∃ A cap, v = .slice A rows.length cap := by
  obtain ⟨vs, ho, _⟩ := h
  exact ho.form
theorem Bss.below {w w' : World} {S T : Nat → Prop} {v : Value} {rows : List (List UInt8)} (h : Bss w S T v rows) (hb : Below w.heap.size w w') : Bss w' S T v rows := by
  obtain ⟨vs, ho, hS, hr⟩ := h
  exact ⟨vs, own_keep ho fun k hk => hb.block k (own_lt ho hk), hS, fun i x u h1 h2 => (hr i x u h1 h2).below hb⟩
/-- One more. -/
theorem Bss.push {w w' : World} {S T : Nat → Prop} {v v' : Value} {rows : List (List UInt8)} {vs : List Value} (ho : Own w 32 1 v rows.length vs) (hS : ∀ k, v.ownBlock = some k → S k)
    (hr : ∀ (i : Nat) (x : List UInt8) (u : Value), rows[i]? = some x → vs[i]? = some u → Cs w (fun b => T b ∧ v.ownBlock ≠ some b) 1 u x.length (u8s x)) {x : List UInt8} {u : Value} (hu : Cs w (fun b => T b ∧ v.ownBlock ≠ some b) 1 u x.length (u8s x))
    (ho' : Own w' 32 1 v' (rows.length + 1) (vs ++ [u])) (hc : Chg (fun b => v.ownBlock = some b) w w') (hat : v'.ownBlock = v.ownBlock ∨ v'.ownBlock = some w.heap.size) (hnew : S w.heap.size) : Bss w' S T v' (rows ++ [x]) := by
  have hl : vs.length = rows.length := by have := ho.1; omega
  have key : ∀ {y : List UInt8} {z : Value}, Cs w (fun b => T b ∧ v.ownBlock ≠ some b) 1 z y.length (u8s y) → Cs w' (fun b => T b ∧ v'.ownBlock ≠ some b) 1 z y.length (u8s y) := fun {y z} h => by
    refine (h.chg hc fun b hb e => hb.2 e).sub' h fun b hb hlt => ⟨hb.1, fun e => ?_⟩
    rcases hat with h1 | h1
    · exact hb.2 (h1 ▸ e)
    · rw [h1] at e; injection e with e; omega
  refine ⟨vs ++ [u], by rw [List.length_append]; exact ho', fun k hk => ?_, fun i y z h1 h2 => ?_⟩
  · rcases hat with h1 | h1
    · exact hS k (h1 ▸ hk)
    · rw [h1] at hk; injection hk with hk; exact hk ▸ hnew
  · rcases Nat.lt_trichotomy i rows.length with h | h | h
    · rw [List.getElem?_append_left h] at h1
      rw [List.getElem?_append_left (by omega)] at h2
      exact key (hr i y z h1 h2)
    · subst h
      rw [List.getElem?_append_right (Nat.le_refl _), Nat.sub_self] at h1
      rw [List.getElem?_append_right (by omega), hl, Nat.sub_self] at h2
      injection h1 with h1
      injection h2 with h2
      subst h1 h2
      exact key hu
    · rw [List.getElem?_append_right (by omega)] at h1
      rw [List.getElem?_eq_none (by simp; omega)] at h1
      cases h1

theorem Cs.cut {w : World} {S : Nat → Prop} {A : Option Addr} {m cap : Nat} {xs : List Value} (h : Cs w S 1 (.slice A m cap) m xs) (lo hi : Nat) (h1 : lo ≤ hi) (h2 : hi ≤ m) (hm : 0 < m) :
    ∃ A', (∀ w' : World, (Instr.sliceAt 32 (.slice A m cap) (some (.int .i64 lo)) (some (.int .i64 hi)) none).run Try.prog w' = .ok (.slice A' (hi - lo) (cap - lo)) w') ∧ Cs w S 1 (.slice A' (hi - lo) (cap - lo)) (hi - lo) ((xs.drop lo).take (hi - lo)) := by
  obtain ⟨hl, A0, cap0, e, hn, hc, hp⟩ := h
  injection e with e0 _ e2
  subst e0 e2
  obtain ⟨b, off, rfl, hS, hlt, hcell⟩ := hp hm
  refine ⟨if cap = lo then some ⟨b, off, none⟩ else some ⟨b, off + lo, none⟩, fun w' => ?_, ?_, _, _, rfl, by omega, by simp only [maxLen] at hc ⊢; omega, fun h0 => ?_⟩
  · have h3 : (lo : Int) ≤ (hi : Int) := by omega
    have h4 : (hi : Int) ≤ (cap : Int) := by omega
    go_simp
  · rw [List.length_take, List.length_drop, hl]; omega
  · rw [if_neg (by omega)]
    refine ⟨b, off + lo, rfl, hS, hlt, fun j u hu => ?_⟩
    rw [List.getElem?_take] at hu
    split at hu
    · rw [List.getElem?_drop] at hu
      rw [Nat.add_assoc]
      exact hcell _ u hu
    · cases hu
theorem Cs.tail {w : World} {S : Nat → Prop} {A : Option Addr} {m cap : Nat} {xs : List Value} (h : Cs w S 1 (.slice A m cap) m xs) (lo : Nat) (h1 : lo ≤ m) (hm : 0 < m) :
    ∃ A', (∀ w' : World, (Instr.sliceAt 32 (.slice A m cap) (some (.int .i64 lo)) none none).run Try.prog w' = .ok (.slice A' (m - lo) (cap - lo)) w') ∧ Cs w S 1 (.slice A' (m - lo) (cap - lo)) (m - lo) (xs.drop lo) := by
  obtain ⟨hl, A0, cap0, e, hn, hc, hp⟩ := h
  injection e with e0 _ e2
  subst e0 e2
  obtain ⟨b, off, rfl, hS, hlt, hcell⟩ := hp hm
  refine ⟨if cap = lo then some ⟨b, off, none⟩ else some ⟨b, off + lo, none⟩, fun w' => ?_, ?_, _, _, rfl, by omega, by simp only [maxLen] at hc ⊢; omega, fun h0 => ?_⟩
  · have h3 : (lo : Int) ≤ (m : Int) := by omega
    have h4 : (m : Int) ≤ (cap : Int) := by omega
    go_simp
  · rw [List.length_drop, hl]; omega
  · rw [if_neg (by omega)]
    refine ⟨b, off + lo, rfl, hS, hlt, fun j u hu => ?_⟩
    rw [List.getElem?_drop] at hu
    rw [Nat.add_assoc]
    exact hcell _ u hu
theorem Cs.pre {w : World} {S : Nat → Prop} {A : Option Addr} {m cap : Nat} {xs : List Value} (h : Cs w S 1 (.slice A m cap) m xs) (k : Nat) (hk : k ≤ m) : Cs w S 1 (.slice A k k) k (xs.take k) := by
  obtain ⟨hl, A0, cap0, e, hn, hc, hp⟩ := h
  injection e with e0 _ e2
  subst e0 e2
  refine ⟨by rw [List.length_take, hl]; omega, _, _, rfl, Nat.le_refl _, by omega, fun h0 => ?_⟩
  obtain ⟨b, off, e, hS, hlt, hcell⟩ := hp (by omega)
  refine ⟨b, off, e, hS, hlt, fun j u hu => ?_⟩
  rw [List.getElem?_take] at hu
  split at hu
  · exact hcell j u hu
  · cases hu
def lenV : Value → Nat
  | .slice _ n _ => n
  | _ => 0
theorem info_row : (Try.prog.info? 32).map (fun i => (i.zero, i.size, i.bytes)) = some (some (.slice none 0 0), 1, 24) := by kernel_rfl

/-- What Open answers. -/
def OpenP (w : World) (p : Nat) (r : Option (LogS × List (List UInt8))) (e : Ending) (w' : World) : Prop :=
  match r with
  | none => e = .returned (.tuple #[.pointer none, .slice none 0 0, .int .i64 5]) ∧ Below w.heap.size w w'
  | some (L, rows) => ∃ (g : Nat) (S R : Nat → Prop) (v : Value), e = .returned (.tuple #[.pointer (some ⟨g, 0, none⟩), v, .int .i64 0]) ∧ LogI w' g p S L ∧ Bss w' R R v rows ∧
      (∀ b, S b → w.heap.size ≤ b) ∧ (∀ b, R b → w.heap.size ≤ b) ∧ (∀ b, S b → ¬ R b) ∧ Below w.heap.size w w'
theorem OpenP.no {w w' : World} {p : Nat} {r : Option (LogS × List (List UInt8))} (hr : r = none) (hb : Below w.heap.size w w') : OpenP w p r (.returned (.tuple #[.pointer none, .slice none 0 0, .int .i64 5])) w' := by
  subst hr; exact ⟨rfl, hb⟩

end Go.Proofs.Ytcgokafhkkmaoaa
