/- The document's disk (reference), as it lies in memory; its small calls. -/
import Derived.Test.YthmjgcmaoniejaaDkR
import Derived.Deep.DeepCutAuto
namespace Go.Proofs.Ythmjgcmaoniejaa
open Go.RowKit Go.Maps

attribute [-simp] Try.isAgg35 Try.sizeOf35 Try.typeInfo35 Try.isAgg61 Try.sizeOf61 Try.typeInfo61

/-- The document's disk. -/
structure RS where
  firm : List (List Int)
  loose : List (Int × List Int)
  room : Int
  fuse : Int
  off : Bool

def RefI (w : World) (p : Nat) (S : Nat → Prop) (R : RS) : Prop :=
  S p ∧ (∀ b, S b → b < w.heap.size) ∧ ∃ vf vl, Blk w p 44 #[vf, vl, .int .i64 R.room, .int .i64 R.fuse, .bool R.off] ∧
    Own w 35 256 vf R.firm.length (flatB R.firm) ∧ (∀ k, vf.ownBlock = some k → S k) ∧
    Own w 61 257 vl R.loose.length (flatW R.loose) ∧ (∀ k, vl.ownBlock = some k → S k)
section
variable {w w' : World} {p : Nat} {S M : Nat → Prop} {R : RS}
theorem RefI.keep (h : RefI w p S R) (hs : w.heap.size ≤ w'.heap.size) (hk : ∀ b, S b → w'.heap[b]? = w.heap[b]?) : RefI w' p S R := by
  obtain ⟨h1, h2, vf, vl, hb, hf, hvf, hl, hvl⟩ := h
  exact ⟨h1, fun b hb => by have := h2 b hb; omega, vf, vl, (hk p h1).trans hb, own_keep hf (fun k hk' => hk k (hvf k hk')), hvf, own_keep hl (fun k hk' => hk k (hvl k hk')), hvl⟩
theorem RefI.chg (h : RefI w p S R) (hc : Chg M w w') (hd : ∀ b, S b → ¬ M b) : RefI w' p S R := h.keep hc.size fun b hb => hc.block b (h.2.1 b hb) (hd b hb)
theorem RefI.below (h : RefI w p S R) (hb : Below w.heap.size w w') : RefI w' p S R := h.keep hb.size fun b hs => hb.block b (h.2.1 b hs)
theorem RefI.alloc (h : RefI w p S R) (o : Obj) : RefI (w.alloc o) p S R := h.keep (by simp) fun b hb => Below.heap_alloc w o b (h.2.1 b hb)
/-- A field of its own block is written. -/
theorem RefI.put (h : RefI w p S R) {R' : RS} (i : Nat) (u : Value)
    (hd : ∀ vf vl, (#[vf, vl, .int .i64 R.room, .int .i64 R.fuse, .bool R.off] : Array Value).setIfInBounds i u = #[vf, vl, .int .i64 R'.room, .int .i64 R'.fuse, .bool R'.off])
    (hl : R'.loose = R.loose) (hf : R'.firm = R.firm) : RefI (w.setCell ⟨p, i, none⟩ u) p S R' := by
  obtain ⟨h1, h2, vf, vl, hb, hfi, hvf, hlo, hvl⟩ := h
  refine ⟨h1, fun b hb => by simpa using h2 b hb, vf, vl, ?_, ?_, hvf, ?_, hvl⟩
  · rw [← hd]; exact hb.set_ i u
  · rw [hf]; exact own_keep hfi (fun k hk => Below.heap_setCell _ _ _ _ (fun e => own_blk_ne hfi hb (by decide) (by rw [hk, e])))
  · rw [hl]; exact own_keep hlo (fun k hk => Below.heap_setCell _ _ _ _ (fun e => own_blk_ne hlo hb (by decide) (by rw [hk, e])))
theorem RefI.putUpd (h : RefI w p S R) (i : Nat) (u : Value) : Chg S w (w.setCell ⟨p, i, none⟩ u) := (Chg.refl S w).setOf h.1 i u
end

/-- off: the disk behind it. -/
def RS.begins (R : RS) : RS := if R.off = false ∧ R.fuse = 0 then { R with off := true, fuse := -1 } else if R.off = false ∧ 0 < R.fuse then { R with fuse := R.fuse - 1 } else R

theorem roff_any (p : Nat) (S : Nat → Prop) (R : RS) (w : World) (h : RefI w p S R) (hf1 : -9223372036854775808 < R.fuse) (hf2 : R.fuse ≤ 9223372036854775807) :
    Calls Try.prog 33 #[.pointer (some ⟨p, 0, none⟩)] w fun e w' => e = .returned (.bool R.begins.off) ∧ RefI w' p S R.begins ∧ Chg S w w' := by
  obtain ⟨Rf, Rl, Rr, Ru, Ro⟩ := R
  have H := Lib.hid h
  obtain ⟨_, _, vf, vl, hb, _⟩ := h
  have hc := hb.cell
  have hf := hb.frozen
  simp only at hf1 hf2 hc
  cases Ro
  · by_cases h0 : Ru = 0
    · subst h0
      have e : (⟨Rf, Rl, Rr, 0, false⟩ : RS).begins = ⟨Rf, Rl, Rr, -1, true⟩ := by simp [RS.begins]
      rw [e]
      clear e
      go_enter Try.func33, Try.ntmps33
      go_wp2
      go_ret
      have h1 := H.out.put (R' := ⟨Rf, Rl, Rr, 0, true⟩) 4 (.bool true) (fun _ _ => rfl) rfl rfl
      exact ⟨rfl, h1.put 3 _ (fun _ _ => rfl) rfl rfl, (H.out.putUpd 4 _).trans (h1.putUpd 3 _) (fun _ h => .inl h)⟩
    · have h0' : (Ru == 0) = false := by simpa using h0
      by_cases h1 : 0 < Ru
      · have e : (⟨Rf, Rl, Rr, Ru, false⟩ : RS).begins = ⟨Rf, Rl, Rr, Ru - 1, false⟩ := by simp [RS.begins, h0, h1]
        rw [e]
        clear e
        go_enter Try.func33, Try.ntmps33
        go_wp2
        go_ret
        exact ⟨rfl, H.out.put 3 _ (fun _ _ => rfl) rfl rfl, H.out.putUpd 3 _⟩
      · have e : (⟨Rf, Rl, Rr, Ru, false⟩ : RS).begins = ⟨Rf, Rl, Rr, Ru, false⟩ := by simp [RS.begins, h0, h1]
        rw [e]
        clear e
        go_enter Try.func33, Try.ntmps33
        go_wp2
        go_ret
        exact ⟨rfl, H.out, Chg.refl _ _⟩
  · have e : (⟨Rf, Rl, Rr, Ru, true⟩ : RS).begins = ⟨Rf, Rl, Rr, Ru, true⟩ := by simp [RS.begins]
    rw [e]
    clear e
    go_enter Try.func33, Try.ntmps33
    go_wp2
    go_ret
    exact ⟨rfl, H.out, Chg.refl _ _⟩

theorem rroom_any (p : Nat) (S : Nat → Prop) (R : RS) (n : Int) (w : World) (h : RefI w p S R) :
    Calls Try.prog 30 #[.pointer (some ⟨p, 0, none⟩), .int .i64 n] w fun e w' => e = .returned (.tuple #[]) ∧ RefI w' p S { R with room := max n 0 } ∧ Chg S w w' := by
  have H := Lib.hid h
  obtain ⟨_, _, vf, vl, hb, _⟩ := h
  have hc := hb.cell
  have hf := hb.frozen
  by_cases h0 : n < 0
  · go_enter Try.func30, Try.ntmps30
    go_wp2
    go_end0
    rw [show max n 0 = 0 by omega]
    have h1 := H.out.put (R' := { R with room := n }) 2 (.int .i64 n) (fun _ _ => rfl) rfl rfl
    exact ⟨rfl, h1.put 2 _ (fun _ _ => rfl) rfl rfl, (H.out.putUpd 2 _).trans (h1.putUpd 2 _) (fun _ h => .inl h)⟩
  · go_enter Try.func30, Try.ntmps30
    go_wp2
    go_end0
    rw [show max n 0 = n by omega]
    exact ⟨rfl, H.out.put 2 _ (fun _ _ => rfl) rfl rfl, H.out.putUpd 2 _⟩
theorem rarm_any (p : Nat) (S : Nat → Prop) (R : RS) (n : Int) (w : World) (h : RefI w p S R) :
    Calls Try.prog 31 #[.pointer (some ⟨p, 0, none⟩), .int .i64 n] w fun e w' => e = .returned (.tuple #[]) ∧ RefI w' p S { R with fuse := max n (-1) } ∧ Chg S w w' := by
  have H := Lib.hid h
  obtain ⟨_, _, vf, vl, hb, _⟩ := h
  have hc := hb.cell
  have hf := hb.frozen
  by_cases h0 : n < 0
  · go_enter Try.func31, Try.ntmps31
    go_wp2
    go_end0
    rw [show max n (-1) = -1 by omega]
    have h1 := H.out.put (R' := { R with fuse := n }) 3 (.int .i64 n) (fun _ _ => rfl) rfl rfl
    exact ⟨rfl, h1.put 3 _ (fun _ _ => rfl) rfl rfl, (H.out.putUpd 3 _).trans (h1.putUpd 3 _) (fun _ h => .inl h)⟩
  · go_enter Try.func31, Try.ntmps31
    go_wp2
    go_end0
    rw [show max n (-1) = n by omega]
    exact ⟨rfl, H.out.put 3 _ (fun _ _ => rfl) rfl rfl, H.out.putUpd 3 _⟩

end Go.Proofs.Ythmjgcmaoniejaa
