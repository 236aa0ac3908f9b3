/- Wal: a log in memory; Epoch. -/
import Derived.Test.YtcgokafhkkmaoaaWkC
namespace Go.Proofs.Ytcgokafhkkmaoaa
open Go.RowKit Go.Maps

/-- A log: its region, its mark, the bytes up to the end, what was appended. -/
structure LogS where
  first : Int
  size : Int
  number : Nat
  epoch : Nat
  fin : Nat
  bytes : List UInt8
  more : List UInt8

/-- A log at block g, over the disk at p; its own blocks are in S: what it reads lies apart from what it appends to. -/
def LogI (w : World) (g p : Nat) (S : Nat → Prop) (L : LogS) : Prop := ∃ bv mv, S g ∧ (∀ b, S b → b < w.heap.size) ∧
  Blk w g 59 #[.pointer (some ⟨p, 0, none⟩), .int .i64 L.first, .int .i64 L.size, .int .u64 L.number, .int .u64 L.epoch, .int .u64 L.fin, bv, mv] ∧
  Cs w (fun b => S b ∧ b ≠ g ∧ mv.ownBlock ≠ some b) 1 bv L.bytes.length (u8s L.bytes) ∧ Own w 5 1 mv L.more.length (u8s L.more) ∧ ∀ k, mv.ownBlock = some k → S k ∧ k ≠ g

theorem LogI.reg {w : World} {g p : Nat} {S : Nat → Prop} {L : LogS} (h : LogI w g p S L) : RegI w g p L.first L.size := by
  obtain ⟨bv, mv, _, _, hb, _⟩ := h
  have hc := hb.cell
  exact ⟨by rw [hc]; rfl, by rw [hc]; rfl, by rw [hc]; rfl⟩

theorem LogI.chg {w w' : World} {g p : Nat} {S T : Nat → Prop} {L : LogS} (h : LogI w g p S L) (hc : Chg T w w') (hd : ∀ b, S b → ¬ T b) : LogI w' g p S L := by
  obtain ⟨bv, mv, hg, hlt, hb, hcs, ho, hm⟩ := h
  exact ⟨bv, mv, hg, fun b hb => Nat.lt_of_lt_of_le (hlt b hb) hc.size, hb.chg hc (hd g hg), hcs.chg hc (fun b hb => hd b hb.1), own_keep ho (fun k hk => hc.block k (hlt k (hm k hk).1) (hd k (hm k hk).1)), hm⟩
theorem LogI.below {w w' : World} {g p : Nat} {S : Nat → Prop} {L : LogS} (h : LogI w g p S L) (hb : Below w.heap.size w w') : LogI w' g p S L :=
  h.chg (Chg.of_below hb (fun _ => False)) (fun _ _ h => h)
theorem LogI.alloc {w : World} {g p : Nat} {S : Nat → Prop} {L : LogS} (h : LogI w g p S L) (o : Obj) : LogI (w.alloc o) g p S L := h.below ((Below.refl _ w).alloc (Nat.le_refl _) o)
theorem LogI.drewN {w : World} {g p : Nat} {S : Nat → Prop} {L : LogS} (h : LogI w g p S L) (n : Nat) : LogI (w.drewN n) g p S L := h.below (below_drewN (Below.refl _ w) n)

theorem epoch_any (w : World) (g p : Nat) (S : Nat → Prop) (L : LogS) (h : LogI w g p S L) :
    Calls Try.prog 16 #[.pointer (some ⟨g, 0, none⟩)] w fun e w' => e = .returned (.int .u64 L.epoch) ∧ w' = w := by
  obtain ⟨bv, mv, _, _, hb, _⟩ := h
  have hc := hb.cell
  go_enter Try.func16, Try.ntmps16
  go_wp2
  go_ret
  exact ⟨rfl, rfl⟩

end Go.Proofs.Ytcgokafhkkmaoaa
