/- Disk: what lies behind a pointer to one; the small calls. -/
import Derived.Test.YtcgokafhkkmaoaaDkA
namespace Go.Proofs.Ytcgokafhkkmaoaa
open Go.RowKit

/-- A disk: how many blocks, the room, the fuse, is it down, what is firm, what is loose; entries: so many stores at most were made. -/
structure DS where
  blocks : Int
  room : Int
  fuse : Int
  down : Bool
  firm : Int → Option (List Int)
  loose : List (Int × List Int)
  entries : Nat

def wcells (x : Int × List Int) : List Value := .int .i64 x.1 :: cu8 x.2
def flatW (l : List (Int × List Int)) : List Value := l.flatMap wcells

/-- Behind the pointer to block p lies the disk D; what it may write lies in S. -/
def DiskI (w : World) (p : Nat) (S : Nat → Prop) (D : DS) : Prop :=
  S p ∧ (∀ b, S b → b < w.heap.size) ∧ ∃ m v, S m ∧ Blk w p 51 #[.int .i64 D.blocks, .int .i64 D.room, .int .i64 D.fuse, .bool D.down, .map (some m), v] ∧
    Own w 67 257 v D.loose.length (flatW D.loose) ∧ (∀ k, v.ownBlock = some k → S k) ∧ MapI Try.prog 3 w m D.entries (fun i => (D.firm i).map fun l => .agg (cu8 l).toArray)
theorem DiskI.keep {w w' : World} {p : Nat} {S : Nat → Prop} {D : DS} (h : DiskI w p S D) (hs : w.heap.size ≤ w'.heap.size) (hk : ∀ b, S b → w'.heap[b]? = w.heap[b]?) : DiskI w' p S D := by
  obtain ⟨h1, h2, m, v, hm, hb, ho, hv, hM⟩ := h
  exact ⟨h1, fun b hb => by have := h2 b hb; omega, m, v, hm, (hk p h1).trans hb, own_keep ho (fun k hk' => hk k (hv k hk')), hv, hM.keep (hk m hm)⟩
theorem DiskI.chg {w w' : World} {p : Nat} {S M : Nat → Prop} {D : DS} (h : DiskI w p S D) (hc : Chg M w w') (hd : ∀ b, S b → ¬ M b) : DiskI w' p S D :=
  h.keep hc.size fun b hb => hc.block b (h.2.1 b hb) (hd b hb)
theorem DiskI.alloc {w : World} {p : Nat} {S : Nat → Prop} {D : DS} (h : DiskI w p S D) (o : Obj) : DiskI (w.alloc o) p S D :=
  h.keep (by simp) fun b hb => Below.heap_alloc w o b (h.2.1 b hb)
theorem DiskI.below {w w' : World} {p : Nat} {S : Nat → Prop} {D : DS} (h : DiskI w p S D) (hb : Below w.heap.size w w') : DiskI w' p S D :=
  h.keep hb.size fun b hs => hb.block b (h.2.1 b hs)

theorem blocks_any (p : Nat) (S : Nat → Prop) (D : DS) (w : World) (h : DiskI w p S D) :
    Calls Try.prog 32 #[.pointer (some ⟨p, 0, none⟩)] w fun e w' => e = .returned (.int .i64 D.blocks) ∧ w' = w := by
  obtain ⟨_, _, m, v, _, hb, _⟩ := h
  have hc := hb.cell
  go_enter Try.func32, Try.ntmps32
  go_wp2
  go_ret
  exact ⟨rfl, rfl⟩
theorem down_any (p : Nat) (S : Nat → Prop) (D : DS) (w : World) (h : DiskI w p S D) :
    Calls Try.prog 18 #[.pointer (some ⟨p, 0, none⟩)] w fun e w' => e = .returned (.bool D.down) ∧ w' = w := by
  obtain ⟨_, _, m, v, _, hb, _⟩ := h
  have hc := hb.cell
  go_enter Try.func18, Try.ntmps18
  go_wp2
  go_ret
  exact ⟨rfl, rfl⟩

theorem MapI.ne_blk {P : Program} {k t : TypeId} {w : World} {m n p : Nat} {f : Int → Option Value} {cs : Array Value} (h : MapI P k w m n f) (hb : Blk w p t cs) : m ≠ p := by
  obtain ⟨D, ⟨es, clock, hm, _⟩, _⟩ := h
  intro e
  subst e
  rw [show w.heap[m]? = _ from hb] at hm
  injection hm with hm
  cases hm
/-- A field of the disk's own block is written. -/
theorem DiskI.put {w : World} {p : Nat} {S : Nat → Prop} {D D' : DS} (h : DiskI w p S D) (i : Nat) (u : Value)
    (hd : ∀ m v, (#[.int .i64 D.blocks, .int .i64 D.room, .int .i64 D.fuse, .bool D.down, .map (some m), v] : Array Value).setIfInBounds i u = #[.int .i64 D'.blocks, .int .i64 D'.room, .int .i64 D'.fuse, .bool D'.down, .map (some m), v])
    (hl : D'.loose = D.loose) (hf : D'.firm = D.firm) (he : D'.entries = D.entries) : DiskI (w.setCell ⟨p, i, none⟩ u) p S D' := by
  obtain ⟨h1, h2, m, v, hm, hb, ho, hv, hM⟩ := h
  have hc := (Chg.refl (fun b => b = p) w).setOf rfl i u
  refine ⟨h1, fun b hb => by simpa using h2 b hb, m, v, hm, ?_, ?_, hv, ?_⟩
  · rw [← hd]; exact hb.set_ i u
  · rw [hl]
    exact own_keep ho (fun k hk => hc.block k (own_lt ho hk) (fun e => own_blk_ne ho hb (by decide) (by rw [hk, e])))
  · rw [hf, he]
    exact hM.chg hc (hM.ne_blk hb)
theorem DiskI.putUpd {w : World} {p : Nat} {S : Nat → Prop} {D : DS} (h : DiskI w p S D) (i : Nat) (u : Value) : Chg S w (w.setCell ⟨p, i, none⟩ u) := (Chg.refl S w).setOf h.1 i u

theorem run_maxi (a b : Int) (ty : TypeId) (W : World) : (Builtin.max_ #[3, 3] ty #[.int .i64 a, .int .i64 b]).run Try.prog W = .ok (.int .i64 (max a b)) W := by
  by_cases h : a < b
  · have e : max a b = b := by omega
    rw [e]
    simp [Builtin.max_, Builtin.max2, go_sem, h]
  · have e : max a b = a := by omega
    rw [e]
    simp [Builtin.max_, Builtin.max2, go_sem, h]

theorem room_any (p : Nat) (S : Nat → Prop) (D : DS) (n : Int) (w : World) (h : DiskI w p S D) :
    Calls Try.prog 12 #[.pointer (some ⟨p, 0, none⟩), .int .i64 n] w fun e w' => e = .returned (.tuple #[]) ∧ DiskI w' p S { D with room := max n 0 } ∧ Chg S w w' := by
  have hmx := run_maxi n 0
  have H := Lib.hid h
  obtain ⟨_, _, m, v, _, hb, _⟩ := h
  have hc := hb.cell
  have hf := hb.frozen
  generalize max n 0 = k at *
  go_enter Try.func12, Try.ntmps12
  go_wp2
  go_end0
  exact ⟨rfl, H.out.put 1 _ (fun _ _ => rfl) rfl rfl rfl, H.out.putUpd 1 _⟩
theorem arm_any (p : Nat) (S : Nat → Prop) (D : DS) (n : Int) (w : World) (h : DiskI w p S D) :
    Calls Try.prog 17 #[.pointer (some ⟨p, 0, none⟩), .int .i64 n] w fun e w' => e = .returned (.tuple #[]) ∧ DiskI w' p S { D with fuse := max n (-1) } ∧ Chg S w w' := by
  have hmx := run_maxi n (-1)
  have H := Lib.hid h
  obtain ⟨_, _, m, v, _, hb, _⟩ := h
  have hc := hb.cell
  have hf := hb.frozen
  generalize max n (-1) = k at *
  go_enter Try.func17, Try.ntmps17
  go_wp2
  go_end0
  exact ⟨rfl, H.out.put 2 _ (fun _ _ => rfl) rfl rfl rfl, H.out.putUpd 2 _⟩

/-- begins: the disk behind it, can an operation be done. -/
def DS.begins (D : DS) : DS × Bool :=
  if D.down then (D, false) else if D.fuse = 0 then ({ D with down := true, fuse := -1 }, false) else if 0 < D.fuse then ({ D with fuse := D.fuse - 1 }, true) else (D, true)

theorem begins_any (p : Nat) (S : Nat → Prop) (D : DS) (w : World) (h : DiskI w p S D) (hf1 : -9223372036854775808 < D.fuse) (hf2 : D.fuse ≤ 9223372036854775807) :
    Calls Try.prog 31 #[.pointer (some ⟨p, 0, none⟩)] w fun e w' => e = .returned (.bool D.begins.2) ∧ DiskI w' p S D.begins.1 ∧ Chg S w w' := by
  obtain ⟨Db, Dr, Df, Dd, Dm, Dl, De⟩ := D
  have H := Lib.hid h
  obtain ⟨_, _, m, v, _, hb, _⟩ := h
  have hc := hb.cell
  have hf := hb.frozen
  simp only at hf1 hf2 hc
  cases Dd
  · by_cases h0 : Df = 0
    · subst h0
      go_enter Try.func31, Try.ntmps31
      go_wp2
      go_ret
      have h1 := H.out.put (D' := ⟨Db, Dr, 0, true, Dm, Dl, De⟩) 3 (.bool true) (fun _ _ => rfl) rfl rfl rfl
      exact ⟨rfl, h1.put 2 _ (fun _ _ => rfl) rfl rfl rfl, (H.out.putUpd 3 _).trans (h1.putUpd 2 _) (fun _ h => .inl h)⟩
    · have h0' : (Df == 0) = false := by simpa using h0
      by_cases h1 : 0 < Df
      · have e : (⟨Db, Dr, Df, false, Dm, Dl, De⟩ : DS).begins = (⟨Db, Dr, Df - 1, false, Dm, Dl, De⟩, true) := by simp [DS.begins, h0, h1]
        rw [e]
        clear e
        go_enter Try.func31, Try.ntmps31
        go_wp2
        go_ret
        exact ⟨rfl, H.out.put 2 _ (fun _ _ => rfl) rfl rfl rfl, H.out.putUpd 2 _⟩
      · have e : (⟨Db, Dr, Df, false, Dm, Dl, De⟩ : DS).begins = (⟨Db, Dr, Df, false, Dm, Dl, De⟩, true) := by simp [DS.begins, h0, h1]
        rw [e]
        clear e
        go_enter Try.func31, Try.ntmps31
        go_wp2
        go_ret
        exact ⟨rfl, H.out, Chg.refl _ _⟩
  · have e : (⟨Db, Dr, Df, true, Dm, Dl, De⟩ : DS).begins = (⟨Db, Dr, Df, true, Dm, Dl, De⟩, false) := by simp [DS.begins]
    rw [e]
    clear e
    go_enter Try.func31, Try.ntmps31
    go_wp2
    go_ret
    exact ⟨rfl, H.out, Chg.refl _ _⟩

end Go.Proofs.Ytcgokafhkkmaoaa
