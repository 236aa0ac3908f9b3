/- Wal: what Open tells, as plain Lean. -/
import Derived.Test.YtcgokafhkkmaoaaWkK
namespace Go.Proofs.Ytcgokafhkkmaoaa
open Go.RowKit Go.Maps

/-- All blocks hold bytes. -/
structure DS.Byt (D : DS) : Prop where
  loose : ∀ x ∈ D.loose, ∃ bs, x.2 = ints bs
  firm : ∀ i l, D.firm i = some l → ∃ bs, l = ints bs
def DS.bytes (D : DS) (n : Int) : List UInt8 := (D.read n).1.map fun i => UInt8.ofNat i.toNat
theorem ints_back (bs : List UInt8) : (ints bs).map (fun i => UInt8.ofNat i.toNat) = bs := by
  simp only [ints, List.map_map]
  conv => rhs; rw [← List.map_id bs]
  congr 1
  funext b
  simp
theorem noughts_ints : noughts = ints (List.replicate 256 0) := by unfold noughts ints; rw [List.map_replicate]; rfl
theorem puts_byt : ∀ (l : List (Int × List Int)) (f : Int → Option (List Int)), (∀ i x, f i = some x → ∃ bs, x = ints bs) → (∀ x ∈ l, ∃ bs, x.2 = ints bs) → ∀ i x, l.foldl putF f i = some x → ∃ bs, x = ints bs
  | [], _, h, _ => h
  | y :: r, f, h, hl => puts_byt r _ (fun i x hx => by
      unfold putF at hx
      split at hx
      · injection hx with hx; subst hx; exact hl y (List.mem_cons_self ..)
      · exact h i x hx) fun x hx => hl x (List.mem_cons_of_mem _ hx)
theorem DS.Byt.now {D : DS} (h : D.Byt) (n : Int) : ∃ bs, D.now n = ints bs := by
  unfold DS.now
  cases e : D.loose.foldl putF D.firm n with
  | none => exact ⟨_, noughts_ints⟩
  | some l => exact puts_byt _ _ h.firm h.loose n l e
theorem DS.Byt.read {D : DS} (h : D.Byt) (n : Int) : (D.read n).1 = ints (D.bytes n) := by
  have : ∃ bs, (D.read n).1 = ints bs := by
    unfold DS.read
    split
    · exact ⟨_, noughts_ints⟩
    · split
      · exact ⟨_, noughts_ints⟩
      · exact h.now n
  obtain ⟨bs, hb⟩ := this
  rw [DS.bytes, hb, ints_back]
theorem DS.read_ok {D : DS} (hd : D.down = false) {n : Int} (h0 : 0 ≤ n) (h1 : n < D.blocks) : (D.read n).2 = 0 := by
  unfold DS.read
  rw [hd, if_neg (by simp), if_neg (by omega)]
theorem DS.bytes_length {D : DS} {B : Nat} (h : D.Fine B) (n : Int) : (D.bytes n).length = 256 := by
  rw [DS.bytes, List.length_map, h.read_length]

/-- The better mark. -/
def upd (o : Option (List UInt8)) (b : List UInt8) (n : Nat) : Option (List UInt8) :=
  if lookB b n && (match o with | none => true | some a => decide (num a 0 < num b 0)) then some b else o
def numO (o : Option (List UInt8)) (k : Nat) : Nat := match o with | none => 0 | some a => num a k
def bestAt (D : DS) (first : Int) : Nat → Option (List UInt8)
  | 0 => none
  | k + 1 => upd (bestAt D first k) (D.bytes (first + k)) k
/-- So many blocks of records. -/
def catAt (D : DS) (first : Int) : Nat → List UInt8
  | 0 => []
  | k + 1 => catAt D first k ++ D.bytes (first + 2 + k)
theorem catAt_length {D : DS} {B : Nat} (h : D.Fine B) (first : Int) : ∀ k, (catAt D first k).length = 256 * k
  | 0 => rfl
  | k + 1 => by rw [catAt, List.length_append, catAt_length h first k, D.bytes_length h]; omega
def parse : Nat → List UInt8 → Option (List (List UInt8))
  | _, [] => some []
  | 0, _ :: _ => none
  | k + 1, b :: r => if (b :: r).length < 8 then none else if (b :: r).length - 8 < num (b :: r) 0 then none else
      (parse k ((b :: r).drop (8 + num (b :: r) 0))).map fun l => ((b :: r).drop 8).take (num (b :: r) 0) :: l
theorem parse_more : ∀ (k : Nat) (bs : List UInt8), bs.length ≤ k → parse k bs = parse bs.length bs := by
  intro k
  induction k using Nat.strongRecOn with
  | ind k ih =>
    intro bs h
    cases bs with
    | nil => cases k <;> rfl
    | cons b r =>
      cases k with
      | zero => simp at h
      | succ k =>
        simp only [List.length_cons] at h
        have key : ∀ j, j = k ∨ j = r.length → parse j ((b :: r).drop (8 + num (b :: r) 0)) = parse ((b :: r).drop (8 + num (b :: r) 0)).length ((b :: r).drop (8 + num (b :: r) 0)) := fun j hj => by
          refine ih j (by omega) _ ?_
          rw [List.length_drop, List.length_cons]; omega
        simp only [List.length_cons, parse]
        split
        · rfl
        · split
          · rfl
          · rw [key k (.inl rfl), key r.length (.inr rfl)]
theorem parse_step (m : Nat) (bs : List UInt8) (hl : bs.length = m) (h8 : 8 ≤ m) (hn : num bs 0 ≤ m - 8) : parse m bs = (parse (m - (8 + num bs 0)) (bs.drop (8 + num bs 0))).map fun l => (bs.drop 8).take (num bs 0) :: l := by
  cases bs with
  | nil => simp at hl; omega
  | cons b r =>
    cases m with
    | zero => omega
    | succ m =>
      simp only [parse]
      rw [if_neg (by omega), if_neg (by omega), parse_more m _ (by rw [List.length_drop]; omega), List.length_drop, hl]
theorem parse_no (m : Nat) (bs : List UInt8) (hl : bs.length = m) (h0 : 0 < m) (h : m < 8 ∨ m - 8 < num bs 0) : parse m bs = none := by
  cases bs with
  | nil => simp at hl; omega
  | cons b r =>
    cases m with
    | zero => omega
    | succ m =>
      simp only [parse]
      split
      · rfl
      · rw [if_pos (by omega)]
def openWith (D : DS) (first size : Int) (a : List UInt8) : Option (LogS × List (List UInt8)) :=
  if (size - 2) * 256 < (num a 16 : Int) then none else
    (parse (num a 16) ((catAt D first ((num a 16 + 255) / 256)).take (num a 16))).map fun rows =>
      (⟨first, size, num a 0, num a 8, num a 16, (catAt D first ((num a 16 + 255) / 256)).take (num a 16), []⟩, rows)
def openF (D : DS) (first size : Int) : Option (LogS × List (List UInt8)) :=
  match bestAt D first 2 with
  | none => none
  | some a => openWith D first size a

end Go.Proofs.Ytcgokafhkkmaoaa
