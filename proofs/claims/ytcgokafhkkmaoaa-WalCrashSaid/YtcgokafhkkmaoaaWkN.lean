/- Wal, plain: a disk's calls by their answers; what a disk holds of a log. -/
import Derived.Test.YtcgokafhkkmaoaaWkL
namespace Go.Proofs.Ytcgokafhkkmaoaa
open Go.RowKit Go.Maps

/-- One operation is done. -/
def tickF (f : Int) : Int := if 0 < f then f - 1 else f
theorem DS.begins_go {D : DS} (hd : D.down = false) (hf : D.fuse ≠ 0) : D.begins = ({ D with fuse := tickF D.fuse }, true) := by
  obtain ⟨b, r, f, d, fi, l, e⟩ := D
  simp only at hd hf
  subst hd
  unfold DS.begins tickF
  simp only [Bool.false_eq_true, ↓reduceIte]
  rw [if_neg hf]
  split <;> rfl
theorem DS.begins_dn {D : DS} (hd : D.down = false) (hf : D.fuse = 0) : D.begins = ({ D with down := true, fuse := -1 }, false) := by
  unfold DS.begins
  rw [hd, if_neg (by simp), if_pos hf]
theorem DS.write_go {D : DS} (hd : D.down = false) (hf : D.fuse ≠ 0) {n : Int} (h0 : 0 ≤ n) (h1 : n < D.blocks) (h2 : n < D.room) (l : List Int) :
    D.write n l = ({ D with fuse := tickF D.fuse, loose := D.loose ++ [(n, l)] }, 0) := by
  unfold DS.write
  rw [D.begins_go hd hf]
  simp only
  rw [if_neg (by simp), if_neg (by omega), if_neg (by omega)]
theorem DS.write_dn {D : DS} (hd : D.down = false) (hf : D.fuse = 0) (n : Int) (l : List Int) : D.write n l = ({ D with down := true, fuse := -1 }, 44) := by
  unfold DS.write
  rw [D.begins_dn hd hf]
  simp
theorem DS.write_full {D : DS} (hd : D.down = false) (hf : D.fuse < 0) {n : Int} (h0 : 0 ≤ n) (h1 : n < D.blocks) (h2 : D.room ≤ n) (l : List Int) : D.write n l = (D, 42) := by
  have : tickF D.fuse = D.fuse := by unfold tickF; rw [if_neg (by omega)]
  unfold DS.write
  rw [D.begins_go hd (by omega), this]
  simp only
  rw [if_neg (by simp), if_neg (by omega), if_pos (by omega)]
theorem DS.sync_go {D : DS} (hd : D.down = false) (hf : D.fuse ≠ 0) : D.sync = ({ D with fuse := tickF D.fuse, firm := D.loose.foldl putF D.firm, loose := [], entries := D.entries + D.loose.length }, 0) := by
  unfold DS.sync
  rw [D.begins_go hd hf]
  simp
theorem DS.sync_dn {D : DS} (hd : D.down = false) (hf : D.fuse = 0) : D.sync = ({ D with down := true, fuse := -1 }, 44) := by
  unfold DS.sync
  rw [D.begins_dn hd hf]
  simp

theorem numOf_be (n : Nat) (h : n < 18446744073709551616) : Lib.beNat (Lib.beBytes 8 n) = n := Lib.beNat_beBytes 8 n (by simpa using h)
/-- A mark's bytes. -/
def markB (n e f : Nat) : List UInt8 := Lib.beBytes 8 n ++ Lib.beBytes 8 e ++ Lib.beBytes 8 f ++ Lib.beBytes 8 f ++ Lib.beBytes 8 e ++ Lib.beBytes 8 n ++ List.replicate 208 0
theorem markL_ints (n e f : Nat) : markL n e f = ints (markB n e f) := by
  have h0 : (((0 : UInt8).toNat : Nat) : Int) = 0 := rfl
  have h1 : ints (List.replicate 208 0) = List.replicate 208 0 := by rw [ints, List.map_replicate, h0]
  rw [markL_eq, markB, ints_append, h1]
  simp only [ints_append]
theorem ints_inj {a b : List UInt8} (h : ints a = ints b) : a = b := by
  rw [← ints_back a, h, ints_back]
theorem markB_num (n e f : Nat) (hn : n < 18446744073709551616) (he : e < 18446744073709551616) (hf : f < 18446744073709551616) :
    num (markB n e f) 0 = n ∧ num (markB n e f) 8 = e ∧ num (markB n e f) 16 = f ∧ num (markB n e f) 24 = f ∧ num (markB n e f) 32 = e ∧ num (markB n e f) 40 = n := by
  have hN := Lib.beBytes_length 8 n
  have hE := Lib.beBytes_length 8 e
  have hF := Lib.beBytes_length 8 f
  have kN := numOf_be n hn
  have kE := numOf_be e he
  have kF := numOf_be f hf
  unfold markB num
  generalize List.replicate 208 (0 : UInt8) = R
  generalize Lib.beBytes 8 n = N at *
  generalize Lib.beBytes 8 e = E at *
  generalize Lib.beBytes 8 f = F at *
  refine ⟨?_, ?_, ?_, ?_, ?_, ?_⟩
  all_goals
    simp only [List.append_assoc]
    simp [List.take_append, List.drop_append, hN, hE, hF, List.take_of_length_le, List.drop_of_length_le, kN, kE, kF]
/-- A block that is a mark. -/
def MarkI (bs : List UInt8) (n e f : Nat) : Prop := num bs 0 = n ∧ num bs 8 = e ∧ num bs 16 = f ∧ num bs 24 = f ∧ num bs 32 = e ∧ num bs 40 = n
theorem MarkI.look {bs : List UInt8} {n e f k : Nat} (h : MarkI bs n e f) (h1 : 1 ≤ n) (hk : n % 2 = k) : lookB bs k = true := by
  obtain ⟨a, b, c, d, e', f'⟩ := h
  unfold lookB
  rw [a, b, c, d, e', f']
  simp [hk]; omega

/-- Records as bytes. -/
def encR (b : List UInt8) : List UInt8 := Lib.beBytes 8 b.length ++ b
def enc (rows : List (List UInt8)) : List UInt8 := rows.flatMap encR
theorem encR_length (b : List UInt8) : (encR b).length = 8 + b.length := by rw [encR, List.length_append, Lib.beBytes_length]
theorem enc_append (a b : List (List UInt8)) : enc (a ++ b) = enc a ++ enc b := List.flatMap_append
theorem enc_one (b : List UInt8) : enc [b] = encR b := by simp [enc]
theorem enc_cons (b : List UInt8) (r : List (List UInt8)) : enc (b :: r) = encR b ++ enc r := by simp [enc]
theorem num_enc (b r : List UInt8) (h : b.length < 18446744073709551616) : num (encR b ++ r) 0 = b.length := by
  have hb := Lib.beBytes_length 8 b.length
  rw [num, List.drop_zero, encR, List.append_assoc, List.take_append_of_le_length (by omega), List.take_of_length_le (by omega), numOf_be _ h]
theorem parse_enc : ∀ (rows : List (List UInt8)), (∀ b ∈ rows, b.length < 18446744073709551616) → parse (enc rows).length (enc rows) = some rows
  | [], _ => rfl
  | b :: r, h => by
    have hb := h b (List.mem_cons_self ..)
    have ih := parse_enc r fun x hx => h x (List.mem_cons_of_mem _ hx)
    have hl := encR_length b
    have hn := num_enc b (enc r) hb
    rw [enc_cons]
    rw [parse_step _ _ rfl (by rw [List.length_append]; omega) (by rw [hn, List.length_append]; omega), hn]
    have e1 : (encR b ++ enc r).drop (8 + b.length) = enc r := by rw [← hl, List.drop_left]
    have e2 : ((encR b ++ enc r).drop 8).take b.length = b := by
      have h8 := Lib.beBytes_length 8 b.length
      rw [encR, List.append_assoc]
      rw [show (Lib.beBytes 8 b.length ++ (b ++ enc r)).drop 8 = b ++ enc r from List.drop_left' h8, List.take_left]
    rw [e1, e2, show (encR b ++ enc r).length - (8 + b.length) = (enc r).length by rw [List.length_append]; omega, ih]
    rfl

/-- The disk holds the log. -/
structure WalI (D : DS) (L : LogS) : Prop where
  down : D.down = false
  loose : D.loose = []
  byt : D.Byt
  ok : D.Ok
  fit : fitsB D.blocks L.first L.size = true
  blk : D.blocks ≤ 4096
  num1 : 1 ≤ L.number
  num2 : L.number < 4294967296
  ep : L.epoch < 4294967296
  fin : L.fin = L.bytes.length
  area : (L.bytes.length : Int) ≤ (L.size - 2) * 256
  mark : MarkI (D.bytes (L.first + (L.number : Int) % 2)) L.number L.epoch L.fin
  other : lookB (D.bytes (L.first + ((L.number + 1 : Nat) : Int) % 2)) ((L.number + 1) % 2) = true → num (D.bytes (L.first + ((L.number + 1 : Nat) : Int) % 2)) 0 < L.number
  data : ∀ (i : Nat) (b : UInt8), L.bytes[i]? = some b → (D.bytes (L.first + 2 + (i / 256 : Nat)))[i % 256]? = some b
theorem WalI.bounds {D : DS} {L : LogS} (h : WalI D L) : 0 ≤ L.first ∧ 2 < L.size ∧ L.size ≤ D.blocks ∧ L.first + L.size ≤ D.blocks := by
  have := h.fit
  simp only [fitsB, Bool.and_eq_true, decide_eq_true_eq] at this
  omega
theorem WalI.small {D : DS} {L : LogS} (h : WalI D L) : L.bytes.length ≤ 1048576 := by
  have := h.area
  have := h.bounds
  have := h.blk
  omega
theorem DS.Ok.bytes_length {D : DS} (h : D.Ok) (n : Int) : (D.bytes n).length = 256 := by
  rw [DS.bytes, List.length_map]
  unfold DS.read
  split
  · simp only [noughts, List.length_replicate]
  · split
    · simp only [noughts, List.length_replicate]
    · exact (OkF.puts _ _ h.2 h.1).got n
theorem catAt_get {D : DS} (hok : D.Ok) (first : Int) (i : Nat) : ∀ K, i < 256 * K → (catAt D first K)[i]? = (D.bytes (first + 2 + (i / 256 : Nat)))[i % 256]?
  | 0, h => by omega
  | K + 1, h => by
    have hl : ∀ k, (catAt D first k).length = 256 * k := by
      intro k
      induction k with
      | zero => rfl
      | succ k ih => rw [catAt, List.length_append, ih, hok.bytes_length]; omega
    rw [catAt]
    by_cases hk : i < 256 * K
    · rw [List.getElem?_append_left (by rw [hl]; exact hk)]
      exact catAt_get hok first i K hk
    · rw [List.getElem?_append_right (by rw [hl]; omega), hl]
      rw [show i / 256 = K by omega, show i - 256 * K = i % 256 by omega]
theorem WalI.best {D : DS} {L : LogS} (h : WalI D L) : bestAt D L.first 2 = some (D.bytes (L.first + (L.number : Int) % 2)) := by
  have n1 := h.num1
  have hm := h.mark
  have ho := h.other
  show upd (upd none (D.bytes (L.first + ((0 : Nat) : Int))) 0) (D.bytes (L.first + ((1 : Nat) : Int))) 1 = _
  rcases Nat.mod_two_eq_zero_or_one L.number with hp | hp
  · have hl := hm.look n1 hp
    rw [show L.first + (L.number : Int) % 2 = L.first + ((0 : Nat) : Int) by omega] at hm hl ⊢
    rw [show L.first + ((L.number + 1 : Nat) : Int) % 2 = L.first + ((1 : Nat) : Int) by omega, show (L.number + 1) % 2 = 1 by omega] at ho
    have e1 : upd none (D.bytes (L.first + ((0 : Nat) : Int))) 0 = some (D.bytes (L.first + ((0 : Nat) : Int))) := by unfold upd; rw [hl]; rfl
    rw [e1]
    unfold upd
    cases hlk : lookB (D.bytes (L.first + ((1 : Nat) : Int))) 1 with
    | false => rfl
    | true =>
      have := ho hlk
      simp only [Bool.true_and]
      rw [if_neg]
      rw [decide_eq_true_eq, hm.1]
      omega
  · have hl := hm.look n1 hp
    rw [show L.first + (L.number : Int) % 2 = L.first + ((1 : Nat) : Int) by omega] at hm hl ⊢
    rw [show L.first + ((L.number + 1 : Nat) : Int) % 2 = L.first + ((0 : Nat) : Int) by omega, show (L.number + 1) % 2 = 0 by omega] at ho
    unfold upd
    rw [hl]
    cases hlk : lookB (D.bytes (L.first + ((0 : Nat) : Int))) 0 with
    | false => rfl
    | true =>
      have := ho hlk
      simp only [Bool.true_and, ↓reduceIte]
      rw [if_pos]
      rw [decide_eq_true_eq, hm.1]
      exact this
/-- What Open tells then. -/
theorem WalI.opens {D : DS} {L : LogS} (h : WalI D L) {rows : List (List UInt8)} (hp : parse L.bytes.length L.bytes = some rows) : openF D L.first L.size = some ({ L with more := [] }, rows) := by
  obtain ⟨a0, a8, a16, _⟩ := h.mark
  have hcat : (catAt D L.first ((L.fin + 255) / 256)).take L.fin = L.bytes := by
    apply List.ext_getElem?
    intro i
    rw [List.getElem?_take, h.fin]
    split
    · next hi =>
      rw [catAt_get h.ok L.first i _ (by omega), h.data i _ (List.getElem?_eq_getElem hi), List.getElem?_eq_getElem hi]
    · next hi => rw [List.getElem?_eq_none (by omega)]
  unfold openF
  rw [h.best]
  simp only
  unfold openWith
  have ha := h.area
  rw [a0, a8, a16, if_neg (by rw [h.fin]; omega), hcat, h.fin, hp]
  rfl

end Go.Proofs.Ytcgokafhkkmaoaa
