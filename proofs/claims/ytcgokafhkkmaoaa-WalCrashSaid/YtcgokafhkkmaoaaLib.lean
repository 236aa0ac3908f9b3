/- Words and lemmas on memory that the walks of this seat share: what has changed, slices that read as lists, blocks known whole. They say nothing of the program. -/
import Derived.Test.YtcgokafhkkmaoaaRows
import Derived.WalkKit
import Derived.WalkSpells
import Derived.WalkLawsBesides
import Derived.Maps.AppendAt
import Derived.Deep.AppendLies
import Derived.Deep.Draws
import Derived.Lib.Hide
namespace Go.Proofs.Ytcgokafhkkmaoaa
open Go.RowKit

/-- Only the blocks of M, and new ones, may have turned. -/
structure Chg (M : Nat → Prop) (w w' : World) : Prop where
  os : w'.os = w.os
  tape : w'.tape = w.tape
  output : w'.output = w.output
  size : w.heap.size ≤ w'.heap.size
  block : ∀ k, k < w.heap.size → ¬ M k → w'.heap[k]? = w.heap[k]?

/-- A block that is known whole, none of it frozen. -/
def Blk (w : World) (g : Nat) (t : TypeId) (cs : Array Value) : Prop := w.heap[g]? = some (.cells cs t (0, 0))

section
variable {w w' w'' : World} {M M' : Nat → Prop} {g : Nat} {t : TypeId} {cs : Array Value}

theorem Chg.refl (M : Nat → Prop) (w : World) : Chg M w w := ⟨rfl, rfl, rfl, Nat.le_refl _, fun _ _ _ => rfl⟩
theorem Chg.trans (h : Chg M w w') (k : Chg M' w' w'') (hs : ∀ b, M' b → M b ∨ w.heap.size ≤ b) : Chg M w w'' :=
  ⟨k.os.trans h.os, k.tape.trans h.tape, k.output.trans h.output, Nat.le_trans h.size k.size, fun i hi hn =>
    (k.block i (Nat.lt_of_lt_of_le hi h.size) (fun hm => (hs i hm).elim hn (by omega))).trans (h.block i hi hn)⟩
theorem Chg.mono (h : Chg M w w') (hs : ∀ b, M b → M' b) : Chg M' w w' := ⟨h.os, h.tape, h.output, h.size, fun i hi hn => h.block i hi (fun hm => hn (hs i hm))⟩
theorem Chg.of_below (h : Below w.heap.size w w') (M : Nat → Prop) : Chg M w w' := ⟨h.os, h.tape, h.output, h.size, fun i hi _ => h.block i hi⟩
theorem Chg.below (h : Chg M w w') {B : Nat} (hB : B ≤ w.heap.size) (hm : ∀ b, M b → B ≤ b) : Below B w w' :=
  ⟨h.os, h.tape, h.output, h.size, fun i hi => h.block i (by omega) (fun hn => by have := hm i hn; omega)⟩
theorem Chg.drew (h : Chg M w w') : Chg M w w'.drew := ⟨h.os, h.tape, h.output, h.size, h.block⟩
theorem Chg.drewN (h : Chg M w w') (n : Nat) : Chg M w (w'.drewN n) := ⟨h.os, h.tape, h.output, h.size, h.block⟩
theorem Chg.alloc (h : Chg M w w') (o : Obj) : Chg M w (w'.alloc o) :=
  ⟨h.os, h.tape, h.output, Nat.le_trans h.size (by simp), fun i hi hn => (Below.heap_alloc w' o i (Nat.lt_of_lt_of_le hi h.size)).trans (h.block i hi hn)⟩
theorem Chg.setCell (h : Chg M w w') {p : Addr} (hp : M p.block ∨ w.heap.size ≤ p.block) (u : Value) : Chg M w (w'.setCell p u) :=
  ⟨h.os, h.tape, h.output, by simpa [World.setCell] using h.size, fun i hi hn => (Below.heap_setCell w' p u i (by
    rintro rfl
    rcases hp with hp | hp
    · exact hn hp
    · omega)).trans (h.block i hi hn)⟩
theorem Chg.setIn (h : Chg (fun b => b = g) w w') (i : Nat) (u : Value) : Chg (fun b => b = g) w (w'.setCell ⟨g, i, none⟩ u) := h.setCell (p := ⟨g, i, none⟩) (.inl rfl) u
theorem Chg.setOf (h : Chg M w w') (hg : M g) (i : Nat) (u : Value) : Chg M w (w'.setCell ⟨g, i, none⟩ u) := h.setCell (p := ⟨g, i, none⟩) (.inl hg) u
theorem Chg.setNew (h : Chg M w w') (hg : w.heap.size ≤ g) (i : Nat) (u : Value) : Chg M w (w'.setCell ⟨g, i, none⟩ u) := h.setCell (p := ⟨g, i, none⟩) (.inr hg) u
theorem Chg.grown (h : Chg M w w') {row : Option Nat} (hg : w'.grownBy w'' row) (hr : ∀ k, row = some k → M k ∨ w.heap.size ≤ k) : Chg M w w'' :=
  ⟨hg.os.trans h.os, hg.tape.trans h.tape, hg.output.trans h.output, Nat.le_trans h.size hg.size, fun i hi hn =>
    (hg.block i (Nat.lt_of_lt_of_le hi h.size) (fun e => (hr i e.symm).elim hn (by omega))).trans (h.block i hi hn)⟩
theorem below_drewN {B : Nat} {a w : World} (h : Below B a w) (n : Nat) : Below B a (w.drewN n) := ⟨h.os, h.tape, h.output, h.size, h.block⟩

theorem Blk.lt (h : Blk w g t cs) : g < w.heap.size := by
  rcases Nat.lt_or_ge g w.heap.size with hlt | hge
  · exact hlt
  · unfold Blk at h; rw [Array.getElem?_eq_none hge] at h; cases h
theorem Blk.cell (h : Blk w g t cs) (i : Nat) : w.cell? ⟨g, i, none⟩ = cs[i]? := cell_of_row w g i cs t (0, 0) h
theorem Blk.frozen (h : Blk w g t cs) (i : Nat) : w.frozen? ⟨g, i, none⟩ = false := by
  unfold Blk at h
  simp [World.frozen?, h]
theorem Blk.rules (h : Blk w g t cs) : (∀ i, w.cell? ⟨g, i, none⟩ = cs[i]?) ∧ (∀ i, w.frozen? ⟨g, i, none⟩ = false) := ⟨h.cell, h.frozen⟩
theorem Blk.new (w : World) (t : TypeId) (cs : Array Value) : Blk (w.alloc (.cells cs t)) w.heap.size t cs := heap_alloc_new w _
theorem Blk.drew (h : Blk w g t cs) : Blk w.drew g t cs := h
theorem Blk.drewN (h : Blk w g t cs) (n : Nat) : Blk (w.drewN n) g t cs := h
theorem Blk.alloc (h : Blk w g t cs) (o : Obj) : Blk (w.alloc o) g t cs := (Below.heap_alloc w o g h.lt).trans h
theorem Blk.set_ (h : Blk w g t cs) (i : Nat) (u : Value) : Blk (w.setCell ⟨g, i, none⟩ u) g t (cs.setIfInBounds i u) := by
  unfold Blk at h ⊢
  simp [World.setCell, Array.getElem?_modify, h]
theorem Blk.far (h : Blk w g t cs) {p : Addr} (hp : g ≠ p.block) (u : Value) : Blk (w.setCell p u) g t cs := (Below.heap_setCell w p u g hp).trans h
theorem Blk.below {B : Nat} (h : Blk w g t cs) (hb : Below B w w') (hg : g < B) : Blk w' g t cs := (hb.block g hg).trans h
theorem Blk.chg (h : Blk w g t cs) (hb : Chg M w w') (hg : ¬ M g) : Blk w' g t cs := (hb.block g h.lt hg).trans h
theorem Blk.grown {row : Option Nat} (h : Blk w g t cs) (hb : w.grownBy w' row) (hg : some g ≠ row) : Blk w' g t cs := (hb.block g h.lt hg).trans h
theorem Blk.ne_ {g' : Nat} {t' : TypeId} {cs' : Array Value} (h : Blk w g t cs) (h' : Blk w g' t' cs') (hne : t ≠ t') : g ≠ g' := by
  rintro rfl
  unfold Blk at h h'
  rw [h] at h'
  injection h' with h'
  injection h' with _ ht
  exact hne ht
theorem own_blk_ne {base : Nat} {e : TypeId} {size n : Nat} {v : Value} {xs : List Value} (h : w.ownsRow base e size v n xs) (hg : Blk w g t cs) (hne : e ≠ t) : v.ownBlock ≠ some g := by
  rcases h.2 with ⟨rfl, _⟩ | ⟨g', cap, cur, rfl, _, hh, _⟩
  · simp [Value.ownBlock]
  · intro he
    have : g' = g := by simpa [Value.ownBlock] using he
    subst this
    exact Blk.ne_ (t := e) hh hg hne rfl
theorem own_keep {base : Nat} {e : TypeId} {size n : Nat} {v : Value} {xs : List Value} (h : w.ownsRow base e size v n xs) (hk : ∀ k, v.ownBlock = some k → w'.heap[k]? = w.heap[k]?) : w'.ownsRow base e size v n xs := by
  refine ⟨h.1, ?_⟩
  rcases h.2 with hn | ⟨g', cap, cur, rfl, hb, hh, r⟩
  · exact Or.inl hn
  · exact Or.inr ⟨g', cap, cur, rfl, hb, (hk g' rfl).trans hh, r⟩
theorem own_lt {base : Nat} {e : TypeId} {size n : Nat} {v : Value} {xs : List Value} (h : w.ownsRow base e size v n xs) {k : Nat} (hk : v.ownBlock = some k) : k < w.heap.size := (h.lt k hk).2
end

/-! ### The world under a letter, of which these facts are known -/
theorem at_world {P : Program} {c : Code} {Q : Exit → Act → World → Prop} {a : Act} {w : World} (F : World → Prop) (hF : F w) (h : ∀ W, F W → Code.wp P c Q a W) : Code.wp P c Q a w := h w hF
theorem at_world_list {P : Program} {ops : Array Oper} {l : List Oper} {Q : Exit → Act → World → Prop} {a : Act} {w : World} (F : World → Prop) (hF : F w) (h : ∀ W, F W → wpList P ops Q l a W) : wpList P ops Q l a w := h w hF
/-- Only blocks of S, and new ones, have turned; what belongs to the object now (S: what it may write; B: what it only reads) belonged to it, or is new. -/
def Upd (S B : Nat → Prop) (w w' : World) (S' B' : Nat → Prop) : Prop := Chg S w w' ∧ (∀ b, S' b → S b ∨ w.heap.size ≤ b) ∧ (∀ b, B' b → B b ∨ w.heap.size ≤ b)
theorem Upd.alloc {S B S' B' : Nat → Prop} {w w' : World} (h : Upd S B w w' S' B') (o : Obj) : Upd S B w (w'.alloc o) S' B' := ⟨h.1.alloc o, h.2⟩
theorem Upd.drewN {S B S' B' : Nat → Prop} {w w' : World} (h : Upd S B w w' S' B') (n : Nat) : Upd S B w (w'.drewN n) S' B' := ⟨h.1.drewN n, h.2⟩
theorem Upd.refl (S B : Nat → Prop) (w : World) : Upd S B w w S B := ⟨Chg.refl S w, fun _ h => .inl h, fun _ h => .inl h⟩
theorem Upd.of_below {S B : Nat → Prop} {w w' : World} (h : Below w.heap.size w w') : Upd S B w w' S B := ⟨Chg.of_below h S, fun _ h => .inl h, fun _ h => .inl h⟩
theorem Upd.trans {S B S' B' S'' B'' : Nat → Prop} {w w' w'' : World} (h : Upd S B w w' S' B') (k : Upd S' B' w' w'' S'' B'') : Upd S B w w'' S'' B'' :=
  ⟨h.1.trans k.1 h.2.1, fun b hb => (k.2.1 b hb).elim (h.2.1 b) (fun hh => .inr (Nat.le_trans h.1.size hh)), fun b hb => (k.2.2 b hb).elim (h.2.2 b) (fun hh => .inr (Nat.le_trans h.1.size hh))⟩

/-- What is new since w. -/
abbrev New (w : World) : Nat → Prop := fun b => w.heap.size ≤ b
theorem Upd.of_new {w w1 w2 : World} {S B : Nat → Prop} (h : Upd (New w1) (New w1) w1 w2 S B) (hb : Below w.heap.size w w1) : Upd (New w) (New w) w w2 S B := by
  have hs := hb.size
  refine (Upd.of_below hb).trans ⟨h.1.mono (fun b hb => Nat.le_trans hs hb), fun b hb => ?_, fun b hb => ?_⟩
  · exact (h.2.1 b hb).imp (fun h => Nat.le_trans hs h) id
  · exact (h.2.2 b hb).imp (fun h => Nat.le_trans hs h) id
theorem Upd.new_below {w w' : World} {S' B' B : Nat → Prop} (h : Upd (New w) B w w' S' B') : Below w.heap.size w w' := h.1.below (Nat.le_refl _) (fun _ h => h)

/-! ### A slice that reads as a list of cells -/
theorem block_of_add (a : Addr) (n : Nat) : (a.add n).block = a.block := by unfold Addr.add; split <;> rfl
theorem add_of_add (a : Addr) (i j : Nat) : (a.add i).add j = a.add (i + j) := by
  unfold Addr.add
  by_cases hi : i = 0 <;> by_cases hj : j = 0 <;> simp [hi, hj, Nat.add_assoc]
theorem add_plain (b o i : Nat) : (⟨b, o, none⟩ : Addr).add i = ⟨b, o + i, none⟩ := by unfold Addr.add; split <;> simp_all

/-- The slice value v has n elements of size cells each: the cells xs; what it reads lies in blocks of S. -/
def Cs (w : World) (S : Nat → Prop) (size : Nat) (v : Value) (n : Nat) (xs : List Value) : Prop :=
  xs.length = n * size ∧ ∃ A cap, v = .slice A n cap ∧ n ≤ cap ∧ cap ≤ maxLen ∧
    (0 < n → ∃ b off, A = some ⟨b, off, none⟩ ∧ S b ∧ b < w.heap.size ∧ ∀ j u, xs[j]? = some u → w.cell? ⟨b, off + j, none⟩ = some u)

section
variable {w w' : World} {S T : Nat → Prop} {size n : Nat} {v : Value} {xs : List Value}
theorem Cs.keep (h : Cs w S size v n xs) (hs : w.heap.size ≤ w'.heap.size) (hk : ∀ b, S b → b < w.heap.size → w'.heap[b]? = w.heap[b]?) : Cs w' S size v n xs := by
  obtain ⟨h1, A, cap, rfl, hn, hc, hp⟩ := h
  refine ⟨h1, A, cap, rfl, hn, hc, fun h0 => ?_⟩
  obtain ⟨b, off, rfl, hs', hlt, hcell⟩ := hp h0
  exact ⟨b, off, rfl, hs', by omega, fun j u hu => (World.cell?_of_block (a := ⟨b, off + j, none⟩) (hk b hs' hlt)).trans (hcell j u hu)⟩
theorem Cs.chg {M : Nat → Prop} (h : Cs w S size v n xs) (hc : Chg M w w') (hd : ∀ b, S b → ¬ M b) : Cs w' S size v n xs :=
  h.keep hc.size fun b hs hlt => hc.block b hlt (hd b hs)
theorem Cs.below (h : Cs w S size v n xs) (hb : Below w.heap.size w w') : Cs w' S size v n xs := h.keep hb.size fun b _ hlt => hb.block b hlt
theorem Cs.sub (h : Cs w S size v n xs) (hs : ∀ b, S b → b < w.heap.size → T b) : Cs w T size v n xs := by
  obtain ⟨h1, A, cap, rfl, hn, hc, hp⟩ := h
  refine ⟨h1, A, cap, rfl, hn, hc, fun h0 => ?_⟩
  obtain ⟨b, off, rfl, hs', hlt, hcell⟩ := hp h0
  exact ⟨b, off, rfl, hs b hs' hlt, hlt, hcell⟩
theorem Cs.nil_ (w : World) (S : Nat → Prop) (size : Nat) : Cs w S size (.slice none 0 0) 0 [] := ⟨by simp, none, 0, rfl, by omega, by simp [maxLen], fun h => absurd h (by omega)⟩
theorem Cs.drew (h : Cs w S size v n xs) : Cs w.drew S size v n xs := h
theorem Cs.drewN (h : Cs w S size v n xs) (k : Nat) : Cs (w.drewN k) S size v n xs := h
theorem Cs.of_own {base : Nat} {e : TypeId} (h : w.ownsRow base e size v n xs) (hS : ∀ k, v.ownBlock = some k → S k) : Cs w S size v n xs := by
  refine ⟨h.1, ?_⟩
  rcases h.2 with ⟨rfl, rfl⟩ | ⟨g, cap, cur, rfl, hb, hh, hn, hc, _, htake⟩
  · exact ⟨none, 0, rfl, by omega, by simp [maxLen], fun h => absurd h (by omega)⟩
  · refine ⟨some ⟨g, 0, none⟩, cap, rfl, hn, hc, fun _ => ⟨g, 0, rfl, hS g rfl, own_lt h rfl, fun j u hu => ?_⟩⟩
    rw [Nat.zero_add, cell_of_row w g j cur e (0, 0) hh]
    rw [← htake, List.getElem?_take] at hu
    split at hu
    · simpa using hu
    · cases hu
end

section
variable {w w' : World} {S T : Nat → Prop} {size n : Nat} {v : Value} {xs : List Value}
/-- A row that has just been laid. -/
theorem Cs.of_new' (w : World) (t : TypeId) {size : Nat} (n : Nat) {cs : List Value} (hl : cs.length = n * size) (hn : n ≤ maxLen) (fr : Nat × Nat) :
    Cs (w.alloc (.cells cs.toArray t fr)) (fun b => b = w.heap.size) size (.slice (some ⟨w.heap.size, 0, none⟩) n n) n cs := by
  refine ⟨hl, _, n, rfl, Nat.le_refl _, hn, fun _ => ⟨w.heap.size, 0, rfl, rfl, by simp, fun j u hu => ?_⟩⟩
  rw [Nat.zero_add, cell_of_row _ w.heap.size j cs.toArray t fr (heap_alloc_new w _)]
  simpa using hu
theorem Cs.of_new (w : World) (t : TypeId) {size : Nat} (n : Nat) {cs : List Value} (hl : cs.length = n * size) (hn : n ≤ maxLen) :
    Cs (w.alloc (.cells cs.toArray t)) (fun b => b = w.heap.size) size (.slice (some ⟨w.heap.size, 0, none⟩) n n) n cs := Cs.of_new' w t n hl hn (0, 0)
end
theorem Cs.form {w : World} {S : Nat → Prop} {size n : Nat} {v : Value} {xs : List Value} (h : Cs w S size v n xs) : ∃ A cap, v = .slice A n cap := by
  obtain ⟨_, A, cap, rfl, _⟩ := h
  exact ⟨A, cap, rfl⟩

/-- The cells of a list of bytes. -/
def u8s (bs : List UInt8) : List Value := bs.map fun b => .int .u8 b.toNat
theorem u8s_length (bs : List UInt8) : (u8s bs).length = bs.length := by simp [u8s]
theorem u8s_get (bs : List UInt8) (i : Nat) (h : i < bs.length) : (u8s bs)[i]? = some (.int .u8 bs[i].toNat) := by simp [u8s, h]
theorem u8s_one (bs : List UInt8) : ∀ u ∈ u8s bs, u.oneCell' = true := by
  intro u hu
  simp only [u8s, List.mem_map] at hu
  obtain ⟨b, _, rfl⟩ := hu
  rfl

/-- A slice of bytes; short enough for every append. -/
def Bs (w : World) (S : Nat → Prop) (v : Value) (bs : List UInt8) : Prop := Cs w S 1 v bs.length (u8s bs) ∧ bs.length ≤ 140737488355328

theorem Bs.form {w : World} {S : Nat → Prop} {v : Value} {bs : List UInt8} (h : Bs w S v bs) : ∃ A cap, v = .slice A bs.length cap := h.1.form
theorem Bs.below {w w' : World} {S : Nat → Prop} {v : Value} {bs : List UInt8} (h : Bs w S v bs) (hb : Below w.heap.size w w') : Bs w' S v bs := ⟨h.1.below hb, h.2⟩
theorem Bs.alloc {w : World} {S : Nat → Prop} {v : Value} {bs : List UInt8} (h : Bs w S v bs) (o : Obj) : Bs (w.alloc o) S v bs := h.below ((Below.refl _ w).alloc (Nat.le_refl _) o)
theorem Bs.drew {w : World} {S : Nat → Prop} {v : Value} {bs : List UInt8} (h : Bs w S v bs) : Bs w.drew S v bs := h
theorem Bs.drewN {w : World} {S : Nat → Prop} {v : Value} {bs : List UInt8} (h : Bs w S v bs) (k : Nat) : Bs (w.drewN k) S v bs := h
theorem Bs.keep {w w' : World} {S : Nat → Prop} {v : Value} {bs : List UInt8} (h : Bs w S v bs) (hs : w.heap.size ≤ w'.heap.size) (hk : ∀ b, S b → b < w.heap.size → w'.heap[b]? = w.heap[b]?) : Bs w' S v bs := ⟨h.1.keep hs hk, h.2⟩
theorem Bs.chg {w w' : World} {S M : Nat → Prop} {v : Value} {bs : List UInt8} (h : Bs w S v bs) (hc : Chg M w w') (hd : ∀ b, S b → ¬ M b) : Bs w' S v bs := ⟨h.1.chg hc hd, h.2⟩
theorem Bs.sub {w : World} {S T : Nat → Prop} {v : Value} {bs : List UInt8} (h : Bs w S v bs) (hs : ∀ b, S b → b < w.heap.size → T b) : Bs w T v bs := ⟨h.1.sub hs, h.2⟩

/-- A list of bytes as a string. -/
def str (bs : List UInt8) : ByteArray := ⟨bs.toArray⟩
theorem str_inj {a b : List UInt8} (h : str a = str b) : a = b := by
  unfold str at h
  injection h with h
  simpa using congrArg Array.toList h
theorem str_eq {a b : List UInt8} : str a = str b ↔ a = b := ⟨str_inj, fun h => by rw [h]⟩
theorem str_tl (bs : List UInt8) : (str bs).toList = bs := by rw [ByteArray.toList_eq]; simp [str]
theorem str_size (bs : List UInt8) : (str bs).size = bs.length := by simp [str, ByteArray.size]
theorem str_toList (bs : List UInt8) : (str bs).data.toList = bs := by simp [str]
theorem str_of (s : ByteArray) : str s.data.toList = s := by simp [str]

/-- string(b). -/
theorem run_str {P : Program} {w : World} {S : Nat → Prop} {v : Value} {bs : List UInt8} (h : Bs w S v bs) {src dst e : TypeId} (hs : P.underlying src = some (.slice e)) (he : P.underlying e = some (.int .u8)) (hd : P.underlying dst = some .string) :
    (convert src dst v).run P w = .ok (.string (str bs)) w := by
  obtain ⟨⟨hl, A, cap, rfl, _, _, hp⟩, _⟩ := h
  rcases Nat.eq_zero_or_pos bs.length with h0 | h0
  · obtain rfl : bs = [] := List.eq_nil_of_length_eq_zero h0
    rw [run_convert_bytes_string w src dst e A _ cap hs he hd]
    cases A with
    | none => simp [Conv.bytesToString]; rfl
    | some a =>
      rw [show ([] : List UInt8).length = 0 from rfl, run_bytesToString w a 0 cap [] (by simp [loadCells, loadCellsFrom])]
      rfl
  · obtain ⟨b, off, rfl, _, _, hc⟩ := hp h0
    have h := run_convert_bytes_arg (P := P) w src e hs he b off bs.length cap (bs.map fun x => (x.toNat : Int)) (by simp) (fun i hi => by
      rw [hc i _ (u8s_get bs i hi)]; simp [List.getD, hi]) dst hd
    rw [h]
    congr 2
    simp only [strOfNums, str, List.map_map]
    congr 2
    have : (fun n : Int => UInt8.ofNat n.toNat) ∘ (fun x : UInt8 => (x.toNat : Int)) = id := by funext x; simp
    rw [this, List.map_id]
theorem Bs.of_new (w : World) (t : TypeId) (bs : List UInt8) (hn : bs.length ≤ 140737488355328) (fr : Nat × Nat) : Bs (w.alloc (.cells (u8s bs).toArray t fr)) (fun b => b = w.heap.size) (.slice (some ⟨w.heap.size, 0, none⟩) bs.length bs.length) bs :=
  ⟨Cs.of_new' w t bs.length (by simp [u8s]) (by simp only [maxLen]; omega) fr, hn⟩
theorem Bs.nil_ (w : World) (S : Nat → Prop) : Bs w S (.slice none 0 0) [] := ⟨Cs.nil_ _ _ _, by simp⟩

/-! ### append onto a row of the call's own -/
/-- The slice value v is the call's own row: it starts at the head of its block, and may be appended to. -/
abbrev Own (w : World) (e : TypeId) (size : Nat) (v : Value) (n : Nat) (xs : List Value) : Prop := w.ownsRow 0 e size v n xs
theorem Own.form {w : World} {e : TypeId} {size n : Nat} {v : Value} {xs : List Value} (h : Own w e size v n xs) : ∃ A cap, v = .slice A n cap := by
  rcases h.2 with ⟨rfl, rfl⟩ | ⟨g, cap, _, rfl, _⟩
  · exact ⟨_, _, rfl⟩
  · exact ⟨_, _, rfl⟩
theorem Own.nil_ (w : World) (e : TypeId) (size : Nat) : Own w e size (.slice none 0 0) 0 [] := World.ownsRow_nil w 0 e size
theorem Own.empty (w : World) (e : TypeId) (size : Nat) : Own (w.alloc (.cells #[] e)) e size (.slice (some ⟨w.heap.size, 0, none⟩) 0 0) 0 [] :=
  World.ownsRow_made w #[] 0 (Nat.zero_le _) (by simp [maxLen]) (by simp)
theorem Own.drew {w : World} {e : TypeId} {size n : Nat} {v : Value} {xs : List Value} (h : Own w e size v n xs) : Own w.drew e size v n xs := h
theorem Own.drewN {w : World} {e : TypeId} {size n : Nat} {v : Value} {xs : List Value} (h : Own w e size v n xs) (k : Nat) : Own (w.drewN k) e size v n xs := h
theorem Chg.of_grown {w w' : World} {row : Option Nat} (h : w.grownBy w' row) : Chg (fun b => row = some b) w w' :=
  ⟨h.os, h.tape, h.output, h.size, fun k hk hn => h.block k hk (fun e => hn e.symm)⟩

section
variable {P : Program} (w : World)
theorem run_append_of_nil (t ty e : TypeId) (i : TypeInfo) (size : Nat) (ht : P.underlying t = some (.slice e)) (hi : P.info? e = some i)
    (v : Value) (n : Nat) (xs : List Value) (hown : Own w e size v n xs) (c : Nat) : (Builtin.append_ #[t, t] ty #[v, .slice none 0 c]).run P w = .ok v w := by
  rcases hown.2 with ⟨rfl, rfl⟩ | ⟨g, cap, cur, rfl, _, _, hnc, _⟩
  · simp [Builtin.append_, run_underlying ht, sizeOf, typeInfo, hi, Builtin.lenOf, Builtin.firstCells]
  · simp [Builtin.append_, run_underlying ht, sizeOf, typeInfo, hi, Builtin.lenOf, Builtin.firstCells, hnc, storeCells]

theorem run_app {t ty e : TypeId} {z : Value} {size bytes : Nat} (ht : P.underlying t = some (.slice e)) (hinfo : (P.info? e).map (fun i => (i.zero, i.size, i.bytes)) = some (some z, size, bytes))
    (hzs : z.cells.size = size) (hsz : 0 < size)
    {v : Value} {n : Nat} {xs : List Value} (hown : Own w e size v n xs) {S : Nat → Prop} {src : Value} {m : Nat} {news : List Value} (hr : Cs w S size src m news) (h1 : ∀ u ∈ news, u.oneCell' = true)
    (h63 : n + m ≤ maxLen) (hbytes : (n + m) * bytes ≤ 140737488355328) :
    ∃ v' w', (Builtin.append_ #[t, t] ty #[v, src]).run P w = .ok v' w' ∧ Own w' e size v' (n + m) (xs ++ news) ∧ Chg (fun b => v.ownBlock = some b) w w' ∧
      (v' = .slice none 0 0 ↔ v = .slice none 0 0 ∧ m = 0) ∧ (v'.ownBlock = v.ownBlock ∨ v'.ownBlock = some w.heap.size) := by
  obtain ⟨i0, hi, hz0, hz1, hz2⟩ := info_parts hinfo
  obtain ⟨hl, A, cap, rfl, hn, hc, hp⟩ := hr
  rcases A with _ | ad
  · have hm : m = 0 := by
      rcases Nat.eq_zero_or_pos m with h0 | h0
      · exact h0
      · obtain ⟨b, off, h, _⟩ := hp h0
        cases h
    subst hm
    obtain rfl : news = [] := List.eq_nil_of_length_eq_zero (by simpa using hl)
    exact ⟨v, w, run_append_of_nil w t ty e i0 size ht hi v n xs hown cap, by simpa using hown, Chg.refl _ w, by simp, .inl rfl⟩
  · have hcells : ∀ j u, news[j]? = some u → w.cell? (ad.add j) = some u := by
      intro j u hu
      rcases Nat.eq_zero_or_pos m with h0 | h0
      · subst h0
        obtain rfl : news = [] := List.eq_nil_of_length_eq_zero (by simpa using hl)
        simp at hu
      · obtain ⟨b, off, h, _, _, hcell⟩ := hp h0
        obtain rfl : ad = ⟨b, off, none⟩ := by injection h
        rw [add_plain]
        exact hcell j u hu
    obtain ⟨v', w', hrun, h2, h3, h4, h5⟩ := run_append_own_at (P := P) w 0 t ty e i0 z size bytes ht hi hz0 hz1 hz2 hzs hsz v n xs hown ad m cap news hl hcells h1 h63 hbytes (Nat.zero_le _)
    exact ⟨v', w', hrun, h2, Chg.of_grown h3, h4, h5⟩

theorem wp_app {o : Oper} {a : Act} {K : Act → World → Prop} {Q : Exit → Act → World → Prop} (s x : Operand) (t : TypeId)
    (ho : o.op = .call { callee := .builtin .append, args := #[s, x], argTypes := #[t, t] }) {e : TypeId} {z : Value} {size bytes : Nat} (ht : P.underlying t = some (.slice e))
    (hinfo : (P.info? e).map (fun i => (i.zero, i.size, i.bytes)) = some (some z, size, bytes)) (hzs : z.cells.size = size) (hsz : 0 < size)
    {v : Value} {n : Nat} {xs : List Value} (hown : Own w e size v n xs) (hs : a.eval s = v) {S : Nat → Prop} {src : Value} {m : Nat} {news : List Value} (hr : Cs w S size src m news) (hx : a.eval x = src)
    (h1 : ∀ u ∈ news, u.oneCell' = true) (h63 : n + m ≤ maxLen) (hbytes : (n + m) * bytes ≤ 140737488355328)
    (h : ∀ v' w', Own w' e size v' (n + m) (xs ++ news) → Chg (fun b => v.ownBlock = some b) w w' → (v' = .slice none 0 0 ↔ v = .slice none 0 0 ∧ m = 0) →
      (v'.ownBlock = v.ownBlock ∨ v'.ownBlock = some w.heap.size) → K (a.put o.dst v') w') : o.wp P a w K Q := by
  obtain ⟨v', w', hrun, h2, h3, h4, h5⟩ := run_app (P := P) w (ty := o.type) ht hinfo hzs hsz hown hr h1 h63 hbytes
  unfold Oper.wp execOp
  simp only [ho, resolve, invoke, builtin, Sem.run_bind, Sem.run_pure, Result.andThen_ok, List.map_toArray, List.map_cons, List.map_nil, hs, hx, hrun]
  exact h v' w' h2 h3 h4 h5

theorem wpList_app {ops : Array Oper} {rest : List Oper} {o : Oper} {a : Act} {Q : Exit → Act → World → Prop} (hgd : o.guard = none) (s x : Operand) (t : TypeId)
    (ho : o.op = .call { callee := .builtin .append, args := #[s, x], argTypes := #[t, t] }) {e : TypeId} {z : Value} {size bytes : Nat} (ht : P.underlying t = some (.slice e))
    (hinfo : (P.info? e).map (fun i => (i.zero, i.size, i.bytes)) = some (some z, size, bytes)) (hzs : z.cells.size = size) (hsz : 0 < size)
    {v : Value} {n : Nat} {xs : List Value} (hown : Own w e size v n xs) (hs : a.eval s = v) {S : Nat → Prop} {src : Value} {m : Nat} {news : List Value} (hr : Cs w S size src m news) (hx : a.eval x = src)
    (h1 : ∀ u ∈ news, u.oneCell' = true) (h63 : n + m ≤ maxLen) (hbytes : (n + m) * bytes ≤ 140737488355328)
    (h : ∀ v' w', Own w' e size v' (n + m) (xs ++ news) → Chg (fun b => v.ownBlock = some b) w w' → (v' = .slice none 0 0 ↔ v = .slice none 0 0 ∧ m = 0) →
      (v'.ownBlock = v.ownBlock ∨ v'.ownBlock = some w.heap.size) → wpList P ops Q rest (a.put o.dst v') w') : wpList P ops Q (o :: rest) a w :=
  wpList_plain hgd fun _ hK => wp_app w s x t ho ht hinfo hzs hsz hown hs hr hx h1 h63 hbytes fun v' w' h2 h3 h4 h5 => hK _ _ (h v' w' h2 h3 h4 h5)

theorem step_app {ops : Array Oper} {o : Oper} {a : Act} {K : Act → World → Prop} {Q : Exit → Act → World → Prop} {E : Prop} (hgd : o.guard = none) (s x : Operand) (t : TypeId)
    (ho : o.op = .call { callee := .builtin .append, args := #[s, x], argTypes := #[t, t] }) {e : TypeId} {z : Value} {size bytes : Nat} (ht : P.underlying t = some (.slice e))
    (hinfo : (P.info? e).map (fun i => (i.zero, i.size, i.bytes)) = some (some z, size, bytes)) (hzs : z.cells.size = size) (hsz : 0 < size)
    {v : Value} {n : Nat} {xs : List Value} (hown : Own w e size v n xs) (hs : a.eval s = v) {S : Nat → Prop} {src : Value} {m : Nat} {news : List Value} (hr : Cs w S size src m news) (hx : a.eval x = src)
    (h1 : ∀ u ∈ news, u.oneCell' = true) (h63 : n + m ≤ maxLen) (hbytes : (n + m) * bytes ≤ 140737488355328)
    (h : ∀ v' w', Own w' e size v' (n + m) (xs ++ news) → Chg (fun b => v.ownBlock = some b) w w' → (v' = .slice none 0 0 ↔ v = .slice none 0 0 ∧ m = 0) →
      (v'.ownBlock = v.ownBlock ∨ v'.ownBlock = some w.heap.size) → K (a.put o.dst v') w') :
    if Region.wanted o (yielded ops a.tmps) = true then Oper.wp P o a w K Q else E := by
  have hw : Region.wanted o (yielded ops a.tmps) = true := by simp [Region.wanted, hgd]
  rw [if_pos hw]
  exact wp_app w s x t ho ht hinfo hzs hsz hown hs hr hx h1 h63 hbytes h
end

end Go.Proofs.Ytcgokafhkkmaoaa
