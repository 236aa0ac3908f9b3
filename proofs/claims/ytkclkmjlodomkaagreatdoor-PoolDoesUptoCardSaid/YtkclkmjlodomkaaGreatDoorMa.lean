/- Texts joined: Lib CdP CdR BeA BeB CdA0 Lib2 Hoist HoistL CdB0 CdD CdE CdF PlA PlB WholeC BuildS PmA PmB Hoist2 Hoist3 Hoist7 PmC Part CsP0 PmD. -/
import Derived.Test.YtkclkmjlodomkaaGreatDoorRows
import Derived.WalkKit
import Derived.WalkSpells
import Derived.WalkLawsBesides
import Derived.Maps.AppendAt
import Derived.Deep.AppendLies
import Derived.Deep.Draws
import Derived.Lib.Hide
import Derived.Lib.EndianMore
import Derived.Laws.BitsAllLaws
import Derived.Lib.VarintMem
import Derived.Deep.RegionLaw
import Derived.Deep.RegionHeld3
import Derived.OrdersHeld
import Derived.Deep.MidRow
import Derived.Great.BuildSlice
import Derived.Laws.Tables
import Derived.DeepKeys
namespace Go.Proofs.YtkclkmjlodomkaaGreatDoor
open List (setIfInBounds_toArray getElem_toArray getElem_cons_succ getElem_cons_zero set_cons_succ set_cons_zero filterMap_cons filterMap_nil getElem?_toArray getElem?_cons_succ getElem?_cons_zero)
theorem ltle {n m k : Nat} (h1 : n < m) (h2 : m ≤ k) : n < k := Nat.lt_of_lt_of_le h1 h2
section
open Go.RowKit
structure Chg (M : Nat → Prop) (w w' : World) : Prop where
  os : w'.os = w.os
  tape : w'.tape = w.tape
  output : w'.output = w.output
  size : w.heap.size ≤ w'.heap.size
  block : ∀ k, k < w.heap.size → ¬ M k → w'.heap[k]? = w.heap[k]?
def Blk (w : World) (g : Nat) (t : TypeId) (cs : Array Value) : Prop := w.heap[g]? = some (.cells cs t (0, 0))
section
variable {w w' w'' : World} {M M' : Nat → Prop} {g : Nat} {t : TypeId} {cs : Array Value}
theorem Chg.refl (M : Nat → Prop) (w : World) : Chg M w w := ⟨rfl, rfl, rfl, Nat.le_refl _, fun _ _ _ => rfl⟩
theorem Chg.trans (h : Chg M w w') (k : Chg M' w' w'') (hs : ∀ b, M' b → M b ∨ w.heap.size ≤ b) : Chg M w w'' :=
  ⟨k.os.trans h.os, k.tape.trans h.tape, k.output.trans h.output, Nat.le_trans h.size k.size, fun i hi hn =>
    (k.block i (ltle hi h.size) (fun hm => (hs i hm).elim hn (by omega))).trans (h.block i hi hn)⟩
theorem Chg.mono (h : Chg M w w') (hs : ∀ b, M b → M' b) : Chg M' w w' := ⟨h.os, h.tape, h.output, h.size, fun i hi hn => h.block i hi (fun hm => hn (hs i hm))⟩
theorem Chg.of_below (h : Below w.heap.size w w') (M : Nat → Prop) : Chg M w w' := ⟨h.os, h.tape, h.output, h.size, fun i hi _ => h.block i hi⟩
theorem Chg.below (h : Chg M w w') {B : Nat} (hB : B ≤ w.heap.size) (hm : ∀ b, M b → B ≤ b) : Below B w w' :=
  ⟨h.os, h.tape, h.output, h.size, fun i hi => h.block i (by omega) (fun hn => by have := hm i hn; omega)⟩
theorem Chg.drew (h : Chg M w w') : Chg M w w'.drew := ⟨h.os, h.tape, h.output, h.size, h.block⟩
theorem Chg.drewN (h : Chg M w w') (n : Nat) : Chg M w (w'.drewN n) := ⟨h.os, h.tape, h.output, h.size, h.block⟩
theorem Chg.alloc (h : Chg M w w') (o : Obj) : Chg M w (w'.alloc o) :=
  ⟨h.os, h.tape, h.output, Nat.le_trans h.size (by simp), fun i hi hn => (Below.heap_alloc w' o i (ltle hi h.size)).trans (h.block i hi hn)⟩
theorem Chg.setCell (h : Chg M w w') {p : Addr} (hp : M p.block ∨ w.heap.size ≤ p.block) (u : Value) : Chg M w (w'.setCell p u) :=
  ⟨h.os, h.tape, h.output, by simpa [World.setCell] using h.size, fun i hi hn => (Below.heap_setCell w' p u i (by
    rintro rfl
    rcases hp with hp | hp
    · exact hn hp
    · omega)).trans (h.block i hi hn)⟩
theorem Chg.setIn (h : Chg (fun b => b = g) w w') (i : Nat) (u : Value) : Chg (fun b => b = g) w (w'.setCell ⟨g, i, none⟩ u) := h.setCell (p := ⟨g, i, none⟩) (.inl rfl) u
theorem Chg.setOf (h : Chg M w w') (hg : M g) (i : Nat) (u : Value) : Chg M w (w'.setCell ⟨g, i, none⟩ u) := h.setCell (p := ⟨g, i, none⟩) (.inl hg) u
theorem Chg.setNew (h : Chg M w w') (hg : w.heap.size ≤ g) (i : Nat) (u : Value) : Chg M w (w'.setCell ⟨g, i, none⟩ u) := h.setCell (p := ⟨g, i, none⟩) (.inr hg) u
theorem Chg.grown (h : Chg M w w') {row : Option Nat} (hg : w'.grownBy w'' row) (hr : ∀ k, row = some k → M k ∨ w.heap.size ≤ k) : Chg M w w'' :=
  ⟨hg.os.trans h.os, hg.tape.trans h.tape, hg.output.trans h.output, Nat.le_trans h.size hg.size, fun i hi hn =>
    (hg.block i (ltle hi h.size) (fun e => (hr i e.symm).elim hn (by omega))).trans (h.block i hi hn)⟩
theorem below_drewN {B : Nat} {a w : World} (h : Below B a w) (n : Nat) : Below B a (w.drewN n) := ⟨h.os, h.tape, h.output, h.size, h.block⟩
theorem Blk.lt (h : Blk w g t cs) : g < w.heap.size := by
  rcases Nat.lt_or_ge g w.heap.size with hlt | hge
  · exact hlt
  · unfold Blk at h; rw [Array.getElem?_eq_none hge] at h; cases h
theorem Blk.cell (h : Blk w g t cs) (i : Nat) : w.cell? ⟨g, i, none⟩ = cs[i]? := cell_of_row w g i cs t (0, 0) h
theorem Blk.frozen (h : Blk w g t cs) (i : Nat) : w.frozen? ⟨g, i, none⟩ = false := by
  unfold Blk at h
  simp [World.frozen?, h]
theorem Blk.rules (h : Blk w g t cs) : (∀ i, w.cell? ⟨g, i, none⟩ = cs[i]?) ∧ (∀ i, w.frozen? ⟨g, i, none⟩ = false) := ⟨h.cell, h.frozen⟩
theorem Blk.new (w : World) (t : TypeId) (cs : Array Value) : Blk (w.alloc (.cells cs t)) w.heap.size t cs := heap_alloc_new w _
theorem Blk.drew (h : Blk w g t cs) : Blk w.drew g t cs := h
theorem Blk.drewN (h : Blk w g t cs) (n : Nat) : Blk (w.drewN n) g t cs := h
theorem Blk.alloc (h : Blk w g t cs) (o : Obj) : Blk (w.alloc o) g t cs := (Below.heap_alloc w o g h.lt).trans h
theorem Blk.set_ (h : Blk w g t cs) (i : Nat) (u : Value) : Blk (w.setCell ⟨g, i, none⟩ u) g t (cs.setIfInBounds i u) := by
  unfold Blk at h ⊢
  simp [World.setCell, Array.getElem?_modify, h]
theorem Blk.far (h : Blk w g t cs) {p : Addr} (hp : g ≠ p.block) (u : Value) : Blk (w.setCell p u) g t cs := (Below.heap_setCell w p u g hp).trans h
theorem Blk.below {B : Nat} (h : Blk w g t cs) (hb : Below B w w') (hg : g < B) : Blk w' g t cs := (hb.block g hg).trans h
theorem Blk.chg (h : Blk w g t cs) (hb : Chg M w w') (hg : ¬ M g) : Blk w' g t cs := (hb.block g h.lt hg).trans h
theorem Blk.grown {row : Option Nat} (h : Blk w g t cs) (hb : w.grownBy w' row) (hg : some g ≠ row) : Blk w' g t cs := (hb.block g h.lt hg).trans h
theorem Blk.ne_ {g' : Nat} {t' : TypeId} {cs' : Array Value} (h : Blk w g t cs) (h' : Blk w g' t' cs') (hne : t ≠ t') : g ≠ g' := by
  rintro rfl
  unfold Blk at h h'
  rw [h] at h'
  injection h' with h'
  injection h' with _ ht
  exact hne ht
theorem own_blk_ne {base : Nat} {e : TypeId} {size n : Nat} {v : Value} {xs : List Value} (h : w.ownsRow base e size v n xs) (hg : Blk w g t cs) (hne : e ≠ t) : v.ownBlock ≠ some g := by
  rcases h.2 with ⟨rfl, _⟩ | ⟨g', cap, cur, rfl, _, hh, _⟩
  · simp [Value.ownBlock]
  · intro he
    have : g' = g := by simpa [Value.ownBlock] using he
    subst this
    exact Blk.ne_ (t := e) hh hg hne rfl
theorem own_keep {base : Nat} {e : TypeId} {size n : Nat} {v : Value} {xs : List Value} (h : w.ownsRow base e size v n xs) (hk : ∀ k, v.ownBlock = some k → w'.heap[k]? = w.heap[k]?) : w'.ownsRow base e size v n xs := by
  refine ⟨h.1, ?_⟩
  rcases h.2 with hn | ⟨g', cap, cur, rfl, hb, hh, r⟩
  · exact Or.inl hn
  · exact Or.inr ⟨g', cap, cur, rfl, hb, (hk g' rfl).trans hh, r⟩
theorem own_lt {base : Nat} {e : TypeId} {size n : Nat} {v : Value} {xs : List Value} (h : w.ownsRow base e size v n xs) {k : Nat} (hk : v.ownBlock = some k) : k < w.heap.size := (h.lt k hk).2
end
theorem at_world {P : Program} {c : Code} {Q : Exit → Act → World → Prop} {a : Act} {w : World} (F : World → Prop) (hF : F w) (h : ∀ W, F W → Code.wp P c Q a W) : Code.wp P c Q a w := h w hF
theorem at_world_list {P : Program} {ops : Array Oper} {l : List Oper} {Q : Exit → Act → World → Prop} {a : Act} {w : World} (F : World → Prop) (hF : F w) (h : ∀ W, F W → wpList P ops Q l a W) : wpList P ops Q l a w := h w hF
def Upd (S B : Nat → Prop) (w w' : World) (S' B' : Nat → Prop) : Prop := Chg S w w' ∧ (∀ b, S' b → S b ∨ w.heap.size ≤ b) ∧ (∀ b, B' b → B b ∨ w.heap.size ≤ b)
theorem Upd.alloc {S B S' B' : Nat → Prop} {w w' : World} (h : Upd S B w w' S' B') (o : Obj) : Upd S B w (w'.alloc o) S' B' := ⟨h.1.alloc o, h.2⟩
theorem Upd.drewN {S B S' B' : Nat → Prop} {w w' : World} (h : Upd S B w w' S' B') (n : Nat) : Upd S B w (w'.drewN n) S' B' := ⟨h.1.drewN n, h.2⟩
theorem Upd.refl (S B : Nat → Prop) (w : World) : Upd S B w w S B := ⟨Chg.refl S w, fun _ h => .inl h, fun _ h => .inl h⟩
theorem Upd.of_below {S B : Nat → Prop} {w w' : World} (h : Below w.heap.size w w') : Upd S B w w' S B := ⟨Chg.of_below h S, fun _ h => .inl h, fun _ h => .inl h⟩
theorem Upd.trans {S B S' B' S'' B'' : Nat → Prop} {w w' w'' : World} (h : Upd S B w w' S' B') (k : Upd S' B' w' w'' S'' B'') : Upd S B w w'' S'' B'' :=
  ⟨h.1.trans k.1 h.2.1, fun b hb => (k.2.1 b hb).elim (h.2.1 b) (fun hh => .inr (Nat.le_trans h.1.size hh)), fun b hb => (k.2.2 b hb).elim (h.2.2 b) (fun hh => .inr (Nat.le_trans h.1.size hh))⟩
abbrev New (w : World) : Nat → Prop := fun b => w.heap.size ≤ b
theorem Upd.of_new {w w1 w2 : World} {S B : Nat → Prop} (h : Upd (New w1) (New w1) w1 w2 S B) (hb : Below w.heap.size w w1) : Upd (New w) (New w) w w2 S B := by
  have hs := hb.size
  refine (Upd.of_below hb).trans ⟨h.1.mono (fun b hb => Nat.le_trans hs hb), fun b hb => ?_, fun b hb => ?_⟩
  · exact (h.2.1 b hb).imp (fun h => Nat.le_trans hs h) id
  · exact (h.2.2 b hb).imp (fun h => Nat.le_trans hs h) id
theorem Upd.new_below {w w' : World} {S' B' B : Nat → Prop} (h : Upd (New w) B w w' S' B') : Below w.heap.size w w' := h.1.below (Nat.le_refl _) (fun _ h => h)
theorem block_of_add (a : Addr) (n : Nat) : (a.add n).block = a.block := by unfold Addr.add; split <;> rfl
theorem add_of_add (a : Addr) (i j : Nat) : (a.add i).add j = a.add (i + j) := by
  unfold Addr.add
  by_cases hi : i = 0 <;> by_cases hj : j = 0 <;> simp [hi, hj, Nat.add_assoc]
theorem add_plain (b o i : Nat) : (⟨b, o, none⟩ : Addr).add i = ⟨b, o + i, none⟩ := by unfold Addr.add; split <;> simp_all
def Cs (w : World) (S : Nat → Prop) (size : Nat) (v : Value) (n : Nat) (xs : List Value) : Prop :=
  xs.length = n * size ∧ ∃ A cap, v = .slice A n cap ∧ n ≤ cap ∧ cap ≤ maxLen ∧
    (0 < n → ∃ b off, A = some ⟨b, off, none⟩ ∧ S b ∧ b < w.heap.size ∧ ∀ j u, xs[j]? = some u → w.cell? ⟨b, off + j, none⟩ = some u)
section
variable {w w' : World} {S T : Nat → Prop} {size n : Nat} {v : Value} {xs : List Value}
theorem Cs.keep (h : Cs w S size v n xs) (hs : w.heap.size ≤ w'.heap.size) (hk : ∀ b, S b → b < w.heap.size → w'.heap[b]? = w.heap[b]?) : Cs w' S size v n xs := by
  obtain ⟨h1, A, cap, rfl, hn, hc, hp⟩ := h
  refine ⟨h1, A, cap, rfl, hn, hc, fun h0 => ?_⟩
  obtain ⟨b, off, rfl, hs', hlt, hcell⟩ := hp h0
  exact ⟨b, off, rfl, hs', by omega, fun j u hu => (World.cell?_of_block (a := ⟨b, off + j, none⟩) (hk b hs' hlt)).trans (hcell j u hu)⟩
theorem Cs.chg {M : Nat → Prop} (h : Cs w S size v n xs) (hc : Chg M w w') (hd : ∀ b, S b → ¬ M b) : Cs w' S size v n xs :=
  h.keep hc.size fun b hs hlt => hc.block b hlt (hd b hs)
theorem Cs.below (h : Cs w S size v n xs) (hb : Below w.heap.size w w') : Cs w' S size v n xs := h.keep hb.size fun b _ hlt => hb.block b hlt
theorem Cs.sub (h : Cs w S size v n xs) (hs : ∀ b, S b → b < w.heap.size → T b) : Cs w T size v n xs := by
  obtain ⟨h1, A, cap, rfl, hn, hc, hp⟩ := h
  refine ⟨h1, A, cap, rfl, hn, hc, fun h0 => ?_⟩
  obtain ⟨b, off, rfl, hs', hlt, hcell⟩ := hp h0
  exact ⟨b, off, rfl, hs b hs' hlt, hlt, hcell⟩
theorem Cs.nil_ (w : World) (S : Nat → Prop) (size : Nat) : Cs w S size (.slice none 0 0) 0 [] := ⟨by simp, none, 0, rfl, by omega, by simp [maxLen], fun h => absurd h (by omega)⟩
theorem Cs.drew (h : Cs w S size v n xs) : Cs w.drew S size v n xs := h
theorem Cs.drewN (h : Cs w S size v n xs) (k : Nat) : Cs (w.drewN k) S size v n xs := h
theorem Cs.of_own {base : Nat} {e : TypeId} (h : w.ownsRow base e size v n xs) (hS : ∀ k, v.ownBlock = some k → S k) : Cs w S size v n xs := by
  refine ⟨h.1, ?_⟩
  rcases h.2 with ⟨rfl, rfl⟩ | ⟨g, cap, cur, rfl, hb, hh, hn, hc, _, htake⟩
  · exact ⟨none, 0, rfl, by omega, by simp [maxLen], fun h => absurd h (by omega)⟩
  · refine ⟨some ⟨g, 0, none⟩, cap, rfl, hn, hc, fun _ => ⟨g, 0, rfl, hS g rfl, own_lt h rfl, fun j u hu => ?_⟩⟩
    rw [Nat.zero_add, cell_of_row w g j cur e (0, 0) hh]
    rw [← htake, List.getElem?_take] at hu
    split at hu
    · simpa using hu
    · cases hu
end
section
variable {w w' : World} {S T : Nat → Prop} {size n : Nat} {v : Value} {xs : List Value}
theorem Cs.of_new' (w : World) (t : TypeId) {size : Nat} (n : Nat) {cs : List Value} (hl : cs.length = n * size) (hn : n ≤ maxLen) (fr : Nat × Nat) :
    Cs (w.alloc (.cells cs.toArray t fr)) (fun b => b = w.heap.size) size (.slice (some ⟨w.heap.size, 0, none⟩) n n) n cs := by
  refine ⟨hl, _, n, rfl, Nat.le_refl _, hn, fun _ => ⟨w.heap.size, 0, rfl, rfl, by simp, fun j u hu => ?_⟩⟩
  rw [Nat.zero_add, cell_of_row _ w.heap.size j cs.toArray t fr (heap_alloc_new w _)]
  simpa using hu
theorem Cs.of_new (w : World) (t : TypeId) {size : Nat} (n : Nat) {cs : List Value} (hl : cs.length = n * size) (hn : n ≤ maxLen) :
    Cs (w.alloc (.cells cs.toArray t)) (fun b => b = w.heap.size) size (.slice (some ⟨w.heap.size, 0, none⟩) n n) n cs := Cs.of_new' w t n hl hn (0, 0)
end
theorem Cs.form {w : World} {S : Nat → Prop} {size n : Nat} {v : Value} {xs : List Value} (h : Cs w S size v n xs) : ∃ A cap, v = .slice A n cap := by
  obtain ⟨_, A, cap, rfl, _⟩ := h
  exact ⟨A, cap, rfl⟩
def u8s (bs : List UInt8) : List Value := bs.map fun b => .int .u8 b.toNat
theorem u8s_length (bs : List UInt8) : (u8s bs).length = bs.length := by simp [u8s]
theorem u8s_get (bs : List UInt8) (i : Nat) (h : i < bs.length) : (u8s bs)[i]? = some (.int .u8 bs[i].toNat) := by simp [u8s, h]
theorem u8s_one (bs : List UInt8) : ∀ u ∈ u8s bs, u.oneCell' = true := by
  intro u hu
  simp only [u8s, List.mem_map] at hu
  obtain ⟨b, _, rfl⟩ := hu
  rfl
def Bs (w : World) (S : Nat → Prop) (v : Value) (bs : List UInt8) : Prop := Cs w S 1 v bs.length (u8s bs) ∧ bs.length ≤ 140737488355328
theorem Bs.form {w : World} {S : Nat → Prop} {v : Value} {bs : List UInt8} (h : Bs w S v bs) : ∃ A cap, v = .slice A bs.length cap := h.1.form
theorem Bs.below {w w' : World} {S : Nat → Prop} {v : Value} {bs : List UInt8} (h : Bs w S v bs) (hb : Below w.heap.size w w') : Bs w' S v bs := ⟨h.1.below hb, h.2⟩
theorem Bs.alloc {w : World} {S : Nat → Prop} {v : Value} {bs : List UInt8} (h : Bs w S v bs) (o : Obj) : Bs (w.alloc o) S v bs := h.below ((Below.refl _ w).alloc (Nat.le_refl _) o)
theorem Bs.drew {w : World} {S : Nat → Prop} {v : Value} {bs : List UInt8} (h : Bs w S v bs) : Bs w.drew S v bs := h
theorem Bs.drewN {w : World} {S : Nat → Prop} {v : Value} {bs : List UInt8} (h : Bs w S v bs) (k : Nat) : Bs (w.drewN k) S v bs := h
theorem Bs.keep {w w' : World} {S : Nat → Prop} {v : Value} {bs : List UInt8} (h : Bs w S v bs) (hs : w.heap.size ≤ w'.heap.size) (hk : ∀ b, S b → b < w.heap.size → w'.heap[b]? = w.heap[b]?) : Bs w' S v bs := ⟨h.1.keep hs hk, h.2⟩
theorem Bs.chg {w w' : World} {S M : Nat → Prop} {v : Value} {bs : List UInt8} (h : Bs w S v bs) (hc : Chg M w w') (hd : ∀ b, S b → ¬ M b) : Bs w' S v bs := ⟨h.1.chg hc hd, h.2⟩
theorem Bs.sub {w : World} {S T : Nat → Prop} {v : Value} {bs : List UInt8} (h : Bs w S v bs) (hs : ∀ b, S b → b < w.heap.size → T b) : Bs w T v bs := ⟨h.1.sub hs, h.2⟩
def str (bs : List UInt8) : ByteArray := ⟨bs.toArray⟩
theorem str_inj {a b : List UInt8} (h : str a = str b) : a = b := by
  unfold str at h
  injection h with h
  simpa using congrArg Array.toList h
theorem str_eq {a b : List UInt8} : str a = str b ↔ a = b := ⟨str_inj, fun h => by rw [h]⟩
theorem str_tl (bs : List UInt8) : (str bs).toList = bs := by rw [ByteArray.toList_eq]; simp [str]
theorem str_size (bs : List UInt8) : (str bs).size = bs.length := by simp [str, ByteArray.size]
theorem str_toList (bs : List UInt8) : (str bs).data.toList = bs := by simp [str]
theorem str_of (s : ByteArray) : str s.data.toList = s := by simp [str]
theorem run_str {P : Program} {w : World} {S : Nat → Prop} {v : Value} {bs : List UInt8} (h : Bs w S v bs) {src dst e : TypeId} (hs : P.underlying src = some (.slice e)) (he : P.underlying e = some (.int .u8)) (hd : P.underlying dst = some .string) :
    (convert src dst v).run P w = .ok (.string (str bs)) w := by
  obtain ⟨⟨hl, A, cap, rfl, _, _, hp⟩, _⟩ := h
  rcases Nat.eq_zero_or_pos bs.length with h0 | h0
  · obtain rfl : bs = [] := List.eq_nil_of_length_eq_zero h0
    rw [run_convert_bytes_string w src dst e A _ cap hs he hd]
    cases A with
    | none => simp [Conv.bytesToString]; rfl
    | some a =>
      rw [show ([] : List UInt8).length = 0 from rfl, run_bytesToString w a 0 cap [] (by simp [loadCells, loadCellsFrom])]
      rfl
  · obtain ⟨b, off, rfl, _, _, hc⟩ := hp h0
    have h := run_convert_bytes_arg (P := P) w src e hs he b off bs.length cap (bs.map fun x => (x.toNat : Int)) (by simp) (fun i hi => by
      rw [hc i _ (u8s_get bs i hi)]; simp [List.getD, hi]) dst hd
    rw [h]
    congr 2
    simp only [strOfNums, str, List.map_map]
    congr 2
    have : (fun n : Int => UInt8.ofNat n.toNat) ∘ (fun x : UInt8 => (x.toNat : Int)) = id := by funext x; simp
    rw [this, List.map_id]
theorem Bs.of_new (w : World) (t : TypeId) (bs : List UInt8) (hn : bs.length ≤ 140737488355328) (fr : Nat × Nat) : Bs (w.alloc (.cells (u8s bs).toArray t fr)) (fun b => b = w.heap.size) (.slice (some ⟨w.heap.size, 0, none⟩) bs.length bs.length) bs :=
  ⟨Cs.of_new' w t bs.length (by simp [u8s]) (by simp only [maxLen]; omega) fr, hn⟩
theorem Bs.nil_ (w : World) (S : Nat → Prop) : Bs w S (.slice none 0 0) [] := ⟨Cs.nil_ _ _ _, by simp⟩
abbrev Own (w : World) (e : TypeId) (size : Nat) (v : Value) (n : Nat) (xs : List Value) : Prop := w.ownsRow 0 e size v n xs
theorem Own.form {w : World} {e : TypeId} {size n : Nat} {v : Value} {xs : List Value} (h : Own w e size v n xs) : ∃ A cap, v = .slice A n cap := by
  rcases h.2 with ⟨rfl, rfl⟩ | ⟨g, cap, _, rfl, _⟩
  · exact ⟨_, _, rfl⟩
  · exact ⟨_, _, rfl⟩
theorem Own.nil_ (w : World) (e : TypeId) (size : Nat) : Own w e size (.slice none 0 0) 0 [] := World.ownsRow_nil w 0 e size
theorem Own.empty (w : World) (e : TypeId) (size : Nat) : Own (w.alloc (.cells #[] e)) e size (.slice (some ⟨w.heap.size, 0, none⟩) 0 0) 0 [] :=
  World.ownsRow_made w #[] 0 (Nat.zero_le _) (by simp [maxLen]) (by simp)
theorem Own.drew {w : World} {e : TypeId} {size n : Nat} {v : Value} {xs : List Value} (h : Own w e size v n xs) : Own w.drew e size v n xs := h
theorem Own.drewN {w : World} {e : TypeId} {size n : Nat} {v : Value} {xs : List Value} (h : Own w e size v n xs) (k : Nat) : Own (w.drewN k) e size v n xs := h
theorem Chg.of_grown {w w' : World} {row : Option Nat} (h : w.grownBy w' row) : Chg (fun b => row = some b) w w' :=
  ⟨h.os, h.tape, h.output, h.size, fun k hk hn => h.block k hk (fun e => hn e.symm)⟩
section
variable {P : Program} (w : World)
theorem run_append_of_nil (t ty e : TypeId) (i : TypeInfo) (size : Nat) (ht : P.underlying t = some (.slice e)) (hi : P.info? e = some i)
    (v : Value) (n : Nat) (xs : List Value) (hown : Own w e size v n xs) (c : Nat) : (Builtin.append_ #[t, t] ty #[v, .slice none 0 c]).run P w = .ok v w := by
  rcases hown.2 with ⟨rfl, rfl⟩ | ⟨g, cap, cur, rfl, _, _, hnc, _⟩
  · simp [Builtin.append_, run_underlying ht, sizeOf, typeInfo, hi, Builtin.lenOf, Builtin.firstCells]
  · simp [Builtin.append_, run_underlying ht, sizeOf, typeInfo, hi, Builtin.lenOf, Builtin.firstCells, hnc, storeCells]
theorem run_app {t ty e : TypeId} {z : Value} {size bytes : Nat} (ht : P.underlying t = some (.slice e)) (hinfo : (P.info? e).map (fun i => (i.zero, i.size, i.bytes)) = some (some z, size, bytes))
    (hzs : z.cells.size = size) (hsz : 0 < size)
    {v : Value} {n : Nat} {xs : List Value} (hown : Own w e size v n xs) {S : Nat → Prop} {src : Value} {m : Nat} {news : List Value} (hr : Cs w S size src m news) (h1 : ∀ u ∈ news, u.oneCell' = true)
    (h63 : n + m ≤ maxLen) (hbytes : (n + m) * bytes ≤ 140737488355328) :
    ∃ v' w', (Builtin.append_ #[t, t] ty #[v, src]).run P w = .ok v' w' ∧ Own w' e size v' (n + m) (xs ++ news) ∧ Chg (fun b => v.ownBlock = some b) w w' ∧
      (v' = .slice none 0 0 ↔ v = .slice none 0 0 ∧ m = 0) ∧ (v'.ownBlock = v.ownBlock ∨ v'.ownBlock = some w.heap.size) := by
  obtain ⟨i0, hi, hz0, hz1, hz2⟩ := info_parts hinfo
  obtain ⟨hl, A, cap, rfl, hn, hc, hp⟩ := hr
  rcases A with _ | ad
  · have hm : m = 0 := by
      rcases Nat.eq_zero_or_pos m with h0 | h0
      · exact h0
      · obtain ⟨b, off, h, _⟩ := hp h0
        cases h
    subst hm
    obtain rfl : news = [] := List.eq_nil_of_length_eq_zero (by simpa using hl)
    exact ⟨v, w, run_append_of_nil w t ty e i0 size ht hi v n xs hown cap, by simpa using hown, Chg.refl _ w, by simp, .inl rfl⟩
  · have hcells : ∀ j u, news[j]? = some u → w.cell? (ad.add j) = some u := by
      intro j u hu
      rcases Nat.eq_zero_or_pos m with h0 | h0
      · subst h0
        obtain rfl : news = [] := List.eq_nil_of_length_eq_zero (by simpa using hl)
        simp at hu
      · obtain ⟨b, off, h, _, _, hcell⟩ := hp h0
        obtain rfl : ad = ⟨b, off, none⟩ := by injection h
        rw [add_plain]
        exact hcell j u hu
    obtain ⟨v', w', hrun, h2, h3, h4, h5⟩ := run_append_own_at (P := P) w 0 t ty e i0 z size bytes ht hi hz0 hz1 hz2 hzs hsz v n xs hown ad m cap news hl hcells h1 h63 hbytes (Nat.zero_le _)
    exact ⟨v', w', hrun, h2, Chg.of_grown h3, h4, h5⟩
theorem wp_app {o : Oper} {a : Act} {K : Act → World → Prop} {Q : Exit → Act → World → Prop} (s x : Operand) (t : TypeId)
    (ho : o.op = .call { callee := .builtin .append, args := #[s, x], argTypes := #[t, t] }) {e : TypeId} {z : Value} {size bytes : Nat} (ht : P.underlying t = some (.slice e))
    (hinfo : (P.info? e).map (fun i => (i.zero, i.size, i.bytes)) = some (some z, size, bytes)) (hzs : z.cells.size = size) (hsz : 0 < size)
    {v : Value} {n : Nat} {xs : List Value} (hown : Own w e size v n xs) (hs : a.eval s = v) {S : Nat → Prop} {src : Value} {m : Nat} {news : List Value} (hr : Cs w S size src m news) (hx : a.eval x = src)
    (h1 : ∀ u ∈ news, u.oneCell' = true) (h63 : n + m ≤ maxLen) (hbytes : (n + m) * bytes ≤ 140737488355328)
    (h : ∀ v' w', Own w' e size v' (n + m) (xs ++ news) → Chg (fun b => v.ownBlock = some b) w w' → (v' = .slice none 0 0 ↔ v = .slice none 0 0 ∧ m = 0) →
      (v'.ownBlock = v.ownBlock ∨ v'.ownBlock = some w.heap.size) → K (a.put o.dst v') w') : o.wp P a w K Q := by
  obtain ⟨v', w', hrun, h2, h3, h4, h5⟩ := run_app (P := P) w (ty := o.type) ht hinfo hzs hsz hown hr h1 h63 hbytes
  unfold Oper.wp execOp
  simp only [ho, resolve, invoke, builtin, Sem.run_bind, Sem.run_pure, Result.andThen_ok, List.map_toArray, List.map_cons, List.map_nil, hs, hx, hrun]
  exact h v' w' h2 h3 h4 h5
theorem wpList_app {ops : Array Oper} {rest : List Oper} {o : Oper} {a : Act} {Q : Exit → Act → World → Prop} (hgd : o.guard = none) (s x : Operand) (t : TypeId)
    (ho : o.op = .call { callee := .builtin .append, args := #[s, x], argTypes := #[t, t] }) {e : TypeId} {z : Value} {size bytes : Nat} (ht : P.underlying t = some (.slice e))
    (hinfo : (P.info? e).map (fun i => (i.zero, i.size, i.bytes)) = some (some z, size, bytes)) (hzs : z.cells.size = size) (hsz : 0 < size)
    {v : Value} {n : Nat} {xs : List Value} (hown : Own w e size v n xs) (hs : a.eval s = v) {S : Nat → Prop} {src : Value} {m : Nat} {news : List Value} (hr : Cs w S size src m news) (hx : a.eval x = src)
    (h1 : ∀ u ∈ news, u.oneCell' = true) (h63 : n + m ≤ maxLen) (hbytes : (n + m) * bytes ≤ 140737488355328)
    (h : ∀ v' w', Own w' e size v' (n + m) (xs ++ news) → Chg (fun b => v.ownBlock = some b) w w' → (v' = .slice none 0 0 ↔ v = .slice none 0 0 ∧ m = 0) →
      (v'.ownBlock = v.ownBlock ∨ v'.ownBlock = some w.heap.size) → wpList P ops Q rest (a.put o.dst v') w') : wpList P ops Q (o :: rest) a w :=
  wpList_plain hgd fun _ hK => wp_app w s x t ho ht hinfo hzs hsz hown hs hr hx h1 h63 hbytes fun v' w' h2 h3 h4 h5 => hK _ _ (h v' w' h2 h3 h4 h5)
theorem step_app {ops : Array Oper} {o : Oper} {a : Act} {K : Act → World → Prop} {Q : Exit → Act → World → Prop} {E : Prop} (hgd : o.guard = none) (s x : Operand) (t : TypeId)
    (ho : o.op = .call { callee := .builtin .append, args := #[s, x], argTypes := #[t, t] }) {e : TypeId} {z : Value} {size bytes : Nat} (ht : P.underlying t = some (.slice e))
    (hinfo : (P.info? e).map (fun i => (i.zero, i.size, i.bytes)) = some (some z, size, bytes)) (hzs : z.cells.size = size) (hsz : 0 < size)
    {v : Value} {n : Nat} {xs : List Value} (hown : Own w e size v n xs) (hs : a.eval s = v) {S : Nat → Prop} {src : Value} {m : Nat} {news : List Value} (hr : Cs w S size src m news) (hx : a.eval x = src)
    (h1 : ∀ u ∈ news, u.oneCell' = true) (h63 : n + m ≤ maxLen) (hbytes : (n + m) * bytes ≤ 140737488355328)
    (h : ∀ v' w', Own w' e size v' (n + m) (xs ++ news) → Chg (fun b => v.ownBlock = some b) w w' → (v' = .slice none 0 0 ↔ v = .slice none 0 0 ∧ m = 0) →
      (v'.ownBlock = v.ownBlock ∨ v'.ownBlock = some w.heap.size) → K (a.put o.dst v') w') :
    if Region.wanted o (yielded ops a.tmps) = true then Oper.wp P o a w K Q else E := by
  have hw : Region.wanted o (yielded ops a.tmps) = true := by simp [Region.wanted, hgd]
  rw [if_pos hw]
  exact wp_app w s x t ho ht hinfo hzs hsz hown hs hr hx h1 h63 hbytes h
end
end
section
open Go.RowKit
def be8 (n : Nat) : List UInt8 := Lib.beBytes 8 n
theorem be8_length (n : Nat) : (be8 n).length = 8 := Lib.beBytes_length 8 n
theorem be8_nat {n : Nat} (h : n < 18446744073709551616) : Lib.beNat (be8 n) = n := Lib.beNat_beBytes 8 n (by simpa using h)
def joinP : List (List UInt8) → List UInt8
  | [] => []
  | x :: l => be8 x.length ++ (x ++ joinP l)
def joinB (l : List (List UInt8)) : List UInt8 := be8 l.length ++ joinP l
def cutB : Nat → List UInt8 → Option (List (List UInt8))
  | 0, r => if r = [] then some [] else none
  | n + 1, r => if r.length < 8 ∨ r.length - 8 < Lib.beNat (r.take 8) then none else
      (cutB n (r.drop (8 + Lib.beNat (r.take 8)))).map fun l => (r.drop 8).take (Lib.beNat (r.take 8)) :: l
def splitB (b : List UInt8) : Option (List (List UInt8)) :=
  if b.length < 8 ∨ (b.length - 8) / 8 < Lib.beNat (b.take 8) then none else cutB (Lib.beNat (b.take 8)) (b.drop 8)
theorem joinP_append (a b : List (List UInt8)) : joinP (a ++ b) = joinP a ++ joinP b := by
  induction a with
  | nil => rfl
  | cons x l ih => simp only [List.cons_append, joinP, ih, List.append_assoc]
theorem joinP_count (l : List (List UInt8)) : 8 * l.length ≤ (joinP l).length := by
  induction l with
  | nil => simp [joinP]
  | cons x l ih => simp only [joinP, List.length_append, be8_length, List.length_cons]; omega
theorem joinB_length (l : List (List UInt8)) : (joinB l).length = 8 + (joinP l).length := by simp [joinB, be8_length]
theorem take_be8 (n : Nat) (r : List UInt8) : (be8 n ++ r).take 8 = be8 n := by
  rw [List.take_append_of_le_length (by rw [be8_length]; omega), List.take_of_length_le (by rw [be8_length]; omega)]
theorem drop_be8 (n : Nat) (r : List UInt8) : (be8 n ++ r).drop 8 = r := by
  have := List.drop_left' (l₁ := be8 n) (l₂ := r) (be8_length n)
  exact this
theorem cutB_joinP (l : List (List UInt8)) (h : (joinP l).length < 18446744073709551616) : cutB l.length (joinP l) = some l := by
  induction l with
  | nil => simp [cutB, joinP]
  | cons x l ih =>
    have hx : x.length < 18446744073709551616 := by simp only [joinP, List.length_append, be8_length] at h; omega
    have hl : (joinP l).length < 18446744073709551616 := by simp only [joinP, List.length_append, be8_length] at h; omega
    simp only [List.length_cons, joinP, cutB, take_be8, drop_be8, be8_nat hx]
    rw [if_neg (by simp only [List.length_append, be8_length]; omega)]
    rw [← List.drop_drop, drop_be8, List.drop_left' rfl, List.take_left' rfl, ih hl]
    rfl
theorem splitB_joinB (l : List (List UInt8)) (h : (joinB l).length < 18446744073709551616) : splitB (joinB l) = some l := by
  have hc := joinP_count l
  rw [joinB_length] at h
  have hn : l.length < 18446744073709551616 := by omega
  unfold splitB
  rw [joinB_length]
  simp only [joinB, take_be8, drop_be8, be8_nat hn]
  rw [if_neg (by omega)]
  exact cutB_joinP l (by omega)
theorem leBytes_leNat : ∀ l : List UInt8, Lib.leBytes l.length (Lib.leNat l) = l
  | [] => rfl
  | b :: r => by
    have hb := b.toNat_lt
    have h1 : Lib.leNat (b :: r) % 256 = b.toNat := by simp only [Lib.leNat]; omega
    have h2 : Lib.leNat (b :: r) / 256 = Lib.leNat r := by simp only [Lib.leNat]; omega
    simp only [List.length_cons, Lib.leBytes, h2, leBytes_leNat r]
    congr 1
    rw [← UInt8.toNat_inj]
    simp [h1]
theorem be8_beNat (l : List UInt8) (h : l.length = 8) : be8 (Lib.beNat l) = l := by
  unfold be8 Lib.beBytes
  have hr := leBytes_leNat l.reverse
  rw [List.length_reverse, h] at hr
  rw [Lib.beNat_eq, hr, List.reverse_reverse]
theorem cutB_back : ∀ (n : Nat) (r : List UInt8) (l : List (List UInt8)), cutB n r = some l → l.length = n ∧ joinP l = r
  | 0, r, l, h => by
    unfold cutB at h
    split at h
    · rename_i hr; injection h with h; subst h; subst hr; exact ⟨rfl, rfl⟩
    · cases h
  | n + 1, r, l, h => by
    unfold cutB at h
    split at h
    · cases h
    · rename_i hn
      have h8 : 8 ≤ r.length := by omega
      have hm : Lib.beNat (r.take 8) ≤ r.length - 8 := by omega
      obtain ⟨l', hl', rfl⟩ := Option.map_eq_some_iff.1 h
      obtain ⟨h1, h2⟩ := cutB_back n _ l' hl'
      refine ⟨by simp [h1], ?_⟩
      have hlen : ((r.drop 8).take (Lib.beNat (r.take 8))).length = Lib.beNat (r.take 8) := by rw [List.length_take, List.length_drop]; omega
      have h8' : (r.take 8).length = 8 := by rw [List.length_take]; omega
      simp only [joinP]
      rw [h2, hlen, be8_beNat _ h8', ← List.drop_drop, List.take_append_drop, List.take_append_drop]
theorem splitB_back {b : List UInt8} {l : List (List UInt8)} (h : splitB b = some l) : joinB l = b := by
  unfold splitB at h
  split at h
  · cases h
  · rename_i hn
    obtain ⟨h1, h2⟩ := cutB_back _ _ _ h
    have h8 : (b.take 8).length = 8 := by rw [List.length_take]; omega
    rw [joinB, h1, h2, be8_beNat _ h8, List.take_append_drop]
mutual
inductive Sh
  | num (signed : Bool)
  | dig
  | byt
  | bool
  | list (s : Sh)
  | tup (fs : Fs)
inductive Fs
  | nil
  | cons (s : Sh) (fs : Fs)
end
mutual
@[reducible] def Sh.El : Sh → Type
  | .num _ => Int
  | .dig => List UInt8
  | .byt => List UInt8
  | .bool => Bool
  | .list s => List s.El
  | .tup fs => fs.El
@[reducible] def Fs.El : Fs → Type
  | .nil => Unit
  | .cons s fs => s.El × fs.El
end
def nk (signed : Bool) : IntKind := if signed then .i64 else .u64
def truthB (b : Bool) : List UInt8 := if b then [1] else [0]
def numB (n : Int) : List UInt8 := be8 (n % 18446744073709551616).toNat
mutual
def Sh.enc : (s : Sh) → s.El → List UInt8
  | .num _, n => numB n
  | .dig, l => l
  | .byt, l => l
  | .bool, b => truthB b
  | .list s, l => joinB (l.map s.enc)
  | .tup fs, x => joinB (fs.encs x)
def Fs.encs : (fs : Fs) → fs.El → List (List UInt8)
  | .nil, _ => []
  | .cons s fs, (a, b) => s.enc a :: fs.encs b
end
def allO {α : Type} : List (Option α) → Option (List α)
  | [] => some []
  | o :: l => match o, allO l with
    | some a, some r => some (a :: r)
    | _, _ => none
mutual
def Sh.dec : (s : Sh) → List UInt8 → Option s.El
  | .num sg, b => if b.length = 8 then some ((nk sg).wrap (Lib.beNat b)) else none
  | .dig, b => if b.length = 32 then some b else none
  | .byt, b => some b
  | .bool, b => if b = [0] then some false else if b = [1] then some true else none
  | .list s, b => match splitB b with
    | none => none
    | some l => allO (l.map s.dec)
  | .tup fs, b => match splitB b with
    | none => none
    | some l => fs.decs l
def Fs.decs : (fs : Fs) → List (List UInt8) → Option fs.El
  | .nil, [] => some ()
  | .nil, _ :: _ => none
  | .cons _ _, [] => none
  | .cons s fs, b :: l => match s.dec b, fs.decs l with
    | some a, some r => some (a, r)
    | _, _ => none
end
mutual
def Sh.wf : (s : Sh) → s.El → Prop
  | .num sg, n => (nk sg).wrap n = n
  | .dig, l => l.length = 32
  | .byt, _ => True
  | .bool, _ => True
  | .list s, l => ∀ x ∈ (show List s.El from l), s.wf x
  | .tup fs, x => fs.wf x
def Fs.wf : (fs : Fs) → fs.El → Prop
  | .nil, _ => True
  | .cons s fs, (a, b) => s.wf a ∧ fs.wf b
end
theorem wrap_u (m : Int) : (nk false).wrap m = m % 18446744073709551616 := by simp [nk, IntKind.wrap, IntKind.signed, IntKind.bits]
theorem wrap_s (m : Int) : (nk true).wrap m = if 9223372036854775808 ≤ m % 18446744073709551616 then m % 18446744073709551616 - 18446744073709551616 else m % 18446744073709551616 := by
  simp [nk, IntKind.wrap, IntKind.signed, IntKind.bits]
theorem nk_wrap_nat (sg : Bool) (n : Int) (h : (nk sg).wrap n = n) : (nk sg).wrap ((n % 18446744073709551616).toNat : Nat) = n := by
  cases sg
  · rw [wrap_u] at h ⊢; omega
  · rw [wrap_s] at h ⊢; split at h <;> split <;> omega
theorem nk_wrap_num (sg : Bool) (m : Nat) (h : m < 18446744073709551616) : ((nk sg).wrap m % 18446744073709551616).toNat = m := by
  cases sg
  · rw [wrap_u]; omega
  · rw [wrap_s]; split <;> omega
theorem nk_wrap_wrap (sg : Bool) (m : Int) : (nk sg).wrap ((nk sg).wrap m) = (nk sg).wrap m := by
  cases sg
  · rw [wrap_u, wrap_u]; omega
  · rw [wrap_s, wrap_s]; split <;> split <;> omega
theorem beNat_lt8 (b : List UInt8) (h : b.length = 8) : Lib.beNat b < 18446744073709551616 := by
  have hf : ∀ (l : List UInt8) (acc : Nat), Lib.beFrom acc l < (acc + 1) * 256 ^ l.length := by
    intro l
    induction l with
    | nil => intro acc; simp [Lib.beFrom]
    | cons b r ih =>
      intro acc
      have := ih (acc * 256 + b.toNat)
      have hb := b.toNat_lt
      refine ltle this ?_
      rw [List.length_cons, Nat.pow_succ, Nat.mul_comm (256 ^ r.length) 256, ← Nat.mul_assoc]
      exact Nat.mul_le_mul_right _ (by omega)
  have := hf b 0
  rw [h] at this
  simpa [Lib.beNat] using this
theorem numB_length (n : Int) : (numB n).length = 8 := be8_length _
theorem joinP_mem {l : List (List UInt8)} {x : List UInt8} (h : x ∈ l) : x.length + 8 ≤ (joinP l).length := by
  induction l with
  | nil => cases h
  | cons y l ih =>
    simp only [joinP, List.length_append, be8_length]
    rcases List.mem_cons.1 h with rfl | h
    · omega
    · have := ih h; omega
theorem allO_map {α : Type} (f : α → List UInt8) (g : List UInt8 → Option α) (l : List α) (h : ∀ x ∈ l, g (f x) = some x) : allO ((l.map f).map g) = some l := by
  induction l with
  | nil => rfl
  | cons x l ih =>
    simp only [List.map_cons, allO, h x (by simp), ih fun y hy => h y (by simp [hy])]
theorem allO_back {α : Type} (f : α → List UInt8) (g : List UInt8 → Option α) (p : α → Prop) (hg : ∀ b x, g b = some x → f x = b ∧ p x) : ∀ (l : List (List UInt8)) (r : List α), allO (l.map g) = some r → r.map f = l ∧ ∀ x ∈ r, p x
  | [], r, h => by simp only [List.map_nil, allO] at h; injection h with h; subst h; exact ⟨rfl, by simp⟩
  | b :: l, r, h => by
    simp only [List.map_cons, allO] at h
    split at h
    · rename_i a r' h1 h2
      injection h with h
      subst h
      obtain ⟨q1, q2⟩ := hg _ _ h1
      obtain ⟨q3, q4⟩ := allO_back f g p hg l r' h2
      exact ⟨by simp [q1, q3], fun x hx => (List.mem_cons.1 hx).elim (fun e => e ▸ q2) (q4 x)⟩
    · cases h
mutual
theorem Sh.dec_enc : ∀ (s : Sh) (x : s.El), s.wf x → (s.enc x).length < 18446744073709551616 → s.dec (s.enc x) = some x
  | .num sg, n, h, _ => by
    show (if (numB n).length = 8 then some ((nk sg).wrap (Lib.beNat (numB n))) else none) = some n
    rw [numB_length, if_pos rfl]
    unfold numB
    rw [be8_nat (by omega), nk_wrap_nat sg n h]
  | .dig, l, h, _ => by
    show (if List.length (α := UInt8) l = 32 then some l else none) = some l
    exact if_pos h
  | .byt, _, _, _ => rfl
  | .bool, b, _, _ => by cases b <;> rfl
  | .list s, l, h, hb => by
    have hb : (joinB (List.map s.enc l)).length < 18446744073709551616 := hb
    have hs := splitB_joinB _ hb
    rw [joinB_length] at hb
    show (match splitB (joinB (List.map s.enc l)) with | none => none | some l => allO (l.map s.dec)) = some l
    rw [hs]
    exact allO_map s.enc s.dec l fun x hx => Sh.dec_enc s x (h x hx) (by
      have := joinP_mem (List.mem_map.2 ⟨x, hx, rfl⟩ : s.enc x ∈ List.map s.enc l)
      omega)
  | .tup fs, x, h, hb => by
    have hb : (joinB (fs.encs x)).length < 18446744073709551616 := hb
    have hs := splitB_joinB _ hb
    rw [joinB_length] at hb
    show (match splitB (joinB (fs.encs x)) with | none => none | some l => fs.decs l) = some x
    rw [hs]
    exact Fs.decs_encs fs x h (by omega)
theorem Fs.decs_encs : ∀ (fs : Fs) (x : fs.El), fs.wf x → (joinP (fs.encs x)).length < 18446744073709551616 → fs.decs (fs.encs x) = some x
  | .nil, _, _, _ => rfl
  | .cons s fs, (a, b), h, hb => by
    have hb : (joinP (s.enc a :: fs.encs b)).length < 18446744073709551616 := hb
    simp only [joinP, List.length_append, be8_length] at hb
    have h1 := Sh.dec_enc s a h.1 (by omega)
    have h2 := Fs.decs_encs fs b h.2 (by omega)
    show (match s.dec (s.enc a), fs.decs (fs.encs b) with | some a, some r => some (a, r) | _, _ => none) = some (a, b)
    rw [h1, h2]
end
mutual
theorem Sh.enc_dec : ∀ (s : Sh) (b : List UInt8) (x : s.El), s.dec b = some x → s.enc x = b ∧ s.wf x
  | .num sg, b, x, h => by
    have h : (if b.length = 8 then some ((nk sg).wrap (Lib.beNat b)) else none) = some x := h
    split at h
    · rename_i h8
      injection h with h
      subst h
      refine ⟨?_, nk_wrap_wrap sg _⟩
      have hlt := beNat_lt8 b h8
      show numB _ = b
      unfold numB
      rw [nk_wrap_num sg _ hlt, be8_beNat b h8]
    · cases h
  | .dig, b, x, h => by
    have h : (if b.length = 32 then some b else none) = some x := h
    split at h
    · rename_i h8
      injection h with h
      subst h
      exact ⟨rfl, h8⟩
    · cases h
  | .byt, b, x, h => by
    have h : some b = some x := h
    injection h with h
    subst h
    exact ⟨rfl, trivial⟩
  | .bool, b, x, h => by
    have h : (if b = [0] then some false else if b = [1] then some true else none) = some x := h
    split at h
    · rename_i hb
      injection h with h
      subst h
      exact ⟨hb.symm, trivial⟩
    · split at h
      · rename_i hb
        injection h with h
        subst h
        exact ⟨hb.symm, trivial⟩
      · cases h
  | .list s, b, x, h => by
    have h : (match splitB b with | none => none | some l => allO (l.map s.dec)) = some x := h
    split at h
    · cases h
    · rename_i l hl
      obtain ⟨h1, h2⟩ := allO_back s.enc s.dec s.wf (fun b x h => Sh.enc_dec s b x h) l x h
      refine ⟨?_, h2⟩
      show joinB (List.map s.enc x) = b
      rw [h1, splitB_back hl]
  | .tup fs, b, x, h => by
    have h : (match splitB b with | none => none | some l => fs.decs l) = some x := h
    split at h
    · cases h
    · rename_i l hl
      obtain ⟨h1, h2⟩ := Fs.encs_decs fs l x h
      refine ⟨?_, h2⟩
      show joinB (fs.encs x) = b
      rw [h1, splitB_back hl]
theorem Fs.encs_decs : ∀ (fs : Fs) (l : List (List UInt8)) (x : fs.El), fs.decs l = some x → fs.encs x = l ∧ fs.wf x
  | .nil, [], _, _ => ⟨rfl, trivial⟩
  | .nil, _ :: _, _, h => by cases h
  | .cons _ _, [], _, h => by cases h
  | .cons s fs, b :: l, x, h => by
    have h : (match s.dec b, fs.decs l with | some a, some r => some (a, r) | _, _ => none) = some x := h
    split at h
    · rename_i a r h1 h2
      injection h with h
      subst h
      obtain ⟨q1, q2⟩ := Sh.enc_dec s b a h1
      obtain ⟨q3, q4⟩ := Fs.encs_decs fs l r h2
      refine ⟨?_, q2, q4⟩
      show s.enc a :: fs.encs r = b :: l
      rw [q1, q3]
    · cases h
end
end
section
open Go.RowKit
mutual
def Sh.cells : Sh → Nat
  | .num _ => 1
  | .dig => 32
  | .byt => 1
  | .bool => 1
  | .list _ => 1
  | .tup fs => fs.cells
def Fs.cells : Fs → Nat
  | .nil => 0
  | .cons s fs => s.cells + fs.cells
end
inductive Two {α β : Type} (R : α → β → Prop) : List α → List β → Prop
  | nil : Two R [] []
  | cons {a b l m} : R a b → Two R l m → Two R (a :: l) (b :: m)
mutual
def Sh.rep (w : World) (S : Nat → Prop) : (s : Sh) → s.El → List Value → Prop
  | .num sg, n, cs => cs = [.int (nk sg) n] ∧ (nk sg).wrap n = n
  | .dig, l, cs => cs = u8s l ∧ List.length (α := UInt8) l = 32
  | .byt, l, cs => ∃ v, cs = [v] ∧ Bs w S v l
  | .bool, b, cs => cs = [.bool b]
  | .list s, l, cs => ∃ v css, cs = [v] ∧ Cs w S s.cells v (List.length (α := s.El) l) css.flatten ∧ Two (Sh.rep w S s) l css
  | .tup fs, x, cs => fs.rep w S x cs
def Fs.rep (w : World) (S : Nat → Prop) : (fs : Fs) → fs.El → List Value → Prop
  | .nil, _, cs => cs = []
  | .cons s fs, (a, b), cs => ∃ c1 c2, cs = c1 ++ c2 ∧ s.rep w S a c1 ∧ fs.rep w S b c2
end
theorem Two.map {α β : Type} {R Q : α → β → Prop} {l : List α} {m : List β} (h : Two R l m) (hq : ∀ a b, R a b → Q a b) : Two Q l m := by
  induction h with
  | nil => exact .nil
  | cons h _ ih => exact .cons (hq _ _ h) ih
theorem Two.length {α β : Type} {R : α → β → Prop} {l : List α} {m : List β} (h : Two R l m) : l.length = m.length := by
  induction h with
  | nil => rfl
  | cons _ _ ih => simp [ih]
theorem Two.get {α β : Type} {R : α → β → Prop} {l : List α} {m : List β} (h : Two R l m) (i : Nat) (hi : i < l.length) : ∃ b, m[i]? = some b ∧ R l[i] b := by
  induction h generalizing i with
  | nil => cases hi
  | cons h _ ih =>
    cases i with
    | zero => exact ⟨_, rfl, h⟩
    | succ i => exact ih i (by simpa using hi)
theorem Two.append {α β : Type} {R : α → β → Prop} {l l' : List α} {m m' : List β} (h : Two R l m) (k : Two R l' m') : Two R (l ++ l') (m ++ m') := by
  induction h with
  | nil => exact k
  | cons h _ ih => exact .cons h ih
mutual
theorem Sh.rep_size {w : World} {S : Nat → Prop} : ∀ (s : Sh) (x : s.El) (cs : List Value), s.rep w S x cs → cs.length = s.cells
  | .num _, _, _, h => by obtain ⟨rfl, _⟩ := h; rfl
  | .dig, l, _, h => by obtain ⟨rfl, h⟩ := h; rw [u8s_length]; exact h
  | .byt, _, _, h => by obtain ⟨v, rfl, _⟩ := h; rfl
  | .bool, _, cs, h => by have h : cs = [.bool _] := h; rw [h]; rfl
  | .list _, _, _, h => by obtain ⟨v, css, rfl, _⟩ := h; rfl
  | .tup fs, x, cs, h => Fs.rep_size fs x cs h
theorem Fs.rep_size {w : World} {S : Nat → Prop} : ∀ (fs : Fs) (x : fs.El) (cs : List Value), fs.rep w S x cs → cs.length = fs.cells
  | .nil, _, cs, h => by have h : cs = [] := h; rw [h]; rfl
  | .cons s fs, (a, b), cs, h => by
    obtain ⟨c1, c2, rfl, h1, h2⟩ := h
    rw [List.length_append, Sh.rep_size s a c1 h1, Fs.rep_size fs b c2 h2]
    rfl
end
mutual
theorem Sh.rep_wf {w : World} {S : Nat → Prop} : ∀ (s : Sh) (x : s.El) (cs : List Value), s.rep w S x cs → s.wf x
  | .num _, _, _, h => h.2
  | .dig, _, _, h => h.2
  | .byt, _, _, _ => trivial
  | .bool, _, _, _ => trivial
  | .list s, l, _, h => by
    obtain ⟨v, css, _, _, h⟩ := h
    intro x hx
    obtain ⟨i, hi, rfl⟩ := List.getElem_of_mem hx
    obtain ⟨b, _, hr⟩ := h.get i hi
    exact Sh.rep_wf s _ b hr
  | .tup fs, x, cs, h => Fs.rep_wf fs x cs h
theorem Fs.rep_wf {w : World} {S : Nat → Prop} : ∀ (fs : Fs) (x : fs.El) (cs : List Value), fs.rep w S x cs → fs.wf x
  | .nil, _, _, _ => trivial
  | .cons s fs, (a, b), _, h => by
    obtain ⟨c1, c2, _, h1, h2⟩ := h
    exact ⟨Sh.rep_wf s a c1 h1, Fs.rep_wf fs b c2 h2⟩
end
theorem Cs.to {w w' : World} {S S' : Nat → Prop} {size n : Nat} {v : Value} {xs : List Value} (h : Cs w S size v n xs) (hk : ∀ b, S b → b < w.heap.size → b < w'.heap.size ∧ w'.heap[b]? = w.heap[b]?) (hs : ∀ b, S b → b < w.heap.size → S' b) : Cs w' S' size v n xs := by
  obtain ⟨h1, A, cap, rfl, hn, hc, hp⟩ := h
  refine ⟨h1, A, cap, rfl, hn, hc, fun h0 => ?_⟩
  obtain ⟨b, off, rfl, hs', hlt, hcell⟩ := hp h0
  exact ⟨b, off, rfl, hs b hs' hlt, (hk b hs' hlt).1, fun j u hu => (World.cell?_of_block (a := ⟨b, off + j, none⟩) (hk b hs' hlt).2).trans (hcell j u hu)⟩
mutual
theorem Sh.rep_to {w w' : World} {S S' : Nat → Prop} (hk : ∀ b, S b → b < w.heap.size → b < w'.heap.size ∧ w'.heap[b]? = w.heap[b]?) (hs : ∀ b, S b → b < w.heap.size → S' b) : ∀ (s : Sh) (x : s.El) (cs : List Value), s.rep w S x cs → s.rep w' S' x cs
  | .num _, _, _, h => h
  | .dig, _, _, h => h
  | .byt, _, _, h => by
    obtain ⟨v, rfl, h1, h2⟩ := h
    exact ⟨v, rfl, h1.to hk hs, h2⟩
  | .bool, _, _, h => h
  | .list s, l, _, h => by
    obtain ⟨v, css, rfl, h1, h2⟩ := h
    exact ⟨v, css, rfl, h1.to hk hs, h2.map fun a b h => Sh.rep_to hk hs s a b h⟩
  | .tup fs, x, cs, h => Fs.rep_to hk hs fs x cs h
theorem Fs.rep_to {w w' : World} {S S' : Nat → Prop} (hk : ∀ b, S b → b < w.heap.size → b < w'.heap.size ∧ w'.heap[b]? = w.heap[b]?) (hs : ∀ b, S b → b < w.heap.size → S' b) : ∀ (fs : Fs) (x : fs.El) (cs : List Value), fs.rep w S x cs → fs.rep w' S' x cs
  | .nil, _, _, h => h
  | .cons s fs, (a, b), _, h => by
    obtain ⟨c1, c2, rfl, h1, h2⟩ := h
    exact ⟨c1, c2, rfl, Sh.rep_to hk hs s a c1 h1, Fs.rep_to hk hs fs b c2 h2⟩
end
theorem Sh.rep_below {w w' : World} {S : Nat → Prop} {s : Sh} {x : s.El} {cs : List Value} (h : s.rep w S x cs) (hb : Below w.heap.size w w') : s.rep w' S x cs :=
  Sh.rep_to (fun b _ hlt => ⟨ltle hlt hb.size, hb.block b hlt⟩) (fun _ h _ => h) s x cs h
theorem Sh.rep_chg {w w' : World} {S M : Nat → Prop} {s : Sh} {x : s.El} {cs : List Value} (h : s.rep w S x cs) (hc : Chg M w w') (hd : ∀ b, S b → ¬ M b) : s.rep w' S x cs :=
  Sh.rep_to (fun b hS hlt => ⟨ltle hlt hc.size, hc.block b hlt (hd b hS)⟩) (fun _ h _ => h) s x cs h
theorem Sh.rep_sub {w : World} {S S' : Nat → Prop} {s : Sh} {x : s.El} {cs : List Value} (h : s.rep w S x cs) (hs : ∀ b, S b → b < w.heap.size → S' b) : s.rep w S' x cs :=
  Sh.rep_to (fun _ _ hlt => ⟨hlt, rfl⟩) hs s x cs h
def Fs.of : List Sh → Fs
  | [] => .nil
  | s :: l => .cons s (Fs.of l)
abbrev i64 : Sh := .num true
abbrev u64 : Sh := .num false
abbrev tSig : Sh := .tup (.cons i64 (.cons .dig .nil))
abbrev tHeader : Sh := .tup (.cons i64 (.cons i64 (.cons i64 (.cons i64 (.cons .dig (.cons .dig (.cons .dig (.cons i64 .nil))))))))
abbrev tQC : Sh := .tup (.cons i64 (.cons i64 (.cons i64 (.cons .dig (.cons (.list i64) (.cons (.list tSig) .nil))))))
abbrev tCommit : Sh := .tup (.cons (.list tHeader) (.cons tQC .nil))
abbrev tFact : Sh := .tup (.cons tCommit (.cons .dig (.cons .byt (.cons .bool (.cons .byt .nil)))))
abbrev tRecord : Sh := .tup (.cons i64 (.cons (.list i64) (.cons (.list (.list i64)) .nil)))
abbrev tTx : Sh := .tup (.cons i64 (.cons u64 (.cons u64 (.cons u64 (.cons u64 (.cons i64 (.cons i64 (.cons .dig (.cons i64 (.cons (.list tFact) .nil))))))))))
abbrev tBlock : Sh := .tup (.cons tHeader (.cons tQC (.cons (.list tCommit) (.cons (.list tTx) (.cons tSig .nil)))))
abbrev tVote : Sh := .tup (.cons i64 (.cons i64 (.cons i64 (.cons .dig (.cons i64 (.cons tSig .nil))))))
abbrev tTimeout : Sh := .tup (.cons i64 (.cons i64 (.cons i64 (.cons tQC (.cons i64 (.cons tSig .nil))))))
abbrev tMessage : Sh := .tup (.cons i64 (.cons i64 (.cons i64 (.cons .dig (.cons (.list tBlock) (.cons (.list tVote) (.cons (.list tTimeout) (.cons (.list tCommit) (.cons (.list tTx) .nil)))))))))
example : tHeader.cells = 101 := rfl
example : tBlock.cells = 173 := rfl
example (a b c d : Int) (p q r : List UInt8) (e : Int) : tHeader.enc (a, b, c, d, p, q, r, e, ()) = joinB [numB a, numB b, numB c, numB d, p, q, r, numB e] := rfl
end
section
open Go.RowKit Go.Maps
theorem or_shift (a b : Nat) (h : b < 256) : (a * 256) ||| b = a * 256 + b := by
  have := Nat.shiftLeft_add_eq_or_of_lt (i := 8) (b := b) (by omega) a
  rw [Nat.shiftLeft_eq, show (2 : Nat) ^ 8 = 256 from rfl] at this
  omega
theorem beFrom_append (acc : Nat) (l m : List UInt8) : Lib.beFrom acc (l ++ m) = Lib.beFrom (Lib.beFrom acc l) m := by
  induction l generalizing acc with
  | nil => rfl
  | cons b r ih => simp only [List.cons_append, Lib.beFrom, ih]
theorem beNat_snoc (l : List UInt8) (b : UInt8) : Lib.beNat (l ++ [b]) = Lib.beNat l * 256 + b.toNat := by
  unfold Lib.beNat; rw [beFrom_append]; rfl
theorem beFrom_lt (l : List UInt8) : ∀ acc, Lib.beFrom acc l < (acc + 1) * 256 ^ l.length := by
  induction l with
  | nil => intro acc; simp [Lib.beFrom]
  | cons b r ih =>
    intro acc
    have := ih (acc * 256 + b.toNat)
    have hb := b.toNat_lt
    refine ltle this ?_
    rw [List.length_cons, Nat.pow_succ, Nat.mul_comm (256 ^ r.length) 256, ← Nat.mul_assoc]
    exact Nat.mul_le_mul_right _ (by omega)
theorem beNat_lt (l : List UInt8) : Lib.beNat l < 256 ^ l.length := by
  have := beFrom_lt l 0
  simpa [Lib.beNat] using this
theorem pow_mono (k : Nat) (h : k ≤ 7) : 256 ^ k ≤ 72057594037927936 := by
  have := Nat.pow_le_pow_right (n := 256) (by omega) h
  simpa using this
set_option maxRecDepth 100000 in
theorem u64_any (w : World) {S : Nat → Prop} {v : Value} {bs : List UInt8} (h : Cs w S 1 v bs.length (u8s bs)) (h8 : 8 ≤ bs.length) :
    Calls Tryz.prog 91 #[v] w fun e w' => e = .returned (.int .u64 (Lib.beNat (bs.take 8))) ∧ w' = w := by
  obtain ⟨_, A, cap, rfl, hn, hc, hp⟩ := h
  obtain ⟨b, off, rfl, _, hlt, hcell⟩ := hp (by omega)
  simp only [maxLen] at hc
  have H := Lib.hid hcell; clear hcell hp
  go_enter Tryz.func91, Tryz.ntmps91
  go_wp2
  go_loopw [3, 9] (fun n i wr => wr = w ∧ ∃ k : Nat, k ≤ 8 ∧ i = .int .i64 k ∧ n = .int .u64 (Lib.beNat (bs.take k))) (fun _ i _ => 8 - (intOf i).toNat)
  case atStart => exact ⟨rfl, 0, by omega, rfl, by simp [Lib.beNat, Lib.beFrom]⟩
  case round =>
    obtain ⟨rfl, k, hk, rfl, rfl⟩ := hrel
    by_cases hlt8 : k < 8
    · have hg := H.out k _ (u8s_get bs k (by omega))
      have hx : bs[k].toNat < 256 := bs[k].toNat_lt
      have hN : Lib.beNat (bs.take k) < 72057594037927936 := by
        have := beNat_lt (bs.take k)
        rw [List.length_take, Nat.min_eq_left (by omega)] at this
        exact ltle this (pow_mono k (by omega))
      have hs : Lib.beNat (bs.take (k + 1)) = Lib.beNat (bs.take k) * 256 + bs[k].toNat := by
        rw [List.take_succ_eq_append_getElem (by omega), beNat_snoc]
      generalize Lib.beNat (bs.take k) = N at hN hs
      generalize bs[k].toNat = x at hg hx hs
      have hor : bits .or .u64 ((N : Int) * 256) (x : Int) = ((N * 256 + x : Nat) : Int) := by
        have := u64_or_nat (N * 256) x (by omega) (by omega)
        rw [or_shift N x hx] at this
        rw [← this]; congr 1
      go_wp2
      refine ⟨⟨trivial, k + 1, by omega, by push_cast; rfl, by rw [hs]; push_cast; rfl⟩, ?_⟩
      simp only [intOf]
      omega
    · have hk' : k = 8 := by omega
      subst hk'
      go_wp2
      go_ret
      exact ⟨rfl, rfl⟩
end
section
open Go.RowKit Go.Maps
theorem beBytes_eq (v : Nat) : u8s (Lib.beBytes 8 v) = [.int .u8 (((v / 72057594037927936 % 256 : Nat)) : Int), .int .u8 (((v / 281474976710656 % 256 : Nat)) : Int), .int .u8 (((v / 1099511627776 % 256 : Nat)) : Int), .int .u8 (((v / 4294967296 % 256 : Nat)) : Int), .int .u8 (((v / 16777216 % 256 : Nat)) : Int), .int .u8 (((v / 65536 % 256 : Nat)) : Int), .int .u8 (((v / 256 % 256 : Nat)) : Int), .int .u8 (((v % 256 : Nat)) : Int)] := by
  simp only [Lib.beBytes, Lib.leBytes, u8s, List.reverse_cons, List.reverse_nil, List.nil_append, List.cons_append, List.map_cons, List.map_nil, Lib.toUInt8_mod, Nat.div_div_eq_div_mul]
theorem beBytes_int (m : Nat) (hm : m < 18446744073709551616) : u8s (Lib.beBytes 8 m) = [.int .u8 ((m : Int) / 72057594037927936), .int .u8 ((m : Int) / 281474976710656 % 256), .int .u8 ((m : Int) / 1099511627776 % 256), .int .u8 ((m : Int) / 4294967296 % 256), .int .u8 ((m : Int) / 16777216 % 256), .int .u8 ((m : Int) / 65536 % 256), .int .u8 ((m : Int) / 256 % 256), .int .u8 ((m : Int) % 256)] := by
  rw [beBytes_eq]
  simp only [List.cons.injEq, Value.int.injEq, true_and, and_true]
  refine ⟨by omega, by omega, by omega, by omega, by omega, by omega, by omega, by omega⟩
theorem info_u8 : (Tryz.prog.info? 5).map (fun i => (i.zero, i.size, i.bytes)) = some (some (.int .u8 0), 1, 1) := by kernel_rfl
set_option maxRecDepth 100000 in
theorem append64_any (w : World) (v : Value) (bs : List UInt8) (m : Nat) (hm : m < 18446744073709551616) (ho : Own w 5 1 v bs.length (u8s bs)) (hl : bs.length + 8 ≤ 140737488355328) :
    Calls Tryz.prog 62 #[v, .int .u64 m] w fun e w' => ∃ v', e = .returned v' ∧ Own w' 5 1 v' (bs ++ Lib.beBytes 8 m).length (u8s (bs ++ Lib.beBytes 8 m)) ∧
      Chg (fun b => v.ownBlock = some b) w w' ∧ (v'.ownBlock = v.ownBlock ∨ ∃ k, v'.ownBlock = some k ∧ w.heap.size ≤ k) := by
  have hbe := beBytes_int m hm
  have hL : (Lib.beBytes 8 m).length = 8 := Lib.beBytes_length 8 m
  have hsr : ∀ E : List Value, E.length = 8 → Cs (w.alloc (.cells E.toArray 5)) (fun b => b = w.heap.size) 1 (.slice (some ⟨w.heap.size, 0, none⟩) 8 8) 8 E := fun E h => Cs.of_new w 5 8 (cs := E) (size := 1) (by rw [h]) (by decide)
  have hna : ∀ o : Obj, Own (w.alloc o) 5 1 v bs.length (u8s bs) := fun o => own_keep ho fun k hk => Below.heap_alloc w _ k (own_lt ho hk)
  have h1 := u8s_one (Lib.beBytes 8 m)
  have hch : ∀ o : Obj, Chg (fun b => v.ownBlock = some b) w (w.alloc o) := fun o => (Chg.refl _ w).alloc _
  have hre : u8s bs ++ u8s (Lib.beBytes 8 m) = u8s (bs ++ Lib.beBytes 8 m) := by simp [u8s]
  have HRE := Lib.hid hre; clear hre
  have HCH := Lib.hid hch; clear hch
  have HSR := Lib.hid hsr; clear hsr
  have HNA := Lib.hid hna; clear hna
  have H1 := Lib.hid h1; clear h1
  have HBE := Lib.hid hbe; clear hbe
  have HL := Lib.hid hL; clear hL
  obtain ⟨A, cap, rfl⟩ := ho.form
  have HO := Lib.hid ho; clear ho
  go_enter Tryz.func62, Tryz.ntmps62
  go_wp2_with (at_builtin; refine wpList_app _ rfl _ _ _ rfl Tryz.underlying77 info_u8 rfl (by decide) (HNA.out _) rfl (HSR.out [_, _, _, _, _, _, _, _] rfl) rfl (by intro u hu; simp only [List.mem_cons, List.not_mem_nil, or_false] at hu; rcases hu with rfl | rfl | rfl | rfl | rfl | rfl | rfl | rfl <;> rfl) (by simp only [maxLen]; omega) (by omega) ?_; intro v2 w2 ho3 hg3 hnil3 hat3)
  rw [← HBE.out, HRE.out] at ho3
  go_ret
  refine ⟨v2, rfl, by rw [List.length_append, HL.out]; exact ho3, (HCH.out _).trans hg3 (fun b hb => .inl hb), hat3.imp id fun h => ⟨_, h, ?_⟩⟩
  simp
end
section
open Go.RowKit Go.Maps
def Th (w : World) (b : Nat) : Prop := ∃ cs t, w.heap[b]? = some (.cells cs t (0, 0))
def Fresh (w w' : World) (v : Value) (bs : List UInt8) : Prop := Bs w' (fun b => w.heap.size ≤ b ∧ Th w' b) v bs ∧ Below w.heap.size w w'
theorem Fresh.of_own {w w1 : World} {v : Value} {bs : List UInt8} (ho : Own w1 5 1 v bs.length (u8s bs)) (hb : Below w.heap.size w w1) (hv : ∀ k, v.ownBlock = some k → w.heap.size ≤ k) (hl : bs.length ≤ 140737488355328) : Fresh w w1 v bs := by
  refine ⟨⟨Cs.of_own ho fun k hk => ⟨hv k hk, ?_⟩, hl⟩, hb⟩
  rcases ho.2 with ⟨rfl, _⟩ | ⟨g, cap, cur, rfl, _, hh, _⟩
  · simp [Value.ownBlock] at hk
  · simp only [Value.ownBlock, Option.some.injEq] at hk
    subst hk
    exact ⟨_, _, hh⟩
theorem numInt_any (w : World) (n : Int) : Calls Tryz.prog 46 #[.int .i64 n] w fun e w' => ∃ v', e = .returned v' ∧ Fresh w w' v' (numB n) := by
  have ha := append64_any w (.slice none 0 0) [] ((n % 18446744073709551616).toNat) (by omega) (Own.nil_ _ _ _) (by simp)
  have hw : (((n % 18446744073709551616).toNat : Nat) : Int) = IntKind.u64.wrap n := by rw [show IntKind.u64 = nk false from rfl, wrap_u]; omega
  rw [hw] at ha
  have HA := Lib.hid ha; clear ha hw
  go_enter Tryz.func46, Tryz.ntmps46
  go_wp2_with fail
  refine HA.out.mono ?_
  rintro e w1 ⟨v1, rfl, ho, hc, hv⟩
  go_wp2_with fail
  go_ret
  exact ⟨v1, rfl, Fresh.of_own ho (hc.below (Nat.le_refl _) fun b h => by simp [Value.ownBlock] at h) (fun k hk => hv.elim (fun h => by rw [h] at hk; simp [Value.ownBlock] at hk) fun ⟨j, h1, h2⟩ => by rw [h1] at hk; injection hk with hk; omega) (by show (be8 _).length ≤ _; rw [be8_length]; omega)⟩
theorem info_u8' : (Tryz.prog.info? 5).map (fun i => (i.zero, i.size, i.bytes)) = some (some (.int .u8 0), 1, 1) := by kernel_rfl
def Bsr (w : World) (S : Nat → Prop) (v : Value) (rows : List (List UInt8)) : Prop := ∃ vs : List Value, Cs w S 1 v rows.length vs ∧ ∀ (i : Nat) (x : List UInt8) (u : Value), rows[i]? = some x → vs[i]? = some u → Bs w S u x
theorem Bsr.form {w : World} {S : Nat → Prop} {v : Value} {rows : List (List UInt8)} (h : Bsr w S v rows) : ∃ A cap, v = .slice A rows.length cap := by
  obtain ⟨vs, h, _⟩ := h
  exact h.form
theorem Bsr.keep {w w' : World} {S : Nat → Prop} {v : Value} {rows : List (List UInt8)} (h : Bsr w S v rows) (hs : w.heap.size ≤ w'.heap.size) (hk : ∀ b, S b → b < w.heap.size → w'.heap[b]? = w.heap[b]?) : Bsr w' S v rows := by
  obtain ⟨vs, h1, h2⟩ := h
  exact ⟨vs, h1.keep hs hk, fun i x u a b => (h2 i x u a b).keep hs hk⟩
theorem Bsr.below {w w' : World} {S : Nat → Prop} {v : Value} {rows : List (List UInt8)} (h : Bsr w S v rows) (hb : Below w.heap.size w w') : Bsr w' S v rows := h.keep hb.size fun b _ hl => hb.block b hl
theorem Bsr.chg {w w' : World} {S M : Nat → Prop} {v : Value} {rows : List (List UInt8)} (h : Bsr w S v rows) (hc : Chg M w w') (hd : ∀ b, S b → ¬ M b) : Bsr w' S v rows := h.keep hc.size fun b hs hl => hc.block b hl (hd b hs)
theorem Bsr.at_ {w : World} {S : Nat → Prop} {A : Option Addr} {cap : Nat} {rows : List (List UInt8)} (h : Bsr w S (.slice A rows.length cap) rows) {k : Nat} (hk : k < rows.length) :
    ∃ b off u, A = some ⟨b, off, none⟩ ∧ w.cell? ⟨b, off + k, none⟩ = some u ∧ Bs w S u rows[k] ∧ b < w.heap.size ∧ S b := by
  obtain ⟨vs, h1, h2⟩ := h
  have hl := h1.1
  obtain ⟨_, A', cap', e, _, _, hp⟩ := h1
  injection e with e
  subst e
  obtain ⟨b, off, rfl, hS, hlt, hc⟩ := hp (by omega)
  have hg : vs[k]? = some (vs[k]'(by omega)) := List.getElem?_eq_getElem _
  exact ⟨b, off, vs[k]'(by omega), rfl, hc k _ hg, h2 k _ _ (List.getElem?_eq_getElem hk) hg, hlt, hS⟩
theorem joinP_take_succ (rows : List (List UInt8)) (k : Nat) (h : k < rows.length) : joinP (rows.take (k + 1)) = (joinP (rows.take k) ++ be8 rows[k].length) ++ rows[k] := by
  rw [List.take_succ_eq_append_getElem h, joinP_append]
  simp [joinP]
theorem joinP_take_le (rows : List (List UInt8)) (k : Nat) : (joinP (rows.take k)).length ≤ (joinP rows).length := by
  have := congrArg List.length (joinP_append (rows.take k) (rows.drop k))
  rw [List.take_append_drop, List.length_append] at this
  omega
theorem u64_wrap_nat (n : Nat) (h : n < 18446744073709551616) : IntKind.u64.wrap (n : Int) = n := by rw [show IntKind.u64 = nk false from rfl, wrap_u]; omega
set_option maxHeartbeats 1000000 in
set_option maxRecDepth 100000 in
theorem join_any (w : World) {S : Nat → Prop} {v : Value} {rows : List (List UInt8)} (h : Bsr w S v rows) (hl : (joinB rows).length ≤ 140737488355328) (hS : ∀ b, S b → b < w.heap.size) :
    Calls Tryz.prog 45 #[v] w fun e w' => ∃ v', e = .returned v' ∧ Fresh w w' v' (joinB rows) := by
  obtain ⟨A, cap, rfl⟩ := h.form
  have H := Lib.hid h; clear h
  have hc := joinP_count rows
  rw [joinB_length] at hl
  have ha := append64_any w (.slice none 0 0) [] rows.length (by omega) (Own.nil_ _ _ _) (by simp)
  have HA := Lib.hid ha; clear ha
  have hw := u64_wrap_nat rows.length (by omega)
  go_enter Tryz.func45, Tryz.ntmps45
  go_wp2_with fail
  refine HA.out.mono ?_
  rintro e w1 ⟨v1, rfl, ho, hc1, hv1⟩
  go_wp2_with fail
  have hb1 : Below w.heap.size w w1 := hc1.below (Nat.le_refl _) fun b h => by simp [Value.ownBlock] at h
  have hv : ∀ b, v1.ownBlock = some b → w.heap.size ≤ b := fun b hb => hv1.elim (fun h => by rw [h] at hb; simp [Value.ownBlock] at hb) fun ⟨j, h1, h2⟩ => by rw [h1] at hb; injection hb with hb; omega
  obtain ⟨B0, hB0⟩ : ∃ B0, B0 = be8 rows.length := ⟨_, rfl⟩
  have ho : Own w1 5 1 v1 (B0 ++ joinP (rows.take 0)).length (u8s (B0 ++ joinP (rows.take 0))) := by
    rw [List.take_zero, show joinP [] = [] from rfl, List.append_nil, hB0]; exact ho
  have hB8 : B0.length = 8 := by rw [hB0, be8_length]
  have HB8 := Lib.hid hB8
  have HB0 := Lib.hid hB0
  clear hB8 hB0 hv1 hc1 hw HA
  go_loopw [3, 12] (fun o i wr => ∃ k : Nat, k ≤ rows.length ∧ i = .int .i64 k ∧ Own wr 5 1 o (B0 ++ joinP (rows.take k)).length (u8s (B0 ++ joinP (rows.take k))) ∧ (∀ b, o.ownBlock = some b → w.heap.size ≤ b) ∧ Below w.heap.size w wr) (fun _ i _ => rows.length - (intOf i).toNat)
  case atStart => exact ⟨0, Nat.zero_le _, rfl, ho, hv, hb1⟩
  case round =>
    obtain ⟨k, hk, rfl, ho, hv, hbl⟩ := hrel
    by_cases hlt : k < rows.length
    · obtain ⟨ba, oa, ua, rfl, hca, hua, _, hSb⟩ := (H.out.below hbl).at_ hlt
      have hT := joinP_take_le rows k
      have hT1 := joinP_take_le rows (k + 1)
      have hts := joinP_take_succ rows k hlt
      obtain ⟨x, hx⟩ : ∃ x, x = rows[k] := ⟨_, rfl⟩
      rw [← hx] at hua hts
      have hlen : (joinP (rows.take (k + 1))).length = (joinP (rows.take k)).length + 8 + x.length := by rw [hts, List.length_append, List.length_append, be8_length]
      obtain ⟨J, hJ⟩ : ∃ J, J = joinP (rows.take k) := ⟨_, rfl⟩
      rw [← hJ] at ho hT hts hlen
      obtain ⟨J', hJ'⟩ : ∃ J', J' = joinP (rows.take (k + 1)) := ⟨_, rfl⟩
      rw [← hJ'] at hT1 hts hlen
      have hB8 := HB8.out
      have hx2 := hua.2
      obtain ⟨Ax, cx, rfl⟩ := hua.form
      have happ := append64_any _ _ (B0 ++ J) x.length (by omega) ho (by rw [List.length_append]; omega)
      obtain ⟨E, hE⟩ : ∃ E, E = B0 ++ J ++ Lib.beBytes 8 x.length := ⟨_, rfl⟩
      rw [← hE] at happ
      have HE := Lib.hid hE
      have HAPP := Lib.hid happ
      have HUA := Lib.hid hua
      have HV := Lib.hid hv
      have HTS := Lib.hid hts
      have hw := u64_wrap_nat x.length (by omega)
      have hlb : E.length + x.length ≤ 140737488355328 := by rw [hE, List.length_append, List.length_append, Lib.beBytes_length]; omega
      have HLB := Lib.hid hlb
      clear happ hE hua hv hts ho hx hJ hlen hT hT1 hx2 hB8 hlb
      go_wp2_with fail
      refine HAPP.out.mono ?_
      rintro e w2 ⟨v2, rfl, ho2, hc2, hv2⟩
      have hb2 := hbl.trans (hc2.below hbl.size fun b h => HV.out b h)
      have hua2 := HUA.out.chg hc2 (fun b hb h => by have h1 := hS b hb; have h2 := HV.out b h; omega)
      have hv2' : ∀ b, v2.ownBlock = some b → w.heap.size ≤ b := fun b hb => hv2.elim (fun h => HV.out b (h ▸ hb)) fun ⟨j, h1, h2⟩ => by rw [h1] at hb; injection hb with hb; have := hbl.size; omega
      have HO2 := Lib.hid ho2
      have HU2 := Lib.hid hua2
      have HV2 := Lib.hid hv2'
      obtain ⟨A2, c2, rfl⟩ := ho2.form
      clear ho2 hua2 hv2 hv2' hc2 HAPP HUA hw
      go_wp2_with (at_builtin; refine wpList_app _ rfl _ _ _ rfl Tryz.underlying77 info_u8 rfl (by decide) HO2.out rfl HU2.out.1 rfl (u8s_one _) (by have := HLB.out; simp only [maxLen]; omega) (by have := HLB.out; omega) ?_; intro v3 w3 ho3 hg3 hnil3 hat3; clear hnil3; have HO3 := Lib.hid ho3; clear ho3; have HG3 := Lib.hid hg3; clear hg3; have HAT3 := Lib.hid hat3; clear hat3)
      have hgo : ∀ b, v3.ownBlock = some b → w.heap.size ≤ b := fun b hb => HAT3.out.elim (fun h => HV2.out b (h ▸ hb)) fun h => by rw [h] at hb; injection hb with hb; have := hb2.size; omega
      have ho4 : Own w3 5 1 v3 (B0 ++ J').length (u8s (B0 ++ J')) := by
        have h1 := HO3.out
        have h2 : u8s E ++ u8s x = u8s (B0 ++ J') := by rw [HTS.out, HE.out]; simp [u8s, be8]
        have h3 : E.length + x.length = (B0 ++ J').length := by rw [HTS.out, HE.out]; simp [be8]; omega
        rw [h2, h3] at h1
        exact h1
      refine ⟨⟨k + 1, by omega, by push_cast; rfl, hJ' ▸ ho4, hgo, hb2.trans (HG3.out.below hb2.size fun b h => HV2.out b h)⟩, ?_⟩
      simp only [intOf]
      omega
    · have hk' : k = rows.length := by omega
      rw [hk', List.take_length] at ho
      have HO := Lib.hid ho
      have HV := Lib.hid hv
      clear ho hv
      go_wp2_with fail
      go_ret
      have h1 := HO.out
      have h2 : B0 ++ joinP rows = joinB rows := by rw [HB0.out]; rfl
      rw [h2] at h1
      exact ⟨_, rfl, Fresh.of_own h1 hbl HV.out (by rw [joinB_length]; omega)⟩
end
section
open Go.RowKit
section
variable {P : Program} (w : World)
theorem Own.short {w : World} {e : TypeId} {size g n cap : Nat} {xs : List Value} (h : Own w e size (.slice (some ⟨g, 0, none⟩) n cap) n xs) {k : Nat} (hk : k ≤ n) :
    Own w e size (.slice (some ⟨g, 0, none⟩) k cap) k (xs.take (k * size)) := by
  obtain ⟨h1, h2⟩ := h
  have hle : k * size ≤ n * size := Nat.mul_le_mul_right _ hk
  refine ⟨by rw [List.length_take, h1]; omega, ?_⟩
  rcases h2 with ⟨h, _⟩ | ⟨g', cap', cur, h, hb, hh, hnc, hcm, hcs, htake⟩
  · cases h
  · simp only [Value.slice.injEq, Option.some.injEq, Addr.mk.injEq, and_true, true_and] at h
    obtain ⟨rfl, rfl⟩ := h
    refine Or.inr ⟨g, cap, cur, rfl, hb, hh, by omega, hcm, hcs, ?_⟩
    rw [← htake, List.take_take, Nat.min_eq_left hle]
theorem Own.cap_le {w : World} {e : TypeId} {size n : Nat} {A : Option Addr} {cap : Nat} {xs : List Value} (h : Own w e size (.slice A n cap) n xs) : n ≤ cap ∧ cap ≤ maxLen := by
  obtain ⟨_, h2⟩ := h
  rcases h2 with ⟨h, h0⟩ | ⟨g', cap', cur, h, hb, hh, hnc, hcm, hcs, htake⟩
  · simp only [Value.slice.injEq] at h; simp only [maxLen]; omega
  · simp only [Value.slice.injEq] at h; obtain ⟨_, _, rfl⟩ := h; exact ⟨hnc, hcm⟩
theorem run_fits {t ty e : TypeId} {z : Option Value} {size bytes : Nat} (ht : P.underlying t = some (.slice e)) (hinfo : (P.info? e).map (fun i => (i.zero, i.size, i.bytes)) = some (z, size, bytes))
    {g n cap : Nat} {xs : List Value} (hown : Own w e size (.slice (some ⟨g, 0, none⟩) n cap) n xs) {S : Nat → Prop} {src : Value} {m : Nat} {news : List Value} (hr : Cs w S size src m news) (h1 : ∀ u ∈ news, u.oneCell' = true)
    (hroom : n + m ≤ cap) :
    ∃ w', (Builtin.append_ #[t, t] ty #[.slice (some ⟨g, 0, none⟩) n cap, src]).run P w = .ok (.slice (some ⟨g, 0, none⟩) (n + m) cap) w' ∧
      Own w' e size (.slice (some ⟨g, 0, none⟩) (n + m) cap) (n + m) (xs ++ news) ∧ Chg (fun b => b = g) w w' := by
  obtain ⟨i0, hi, hz1⟩ : ∃ i0, P.info? e = some i0 ∧ i0.size = size := by
    cases h : P.info? e with
    | none => rw [h] at hinfo; cases hinfo
    | some i0 => rw [h] at hinfo; simp only [Option.map_some, Option.some.injEq, Prod.mk.injEq] at hinfo; exact ⟨i0, rfl, hinfo.2.1⟩
  obtain ⟨hl, A, c, rfl, hn, hc, hp⟩ := hr
  rcases A with _ | ad
  · have hm : m = 0 := by
      rcases Nat.eq_zero_or_pos m with h0 | h0
      · exact h0
      · obtain ⟨b, off, h, _⟩ := hp h0
        cases h
    subst hm
    obtain rfl : news = [] := List.eq_nil_of_length_eq_zero (by simpa using hl)
    exact ⟨w, run_append_of_nil w t ty e i0 size ht hi _ n xs hown c, by simpa using hown, Chg.refl _ w⟩
  · have hcells : ∀ j u, news[j]? = some u → w.cell? (ad.add j) = some u := by
      intro j u hu
      rcases Nat.eq_zero_or_pos m with h0 | h0
      · subst h0
        obtain rfl : news = [] := List.eq_nil_of_length_eq_zero (by simpa using hl)
        simp at hu
      · obtain ⟨b, off, h, _, _, hcell⟩ := hp h0
        obtain rfl : ad = ⟨b, off, none⟩ := by injection h
        rw [add_plain]
        exact hcell j u hu
    obtain ⟨w', hrun, h2, h3⟩ := run_append_fits (P := P) w 0 t ty e i0 size ht hi hz1 g n cap xs hown ad m c news hl hcells h1 hroom
    exact ⟨w', hrun, h2, ⟨h3.os, h3.tape, h3.output, h3.size, fun k hk hne => h3.block k hk (fun e => hne (by injection e))⟩⟩
theorem wp_fits {o : Oper} {a : Act} {K : Act → World → Prop} {Q : Exit → Act → World → Prop} (s x : Operand) (t : TypeId)
    (ho : o.op = .call { callee := .builtin .append, args := #[s, x], argTypes := #[t, t] }) {e : TypeId} {z : Option Value} {size bytes : Nat} (ht : P.underlying t = some (.slice e))
    (hinfo : (P.info? e).map (fun i => (i.zero, i.size, i.bytes)) = some (z, size, bytes))
    {g n cap : Nat} {xs : List Value} (hown : Own w e size (.slice (some ⟨g, 0, none⟩) n cap) n xs) (hs : a.eval s = .slice (some ⟨g, 0, none⟩) n cap) {S : Nat → Prop} {src : Value} {m : Nat} {news : List Value} (hr : Cs w S size src m news) (hx : a.eval x = src)
    (h1 : ∀ u ∈ news, u.oneCell' = true) (hroom : n + m ≤ cap)
    (h : ∀ w', Own w' e size (.slice (some ⟨g, 0, none⟩) (n + m) cap) (n + m) (xs ++ news) → Chg (fun b => b = g) w w' → K (a.put o.dst (.slice (some ⟨g, 0, none⟩) (n + m) cap)) w') : o.wp P a w K Q := by
  obtain ⟨w', hrun, h2, h3⟩ := run_fits (P := P) w (ty := o.type) ht hinfo hown hr h1 hroom
  unfold Oper.wp execOp
  simp only [ho, resolve, invoke, builtin, Sem.run_bind, Sem.run_pure, Result.andThen_ok, List.map_toArray, List.map_cons, List.map_nil, hs, hx, hrun]
  exact h w' h2 h3
theorem step_fits {ops : Array Oper} {o : Oper} {a : Act} {K : Act → World → Prop} {Q : Exit → Act → World → Prop} {E : Prop} (hgd : o.guard = none) (s x : Operand) (t : TypeId)
    (ho : o.op = .call { callee := .builtin .append, args := #[s, x], argTypes := #[t, t] }) {e : TypeId} {z : Option Value} {size bytes : Nat} (ht : P.underlying t = some (.slice e))
    (hinfo : (P.info? e).map (fun i => (i.zero, i.size, i.bytes)) = some (z, size, bytes))
    {g n cap : Nat} {xs : List Value} (hown : Own w e size (.slice (some ⟨g, 0, none⟩) n cap) n xs) (hs : a.eval s = .slice (some ⟨g, 0, none⟩) n cap) {S : Nat → Prop} {src : Value} {m : Nat} {news : List Value} (hr : Cs w S size src m news) (hx : a.eval x = src)
    (h1 : ∀ u ∈ news, u.oneCell' = true) (hroom : n + m ≤ cap)
    (h : ∀ w', Own w' e size (.slice (some ⟨g, 0, none⟩) (n + m) cap) (n + m) (xs ++ news) → Chg (fun b => b = g) w w' → K (a.put o.dst (.slice (some ⟨g, 0, none⟩) (n + m) cap)) w') :
    if Region.wanted o (yielded ops a.tmps) = true then Oper.wp P o a w K Q else E := by
  have hw : Region.wanted o (yielded ops a.tmps) = true := by simp [Region.wanted, hgd]
  rw [if_pos hw]
  exact wp_fits w s x t ho ht hinfo hown hs hr hx h1 hroom h
theorem run_clear_tail {t ty e : TypeId} {z : Value} {size : Nat} (ht : P.underlying t = some (.slice e)) (hv : ∀ w, (zeroValue e).run P w = .ok z w) (hzs : z.cells.size = size) (hz1 : z.cells.toList.all (·.oneCell') = true) (hs0 : 0 < size)
    {g n cap : Nat} {xs : List Value} (hown : Own w e size (.slice (some ⟨g, 0, none⟩) n cap) n xs) (o k c : Nat) (hk : 0 < k) (ho : n * size ≤ o) (hfit : o + k * size ≤ cap * size) :
    ∃ w', (Builtin.clear_ #[t] ty #[.slice (some ⟨g, o, none⟩) k c]).run P w = .ok (.tuple #[]) w' ∧ Own w' e size (.slice (some ⟨g, 0, none⟩) n cap) n xs ∧ Chg (fun b => b = g) w w' := by
  obtain ⟨hl, h2⟩ := hown
  rcases h2 with ⟨h, _⟩ | ⟨g', cap', cur, h, hb, hh, hnc, hcm, hcs, htake⟩
  · cases h
  simp only [Value.slice.injEq, Option.some.injEq, Addr.mk.injEq, and_true, true_and] at h
  obtain ⟨rfl, rfl⟩ := h
  have hzl : (Builtin.zeroCells z.cells k).toList.length = k * size := by rw [Array.length_toList, size_zeroCells, hzs]
  have hone : ∀ v ∈ (Builtin.zeroCells z.cells k).toList, v.oneCell' = true := by
    intro v hv'
    simp only [Builtin.zeroCells, Array.toList_map, List.mem_map] at hv'
    obtain ⟨i, _, rfl⟩ := hv'
    have hi : i % z.cells.size < z.cells.size := Nat.mod_lt _ (by omega)
    rw [getElem!_pos z.cells (i % z.cells.size) hi]
    exact List.all_eq_true.1 hz1 _ (by simp)
  have hst := run_storeCells_at P g o e (Builtin.zeroCells z.cells k).toList 0 cur w hh (by rw [hzl]; omega) hone
  obtain ⟨k', rfl⟩ : ∃ k', k = k' + 1 := ⟨k - 1, by omega⟩
  simp only [Nat.add_zero] at hst
  refine ⟨w.setRow g (cur.toList.take o ++ (Builtin.zeroCells z.cells (k' + 1)).toList ++ cur.toList.drop (o + (Builtin.zeroCells z.cells (k' + 1)).toList.length)).toArray,
    by simp [Builtin.clear_, run_underlying ht, hv, hst], ⟨hl, Or.inr ⟨g, cap, _, rfl, hb, setRow_heap w g cur _ e _ hh, hnc, hcm, ?_, ?_⟩⟩,
    ⟨rfl, rfl, rfl, by simp, fun i hi hne => setRow_other w g i _ hne⟩⟩
  · simp only [List.size_toArray, List.length_append, List.length_take, List.length_drop, Array.length_toList] at hzl ⊢
    rw [hzl]; omega
  · rw [← htake]
    simp only [List.append_assoc]
    rw [List.take_append_of_le_length (by rw [List.length_take, Array.length_toList]; omega), List.take_take, Nat.min_eq_left ho]
end
end
section
open Go.RowKit
section
variable {P : Program} {ops : Array Oper} {Q : Exit → Act → World → Prop} {S : World → Prop} {late : List Nat}
def AnyS (P : Program) (ops : Array Oper) (Q : Exit → Act → World → Prop) (S : World → Prop) (late : List Nat) : Nat → Array Bool → Act → World → Prop
  | 0, listed, a, w => Region.ready .any ops listed = [] ∧ Q .normal a w
  | n + 1, listed, a, w => (Region.ready .any ops listed = [] → Q .normal a w) ∧
      ∀ i ∈ Region.ready .any ops listed, wpOp P ops Q i (fun a' w' => (late.contains i = false → S w') ∧ AnyS P ops Q S late n (listed.setIfInBounds i true) a' w') a w
theorem AnyS.any : ∀ (n : Nat) (listed : Array Bool) (a : Act) (w : World), AnyS P ops Q S late n listed a w → wpAny P .any ops Q n listed a w
  | 0, _, _, _, h => h
  | n + 1, _, _, _, h => ⟨h.1, fun i hi => wpOp_mono (fun a' w' h' => AnyS.any n _ a' w' h'.2) (h.2 i hi)⟩
def waits (ops : Array Oper) (i : Nat) : Nat → Nat → Bool
  | 0, _ => false
  | n + 1, j => ((ops[j]?).map fun o => o.after.any fun e => Region.binds .any e && (e.on == i || waits ops i n e.on)).getD false
def Closed (ops : Array Oper) (listed : Array Bool) : Prop := ∀ (k : Nat) (o : Oper), listed.getD k false = true → ops[k]? = some o → ∀ e ∈ o.after, Region.binds .any e = true → listed.getD e.on false = true
theorem Closed.start (n : Nat) : Closed ops (Array.replicate n false) := by
  intro k o h
  simp only [Array.getD_eq_getD_getElem?, Array.getElem?_replicate] at h
  split at h <;> simp at h
theorem Closed.more {listed : Array Bool} (h : Closed ops listed) {j : Nat} (hj : j ∈ Region.ready .any ops listed) : Closed ops (listed.setIfInBounds j true) := by
  intro k o hk ho e he hb
  by_cases hjk : j = k
  · subst hjk
    obtain ⟨_, o', ho', hall⟩ := mem_ready.1 hj
    rw [ho] at ho'
    obtain rfl : o = o' := by injection ho'
    exact getD_set_true (hall e he hb)
  · rw [getD_set_ne false hjk] at hk
    exact getD_set_true (h k o hk ho e he hb)
theorem Closed.waits {listed : Array Bool} (h : Closed ops listed) {i : Nat} : ∀ (n j : Nat), waits ops i n j = true → (∀ o, ops[j]? = some o → ∀ e ∈ o.after, Region.binds .any e = true → listed.getD e.on false = true) → listed.getD i false = true
  | 0, j, hw, _ => by simp [Go.Proofs.YtkclkmjlodomkaaGreatDoor.waits] at hw
  | n + 1, j, hw, hj => by
    cases ho : ops[j]? with
    | none => simp [Go.Proofs.YtkclkmjlodomkaaGreatDoor.waits, ho] at hw
    | some o =>
      simp only [Go.Proofs.YtkclkmjlodomkaaGreatDoor.waits, ho, Option.map_some, Option.getD_some] at hw
      obtain ⟨e, he, hb⟩ := Array.any_eq_true'.1 hw
      simp only [Bool.and_eq_true, Bool.or_eq_true, beq_iff_eq] at hb
      have hl := hj o ho e he hb.1
      rcases hb.2 with rfl | hb2
      · exact hl
      · exact Closed.waits h n e.on hb2 (fun o' ho' e' he' hb' => h e.on o' hl ho' e' he' hb')
theorem AnyS.first {i : Nat} {oi : Oper} {v : Value} (hi : ops[i]? = some oi) (hsel : Region.noSelect ops = true)
    (hQ : ∀ c a w, Q (.panic c) (a.put oi.dst v) w → Q (.panic c) a w) (hlate : late.all (waits ops i ops.size) = true) (n : Nat) :
    ∀ (listed : Array Bool) (a : Act) (w : World), Closed ops listed → Region.free .any ops listed i = true → i ∈ Region.ready .any ops listed → YieldsIf P ops S oi v a → S w →
      AnyS P ops Q S late n (listed.setIfInBounds i true) (a.put oi.dst v) w → AnyS P ops Q S late (n + 1) listed a w := by
  have key : ∀ (n : Nat) (listed : Array Bool) (a : Act) (w : World), Closed ops listed →
      (∀ j oj, ops[j]? = some oj → j ≠ i → listed.getD j true = false → (∀ e ∈ oj.after, Region.binds .any e = true → e.on ≠ i) → oi.apart ops oj = true) →
      i ∈ Region.ready .any ops listed → YieldsIf P ops S oi v a → S w →
      AnyS P ops Q S late n (listed.setIfInBounds i true) (a.put oi.dst v) w → AnyS P ops Q S late (n + 1) listed a w := by
    intro n
    induction n with
    | zero =>
      intro listed a w _ _ hr hy hS H
      refine ⟨fun h => (by rw [h] at hr; cases hr), fun j hj => ?_⟩
      by_cases e : j = i
      · subst e
        exact hy.wpOp hi hS ⟨fun _ => hS, H⟩
      · have hm := ready_mono hj e
        rw [H.1] at hm
        cases hm
    | succ n ih =>
      intro listed a w hcl hap hr hy hS H
      refine ⟨fun h => (by rw [h] at hr; cases hr), fun j hj => ?_⟩
      by_cases e : j = i
      · subst e
        exact hy.wpOp hi hS ⟨fun _ => hS, H⟩
      obtain ⟨hun, oj, hoj, hall⟩ := mem_ready.1 hj
      have hi0 := (mem_ready.1 hr).1
      have hif : listed.getD i false = false := by
        rcases Nat.lt_or_ge i listed.size with h' | h'
        · simpa [h'] using hi0
        · simp [Array.getElem?_eq_none h']
      have hno : ∀ ed ∈ oj.after, Region.binds .any ed = true → ed.on ≠ i := by
        intro ed he hb hq
        have h1 := hall ed he hb
        rw [hq, hif] at h1
        cases h1
      have hnl : late.contains j = false := by
        cases hc : late.contains j with
        | false => rfl
        | true =>
          have hw := List.all_eq_true.1 hlate j (by simpa using hc)
          have := hcl.waits _ _ hw (fun o ho => by
            rw [hoj] at ho
            obtain rfl : oj = o := by injection ho
            exact hall)
          rw [hif] at this
          cases this
      have h2 := wpOp_putIf hoj (hap j oj hoj e hun hno) (fun cs b => Region.noSelect_spec hsel i oi cs b hi) (fun cs b => Region.noSelect_spec hsel j oj cs b hoj) hQ hy (H.2 j (ready_mono hj e))
      refine wpOp_mono (fun a' w' h3 => ?_) h2
      have hS' := h3.2.1 hnl
      refine ⟨fun _ => hS', ih (listed.setIfInBounds j true) a' w' (hcl.more hj) ?_ (ready_mono hr (Ne.symm e)) h3.1 hS' ?_⟩
      · intro k ok hk hki hkun hkno
        by_cases hjk : j = k
        · subst hjk
          exact hap j ok hk hki hun hkno
        · rw [getD_set_ne true hjk] at hkun
          exact hap k ok hk hki hkun hkno
      · rw [Array.setIfInBounds_comm _ _ e]
        exact h3.2.2
  intro listed a w hcl hf
  exact key n listed a w hcl (Region.free_spec hi hf)
def Hoisted (P : Program) (ops : Array Oper) (S : World → Prop) : List Nat → Act → Act → Prop
  | [], a, a' => a = a'
  | i :: r, a, a' => ∃ o v, ops[i]? = some o ∧ YieldsIf P ops S o v a ∧ Hoisted P ops S r (a.put o.dst v) a'
theorem Hoisted.nil_ {a : Act} : Hoisted P ops S [] a a := rfl
theorem Hoisted.yes {i : Nat} {r : List Nat} {a a' : Act} {o : Oper} {v : Value} (hi : ops[i]? = some o) (hw : Region.wanted o (yielded ops a.tmps) = true)
    (hv : ∀ w, S w → (execOp a.eval o).run P w = .ok (.value v) w) (h : Hoisted P ops S r (a.put o.dst v) a') : Hoisted P ops S (i :: r) a a' := ⟨o, v, hi, .inl ⟨hw, hv⟩, h⟩
theorem Hoisted.no {i : Nat} {r : List Nat} {a a' : Act} {o : Oper} (hi : ops[i]? = some o) (hw : Region.wanted o (yielded ops a.tmps) = false)
    (h : Hoisted P ops S r (a.put o.dst undef) a') : Hoisted P ops S (i :: r) a a' := ⟨o, undef, hi, .inr ⟨hw, rfl⟩, h⟩
def HoistK (P : Program) (ops : Array Oper) (S : World → Prop) : List Nat → Act → (Act → Prop) → Prop
  | [], a, K => K a
  | i :: r, a, K => ∃ o v, ops[i]? = some o ∧ YieldsIf P ops S o v a ∧ HoistK P ops S r (a.put o.dst v) K
theorem HoistK.out : ∀ (r : List Nat) (a : Act) (K : Act → Prop), HoistK P ops S r a K → ∃ a', Hoisted P ops S r a a' ∧ K a'
  | [], a, _, h => ⟨a, rfl, h⟩
  | _ :: r, _, K, ⟨o, v, hi, hy, h⟩ => let ⟨a', h1, h2⟩ := HoistK.out r _ K h; ⟨a', ⟨o, v, hi, hy, h1⟩, h2⟩
theorem HoistK.nil_ {a : Act} {K : Act → Prop} (h : K a) : HoistK P ops S [] a K := h
theorem HoistK.yes {i : Nat} {r : List Nat} {a : Act} {K : Act → Prop} {o : Oper} (hi : ops[i]? = some o) (hw : Region.wanted o (yielded ops a.tmps) = true)
    (h : ∃ v, (∀ w, S w → (execOp a.eval o).run P w = .ok (.value v) w) ∧ HoistK P ops S r (a.put o.dst v) K) : HoistK P ops S (i :: r) a K :=
  let ⟨v, hv, h⟩ := h; ⟨o, v, hi, .inl ⟨hw, hv⟩, h⟩
theorem HoistK.no {i : Nat} {r : List Nat} {a : Act} {K : Act → Prop} {o : Oper} (hi : ops[i]? = some o) (hw : Region.wanted o (yielded ops a.tmps) = false)
    (h : HoistK P ops S r (a.put o.dst undef) K) : HoistK P ops S (i :: r) a K := ⟨o, undef, hi, .inr ⟨hw, rfl⟩, h⟩
def hoistOk (ops : Array Oper) (late : List Nat) : List Nat → Array Bool → Bool
  | [], _ => true
  | i :: r, listed => Region.free .any ops listed i && (Region.ready .any ops listed).contains i && late.all (waits ops i ops.size) && hoistOk ops late r (listed.setIfInBounds i true)
def listedBy (r : List Nat) (listed : Array Bool) : Array Bool := r.foldl (fun l i => l.setIfInBounds i true) listed
theorem AnyS.hoist (hsel : Region.noSelect ops = true) {a' : Act} {w : World} (hS : S w) : ∀ (r : List Nat) (n : Nat) (listed : Array Bool) (a : Act), Closed ops listed → hoistOk ops late r listed = true →
    Hoisted P ops S r a a' → AnyS P ops (NoPanic Q) S late n (listedBy r listed) a' w → AnyS P ops (NoPanic Q) S late (r.length + n) listed a w
  | [], n, listed, a, _, _, hh, h => by
    have e : a = a' := hh
    subst e
    simpa [listedBy] using h
  | i :: r, n, listed, a, hcl, hok, hh, h => by
    obtain ⟨o, v, hi, hy, hh⟩ := hh
    simp only [hoistOk, Bool.and_eq_true] at hok
    obtain ⟨⟨⟨hf, hr⟩, hl⟩, hok⟩ := hok
    have := AnyS.first (Q := NoPanic Q) hi hsel (fun c a w h => h.elim) hl (r.length + n) listed a w hcl hf (by simpa using hr) hy hS (AnyS.hoist hsel hS r n _ _ (hcl.more (by simpa using hr)) hok hh h)
    rw [show (i :: r).length + n = r.length + n + 1 from by simp; omega]
    exact this
def Effects (P : Program) (ops : Array Oper) (Q : Exit → Act → World → Prop) (S : World → Prop) : List Oper → List Oper → Act → World → Prop
  | [], T, a, w => wpList P ops Q T a w
  | o :: r, T, a, w => wpList P ops (Exit.then (fun a' w' => S w' ∧ Effects P ops Q S r T a' w') Q) [o] a w
theorem Effects.nil_ {T : List Oper} {a : Act} {w : World} (h : ∀ Q' : Exit → Act → World → Prop, (∀ a w, Q .normal a w → Q' .normal a w) → wpList P ops Q' T a w) : Effects P ops (NoPanic Q) S [] T a w :=
  h _ fun _ _ h => h
theorem Effects.cons_ {o : Oper} {r T : List Oper} {a : Act} {w : World} (h : ∀ Q' : Exit → Act → World → Prop, (∀ a w, S w → Effects P ops Q S r T a w → Q' .normal a w) → wpList P ops Q' [o] a w) : Effects P ops Q S (o :: r) T a w :=
  h _ fun _ _ hs he => ⟨hs, he⟩
def chainOk (ops : Array Oper) : List Nat → Array Bool → Bool
  | [], listed => (Region.ready .any ops listed).isEmpty
  | i :: r, listed => (Region.ready .any ops listed == [i]) && chainOk ops r (listed.setIfInBounds i true)
def opsAt (ops : Array Oper) (r : List Nat) : List Oper := r.filterMap (ops[·]?)
theorem wpList_one {o : Oper} {K : Act → World → Prop} {a : Act} {w : World} {i : Nat} (hi : ops[i]? = some o) (h : wpList P ops (Exit.then K Q) [o] a w) (hout : LetsOut (Exit.then K Q) → LetsOut Q)
    (hp : ∀ c a w, Exit.then K Q (.panic c) a w → Q (.panic c) a w) : wpOp P ops Q i K a w := by
  unfold wpOp
  simp only [hi]
  unfold wpList at h
  split at h
  · rename_i hw
    rw [if_pos hw]
    rcases h with h | ⟨h1, h2⟩
    · refine .inl ?_
      unfold Oper.wp at h ⊢
      generalize (execOp a.eval o).run P w = r at h
      cases r with
      | ok nx w' =>
        cases nx <;> simp only [Oper.upon] at h ⊢
        case value v => exact h
        case skip => exact h
        case defer d => exact h
        case enter f args =>
          refine Calls.mono h fun e w'' he => ?_
          cases e with
          | returned v => exact he
          | panicked c => exact hp _ _ _ he
          | outgrown => exact hout he
        case row row args => exact Rows.mono h fun v w'' he => he
      | halt x w' =>
        cases x <;> simp only [Oper.upon] at h ⊢
        case panic v => exact hp _ _ _ h
    · exact .inr ⟨h1, hout h2⟩
  · rename_i hw
    rw [if_neg hw]
    exact h
theorem AnyS.chain (T : List Nat) (hT : T.all (fun i => decide (i ∈ late)) = true) : ∀ (E : List Nat) (listed : Array Bool) (a : Act) (w : World), chainOk ops (E ++ T) listed = true → (E ++ T).all (fun i => (ops[i]?).isSome) = true →
    Effects P ops (NoPanic Q) S (opsAt ops E) (opsAt ops T) a w → AnyS P ops (NoPanic Q) S late (E ++ T).length listed a w := by
  have tail : ∀ (T : List Nat), T.all (fun i => decide (i ∈ late)) = true → ∀ (listed : Array Bool) (a : Act) (w : World), chainOk ops T listed = true → T.all (fun i => (ops[i]?).isSome) = true →
      wpList P ops (NoPanic Q) (opsAt ops T) a w → AnyS P ops (NoPanic Q) S late T.length listed a w := by
    intro T
    induction T with
    | nil =>
      intro _ listed a w hc _ h
      exact ⟨by simpa [chainOk] using hc, h⟩
    | cons i r ih =>
      intro hl listed a w hc hs h
      simp only [List.all_cons, Bool.and_eq_true, decide_eq_true_eq] at hl hs
      simp only [chainOk, Bool.and_eq_true, beq_iff_eq] at hc
      obtain ⟨o, ho⟩ := Option.isSome_iff_exists.1 hs.1
      refine ⟨fun h0 => (by rw [hc.1] at h0; cases h0), fun j hj => ?_⟩
      rw [hc.1] at hj
      obtain rfl : j = i := by simpa using hj
      have hops : opsAt ops (j :: r) = o :: opsAt ops r := by simp [opsAt, ho]
      rw [hops] at h
      unfold wpOp
      simp only [ho]
      unfold wpList at h
      have go : ∀ a w, wpList P ops (NoPanic Q) (opsAt ops r) a w → (late.contains j = false → S w) ∧ AnyS P ops (NoPanic Q) S late r.length (listed.setIfInBounds j true) a w :=
        fun a w h => ⟨fun hn => (by rw [List.contains_iff_mem.2 hl.1] at hn; cases hn), ih hl.2 _ _ _ hc.2 hs.2 h⟩
      split at h
      · rename_i hw
        rw [if_pos hw]
        exact h.imp (Oper.wp_mono go) id
      · rename_i hw
        rw [if_neg hw]
        exact go _ _ h
  intro E
  induction E with
  | nil =>
    intro listed a w hc hs h
    simpa using tail T hT listed a w (by simpa using hc) (by simpa using hs) h
  | cons i r ih =>
    intro listed a w hc hs h
    simp only [List.cons_append, List.all_cons, Bool.and_eq_true] at hs
    simp only [List.cons_append, chainOk, Bool.and_eq_true, beq_iff_eq] at hc
    obtain ⟨o, ho⟩ := Option.isSome_iff_exists.1 hs.1
    refine ⟨fun h0 => (by rw [hc.1] at h0; cases h0), fun j hj => ?_⟩
    rw [hc.1] at hj
    obtain rfl : j = i := by simpa using hj
    have hops : opsAt ops (j :: r) = o :: opsAt ops r := by simp [opsAt, ho]
    rw [hops] at h
    refine wpOp_mono (fun a' w' h' => ⟨fun _ => h'.1, ih _ _ _ hc.2 hs.2 h'.2⟩) (wpList_one ho h (fun h => h) (fun _ _ _ h => h))
theorem wp_region_hoist {id : Nat} {a : Act} {w : World} (H E T : List Nat) (S : World → Prop) (hm : P.follows .mixedOrders = true)
    (hsel : Region.noSelect ops = true) (hall : (H ++ (E ++ T)).length = ops.size) (hok : hoistOk ops T H (Array.replicate ops.size false) = true)
    (hch : chainOk ops (E ++ T) (listedBy H (Array.replicate ops.size false)) = true) (hsome : (E ++ T).all (fun i => (ops[i]?).isSome) = true)
    (hS : S w.drew) (hH : HoistK P ops S H a fun a' => Effects P ops (NoPanic Q) S (opsAt ops E) (opsAt ops T) a' w.drew) : (Code.region id ops true).wp P Q a w := by
  obtain ⟨a', hH, h⟩ := HoistK.out _ _ _ hH
  have hfin := AnyS.hoist (Q := Q) (late := T) hsel hS H _ _ a (Closed.start _) hok hH (AnyS.chain T (List.all_eq_true.2 fun i hi => by simpa using hi) E _ _ _ hch hsome h)
  rw [← List.length_append, hall] at hfin
  exact wp_region_noPanic (wp_region_any hm (AnyS.any (S := S) (late := T) _ _ _ _ hfin))
end
end
section
open Go.RowKit
theorem HoistK.load {P : Program} {ops : Array Oper} {S : World → Prop} {i : Nat} {r : List Nat} {a : Act} {K : Act → Prop} {o : Oper} (hi : ops[i]? = some o) (hw : Region.wanted o (yielded ops a.tmps) = true)
    (ty : TypeId) (x : Operand) (ho : o.op = .load ty x) (b off : Nat) (hx : a.eval x = .pointer (some ⟨b, off, none⟩)) (cs : List Value) (d : TypeDesc) (hS : ∀ w, S w → w.rangeAt b off cs)
    (hu : P.underlying ty = some d) (hd : d.isRow = true) (hinfo : (P.info? ty).map (·.size) = some cs.length) (h : HoistK P ops S r (a.put o.dst (.agg cs.toArray)) K) : HoistK P ops S (i :: r) a K :=
  ⟨o, _, hi, yieldsIf_load_mid hw ty x ho b off hx cs d hS hu hd hinfo, h⟩
theorem HoistK.build {P : Program} {ops : Array Oper} {S : World → Prop} {i : Nat} {r : List Nat} {a : Act} {K : Act → Prop} {o : Oper} (hi : ops[i]? = some o) (hw : Region.wanted o (yielded ops a.tmps) = true)
    (ty : TypeId) (parts : Array (Nat × Operand)) (ho : o.op = .build ty parts) (ps : Array (Nat × Value)) (hp : (parts.map fun (i, x) => (i, a.eval x)) = ps) (v : Value) (hb : ∀ w, (Instr.build ty ps).run P w = .ok v w) (h : HoistK P ops S r (a.put o.dst v) K) : HoistK P ops S (i :: r) a K :=
  ⟨o, v, hi, .inl ⟨hw, fun w _ => by
    unfold execOp
    simp only [ho, hp, Sem.run_bind, hb, Sem.run_pure, Result.andThen_ok]⟩, h⟩
def Lies (w : World) (g : Nat) : Nat → List (List Value) → Prop
  | _, [] => True
  | o, c :: l => w.rangeAt g o c ∧ Lies w g (o + c.length) l
theorem Blk.lies {w : World} {g : Nat} {t : TypeId} {C : List Value} (h : Blk w g t C.toArray) : ∀ (l : List (List Value)) (pre : List Value), C = pre ++ l.flatten → Lies w g pre.length l
  | [], _, _ => trivial
  | c :: l, pre, hC => by
    refine ⟨fun j v hv => ?_, ?_⟩
    · rw [h.cell, hC]
      rw [getElem?_toArray, List.getElem?_append_right (by omega), Nat.add_sub_cancel_left, List.flatten_cons, List.getElem?_append_left (List.getElem?_eq_some_iff.1 hv).1]
      exact hv
    · have := Blk.lies h l (pre ++ c) (by rw [hC]; simp)
      rwa [List.length_append] at this
theorem Lies.one {w : World} {g o : Nat} {v : Value} (h : w.rangeAt g o [v]) : w.cell? ⟨g, o, none⟩ = some v := h 0 v rfl
end
section
open Go.RowKit Go.Maps
theorem fill_one1 {place : Nat → Option (Nat × Nat)} {cells : Array Value} {i : Nat} {v : Value} {rest : List (Nat × Value)} (hp : place i = some (i, 1)) (hs : v.cells = #[v]) (hb : i < cells.size) :
    Instr.fill place cells ((i, v) :: rest) = Instr.fill place (cells.setIfInBounds i v) rest := by
  have hb' : ¬ cells.size < i + 1 := by omega
  rw [Instr.fill, hp]
  simp [hs, hb']
theorem fill_row {place : Nat → Option (Nat × Nat)} (hpl : ∀ i, place i = some (i, 1)) : ∀ (vs old pre : List Value), old.length = vs.length → (∀ v ∈ vs, v.cells = #[v]) → Instr.fill place (pre ++ old).toArray ((vs.zipIdx pre.length).map fun x => (x.2, x.1)) = some (pre ++ vs).toArray
  | [], [], pre, _, _ => rfl
  | [], _ :: _, _, h, _ => by cases h
  | _ :: _, [], _, h, _ => by cases h
  | v :: vs, o :: old, pre, h, hc => by
    rw [List.zipIdx_cons, List.map_cons, fill_one1 (hpl _) (hc v (by simp)) (by simp)]
    have := fill_row hpl vs old (pre ++ [v]) (by simpa using h) fun u hu => hc u (by simp [hu])
    rw [List.length_append, List.length_singleton] at this
    rw [show ((pre ++ o :: old).toArray.setIfInBounds pre.length v) = ((pre ++ [v]) ++ old).toArray by simp, this]
    simp
theorem info_row : (Tryz.prog.info? 77).map (fun i => (i.zero, i.size, i.bytes)) = some (some (.slice none 0 0), 1, 24) := by kernel_rfl
theorem wpList_rows {ops : Array Oper} {rest : List Oper} {o : Oper} {a : Act} {w : World} {Q : Exit → Act → World → Prop} (hg : o.guard = none) (n : Nat) (parts : Array (Nat × Operand)) (ho : o.op = .buildSlice 107 n parts)
    (vs : List Value) (hvs : vs.length = n) (h0 : 0 < n) (hn : n ≤ 1000) (hc : ∀ v ∈ vs, v.cells = #[v]) (hp : (parts.map fun (i, x) => (i, a.eval x)).toList = (vs.zipIdx 0).map fun x => (x.2, x.1))
    (h : wpList Tryz.prog ops Q rest (a.put o.dst (.slice (some ⟨w.heap.size, 0, none⟩) n n)) (w.alloc (.cells vs.toArray 77))) : wpList Tryz.prog ops Q (o :: rest) a w := by
  obtain ⟨i0, hi, hz0, hz1, hz2⟩ := info_parts info_row
  refine wpList_buildSlice hg 107 77 n parts ho vs.toArray i0 _ Tryz.underlying107 hi hz0 (by rw [hz1]; omega) (by rw [hz1]; omega) ?_ h
  rw [hp]
  have := fill_row (place := fun i => some (i * i0.size, i0.size)) (fun i => by rw [hz1, Nat.mul_one]) vs ((Array.range (n * i0.size)).map ((Value.slice none 0 0).cells[· % (Value.slice none 0 0).cells.size]!)).toList [] (by rw [hz1]; simp [hvs]) hc
  rw [List.nil_append, Array.toArray_toList] at this
  exact this
def Got (w0 w : World) (vs : List Value) (rows : List (List UInt8)) : Prop := Below w0.heap.size w0 w ∧ Two (fun v x => Bs w (fun _ => True) v x) vs rows
theorem Got.start {w0 w : World} (h : Below w0.heap.size w0 w) : Got w0 w [] [] := ⟨h, .nil⟩
theorem Got.step {w0 w w' : World} {vs : List Value} {rows : List (List UInt8)} {v : Value} {x : List UInt8} (h : Got w0 w vs rows) (f : Fresh w w' v x) : Got w0 w' (vs ++ [v]) (rows ++ [x]) :=
  ⟨h.1.trans (f.2.mono h.1.size), (h.2.map fun _ _ k => k.below f.2).append (.cons (f.1.sub fun _ _ _ => trivial) .nil)⟩
theorem Got.old {w0 w : World} {S : Nat → Prop} {vs : List Value} {rows : List (List UInt8)} {v : Value} {x : List UInt8} (h : Got w0 w vs rows) (f : Bs w0 S v x) : Got w0 w (vs ++ [v]) (rows ++ [x]) :=
  ⟨h.1, h.2.append (.cons ((f.below h.1).sub fun _ _ _ => trivial) .nil)⟩
theorem Got.row {w0 w : World} {vs : List Value} {rows : List (List UInt8)} (h : Got w0 w vs rows) (hn : rows.length ≤ maxLen) (t : TypeId) :
    Bsr (w.alloc (.cells vs.toArray t)) (fun b => b < w.heap.size + 1) (.slice (some ⟨w.heap.size, 0, none⟩) rows.length rows.length) rows := by
  have hl : vs.length = rows.length := h.2.length
  have hb := (Below.refl w.heap.size w).alloc (Nat.le_refl _) (.cells vs.toArray t)
  refine ⟨vs, (Cs.of_new w t (size := 1) rows.length (cs := vs) (by omega) hn).sub fun b hb _ => by omega, fun i x u h1 h2 => ?_⟩
  have hi := (List.getElem?_eq_some_iff.1 h2).1
  obtain ⟨y, hy, hr⟩ := h.2.get i hi
  rw [h1] at hy
  injection hy with hy
  rw [List.getElem?_eq_getElem hi] at h2
  injection h2 with h2
  subst hy
  subst h2
  exact (hr.below hb).sub fun b _ hlt => by simpa using hlt
theorem nk_t : nk true = .i64 := rfl
theorem nk_f : nk false = .u64 := rfl
end
section
open Go.RowKit Go.Maps
theorem flatten_get {m : Nat} : ∀ (css : List (List Value)) (k : Nat) (c : List Value), (∀ c ∈ css, c.length = m) → css[k]? = some c → ∀ j, j < m → css.flatten[k * m + j]? = c[j]?
  | [], k, c, _, h, j, _ => by simp at h
  | d :: css, 0, c, hm, h, j, hj => by
    have hd : d = c := by simpa using h
    subst hd
    rw [List.flatten_cons, Nat.zero_mul, Nat.zero_add, List.getElem?_append_left (by rw [hm d (by simp)]; exact hj)]
  | d :: css, k + 1, c, hm, h, j, hj => by
    have hd := hm d (by simp)
    have := flatten_get css k c (fun c hc => hm c (by simp [hc])) (by simpa using h) j hj
    rw [List.flatten_cons, List.getElem?_append_right (by rw [hd, Nat.succ_mul]; omega), hd, ← this]
    congr 1
    rw [Nat.succ_mul]; omega
theorem Two.right {α β : Type} {R : α → β → Prop} {l : List α} {m : List β} (h : Two R l m) : ∀ b ∈ m, ∃ a, R a b := by
  induction h with
  | nil => intro b hb; cases hb
  | cons h _ ih => intro b hb; rcases List.mem_cons.1 hb with rfl | hb; exact ⟨_, h⟩; exact ih b hb
theorem list_at {w : World} {S : Nat → Prop} {s : Sh} {l : List s.El} {v : Value} (h : (Sh.list s).rep w S l [v]) : ∃ A cap, v = .slice A l.length cap ∧ l.length ≤ 9223372036854775807 ∧
    ∀ (k : Nat) (hk : k < l.length), ∃ b off c, A = some ⟨b, off, none⟩ ∧ w.rangeAt b (off + k * s.cells) c ∧ s.rep w S l[k] c ∧ c.length = s.cells ∧ b < w.heap.size ∧ S b := by
  obtain ⟨v', css, e, h1, h2⟩ := h
  have e : v = v' := by simpa using e
  subst e
  obtain ⟨hl, A, cap, rfl, hn, hc, hp⟩ := h1
  refine ⟨A, cap, rfl, by simp only [maxLen] at hc; exact Nat.le_trans hn hc, fun k hk => ?_⟩
  obtain ⟨b, off, rfl, hS, hlt, hcell⟩ := hp (Nat.lt_of_le_of_lt (Nat.zero_le _) hk)
  obtain ⟨c, hc1, hr⟩ := h2.get k hk
  have hcl := Sh.rep_size s _ _ hr
  refine ⟨b, off, c, rfl, fun j u hj => ?_, hr, hcl, hlt, hS⟩
  have hjl := (List.getElem?_eq_some_iff.1 hj).1
  have hf := flatten_get css k c (fun c hc => by obtain ⟨a, ha⟩ := h2.right c hc; exact Sh.rep_size s _ _ ha) hc1 j (by omega)
  rw [Nat.add_assoc]
  exact hcell _ u (by rw [hf]; exact hj)
end
section
open Go.RowKit Go.Maps
theorem Cs.sub' {w w' : World} {S T : Nat → Prop} {size n : Nat} {v : Value} {xs : List Value} (h : Cs w' S size v n xs) (h0 : Cs w S size v n xs) (hs : ∀ b, S b → b < w.heap.size → T b) : Cs w' T size v n xs := by
  obtain ⟨h1, A, cap, rfl, hn, hc, hp⟩ := h
  obtain ⟨_, A0, cap0, e, _, _, hp0⟩ := h0
  injection e with e
  subst e
  refine ⟨h1, A, cap, rfl, hn, hc, fun hpos => ?_⟩
  obtain ⟨b, off, rfl, hS, hlt, hcell⟩ := hp hpos
  obtain ⟨b0, off0, e0, hS0, hlt0, _⟩ := hp0 hpos
  injection e0 with e0
  injection e0 with e1 e2
  subst e1
  exact ⟨b, off, rfl, hs b hS0 hlt0, hlt, hcell⟩
def Bss (w : World) (S T : Nat → Prop) (v : Value) (rows : List (List UInt8)) : Prop := ∃ vs : List Value, Own w 77 1 v rows.length vs ∧ (∀ k, v.ownBlock = some k → S k) ∧
  ∀ (i : Nat) (x : List UInt8) (u : Value), rows[i]? = some x → vs[i]? = some u → Cs w (fun b => T b ∧ v.ownBlock ≠ some b) 1 u x.length (u8s x)
theorem Bss.nil_ (w : World) (S T : Nat → Prop) : Bss w S T (.slice none 0 0) [] := ⟨[], Own.nil_ _ _ _, fun k h => by simp [Value.ownBlock] at h, fun i x u h => by simp at h⟩
theorem Bss.form {w : World} {S T : Nat → Prop} {v : Value} {rows : List (List UInt8)} (h : Bss w S T v rows) : ∃ A cap, v = .slice A rows.length cap := by
  obtain ⟨vs, ho, _⟩ := h
  exact ho.form
theorem Bss.below {w w' : World} {S T : Nat → Prop} {v : Value} {rows : List (List UInt8)} (h : Bss w S T v rows) (hb : Below w.heap.size w w') : Bss w' S T v rows := by
  obtain ⟨vs, ho, hS, hr⟩ := h
  exact ⟨vs, own_keep ho fun k hk => hb.block k (own_lt ho hk), hS, fun i x u h1 h2 => (hr i x u h1 h2).below hb⟩
theorem Bss.push {w w' : World} {S T : Nat → Prop} {v v' : Value} {rows : List (List UInt8)} {vs : List Value} (ho : Own w 77 1 v rows.length vs) (hS : ∀ k, v.ownBlock = some k → S k)
    (hr : ∀ (i : Nat) (x : List UInt8) (u : Value), rows[i]? = some x → vs[i]? = some u → Cs w (fun b => T b ∧ v.ownBlock ≠ some b) 1 u x.length (u8s x)) {x : List UInt8} {u : Value} (hu : Cs w (fun b => T b ∧ v.ownBlock ≠ some b) 1 u x.length (u8s x))
    (ho' : Own w' 77 1 v' (rows.length + 1) (vs ++ [u])) (hc : Chg (fun b => v.ownBlock = some b) w w') (hat : v'.ownBlock = v.ownBlock ∨ v'.ownBlock = some w.heap.size) (hnew : S w.heap.size) : Bss w' S T v' (rows ++ [x]) := by
  have hl : vs.length = rows.length := by have := ho.1; omega
  have key : ∀ {y : List UInt8} {z : Value}, Cs w (fun b => T b ∧ v.ownBlock ≠ some b) 1 z y.length (u8s y) → Cs w' (fun b => T b ∧ v'.ownBlock ≠ some b) 1 z y.length (u8s y) := fun {y z} h => by
    refine (h.chg hc fun b hb e => hb.2 e).sub' h fun b hb hlt => ⟨hb.1, fun e => ?_⟩
    rcases hat with h1 | h1
    · exact hb.2 (h1 ▸ e)
    · rw [h1] at e; injection e with e; omega
  refine ⟨vs ++ [u], by rw [List.length_append]; exact ho', fun k hk => ?_, fun i y z h1 h2 => ?_⟩
  · rcases hat with h1 | h1
    · exact hS k (h1 ▸ hk)
    · rw [h1] at hk; injection hk with hk; exact hk ▸ hnew
  · rcases Nat.lt_trichotomy i rows.length with h | h | h
    · rw [List.getElem?_append_left h] at h1
      rw [List.getElem?_append_left (by omega)] at h2
      exact key (hr i y z h1 h2)
    · subst h
      rw [List.getElem?_append_right (Nat.le_refl _), Nat.sub_self] at h1
      rw [List.getElem?_append_right (by omega), hl, Nat.sub_self] at h2
      injection h1 with h1
      injection h2 with h2
      subst h1 h2
      exact key hu
    · rw [List.getElem?_append_right (by omega)] at h1
      rw [List.getElem?_eq_none (by simp; omega)] at h1
      cases h1
theorem Bss.read {w : World} {S T : Nat → Prop} {v : Value} {rows : List (List UInt8)} (h : Bss w S T v rows) (hl : ∀ x ∈ rows, x.length ≤ 140737488355328) : Bsr w (fun b => S b ∨ T b) v rows := by
  obtain ⟨vs, ho, hS, hr⟩ := h
  exact ⟨vs, Cs.of_own ho fun k hk => .inl (hS k hk), fun i x u h1 h2 => ⟨(hr i x u h1 h2).sub fun b hb _ => .inr hb.1, hl x (List.mem_of_getElem? h1)⟩⟩
theorem Bsr.lt_ {w : World} {S T : Nat → Prop} {v : Value} {rows : List (List UInt8)} (h : Bsr w S v rows) (hs : ∀ b, S b → T b) : Bsr w (fun b => T b ∧ b < w.heap.size) v rows := by
  obtain ⟨vs, h1, h2⟩ := h
  exact ⟨vs, h1.sub fun b hb hlt => ⟨hs b hb, hlt⟩, fun i x u a b => (h2 i x u a b).sub fun b hb hlt => ⟨hs b hb, hlt⟩⟩
mutual
theorem Sh.rep_one {w : World} {S : Nat → Prop} : ∀ (s : Sh) (x : s.El) (cs : List Value), s.rep w S x cs → ∀ v ∈ cs, v.oneCell' = true
  | .num _, _, _, h => by obtain ⟨rfl, _⟩ := h; intro v hv; obtain rfl := List.mem_singleton.1 hv; rfl
  | .dig, l, _, h => by obtain ⟨rfl, _⟩ := h; exact u8s_one l
  | .byt, _, _, h => by obtain ⟨u, rfl, h⟩ := h; obtain ⟨A, c, rfl⟩ := h.form; intro v hv; obtain rfl := List.mem_singleton.1 hv; rfl
  | .bool, b, cs, h => by have h : cs = [.bool b] := h; subst h; intro v hv; obtain rfl := List.mem_singleton.1 hv; rfl
  | .list _, _, _, h => by obtain ⟨u, css, rfl, h, _⟩ := h; obtain ⟨A, c, rfl⟩ := h.form; intro v hv; obtain rfl := List.mem_singleton.1 hv; rfl
  | .tup fs, x, cs, h => Fs.rep_one fs x cs h
theorem Fs.rep_one {w : World} {S : Nat → Prop} : ∀ (fs : Fs) (x : fs.El) (cs : List Value), fs.rep w S x cs → ∀ v ∈ cs, v.oneCell' = true
  | .nil, _, cs, h => by have h : cs = [] := h; subst h; intro v hv; cases hv
  | .cons s fs, (a, b), cs, h => by
    obtain ⟨c1, c2, rfl, h1, h2⟩ := h
    intro v hv
    rcases List.mem_append.1 hv with hv | hv
    · exact Sh.rep_one s a c1 h1 v hv
    · exact Fs.rep_one fs b c2 h2 v hv
end
end
section
open Go.RowKit Go.Maps
set_option maxHeartbeats 2000000 in
set_option maxRecDepth 100000 in
theorem listInt_any (w : World) {S : Nat → Prop} {v : Value} {l : List (i64).El} (h : (Sh.list i64).rep w S l [v]) (hl : ((Sh.list i64).enc l).length ≤ 1099511627776) :
    Calls Tryz.prog 99 #[v, .func (Fn.func 46) #[] #[]] w fun e w' => ∃ v', e = .returned v' ∧ Fresh w w' v' ((Sh.list i64).enc l) := by
  obtain ⟨A, cap, rfl, hlen, hat⟩ := list_at h
  have H := Lib.hid h; clear h
  have hl' : (joinB (l.map (i64).enc)).length ≤ 1099511627776 := hl
  have hcnt := joinP_count (l.map (i64).enc)
  rw [joinB_length] at hl'
  rw [List.length_map] at hcnt
  have HLL := Lib.hid hl
  clear hl hat
  go_enter Tryz.func99, Tryz.ntmps99
  go_wp2_with fail
  go_loopw [5, 10] (fun a i wr => ∃ k : Nat, k ≤ l.length ∧ i = .int .i64 k ∧ Bss wr (fun b => w.heap.size ≤ b) (fun b => w.heap.size ≤ b) a ((l.take k).map (i64).enc) ∧ Below w.heap.size w wr) (fun _ i _ => l.length - (intOf i).toNat)
  case atStart => exact ⟨0, Nat.zero_le _, rfl, Bss.nil_ _ _ _, Below.refl _ _⟩
  case round =>
    obtain ⟨k, hk, rfl, hB, hbl⟩ := hrel
    by_cases hlt : k < l.length
    · obtain ⟨R, hR⟩ : ∃ R, R = (l.take k).map (i64).enc := ⟨_, rfl⟩
      rw [← hR] at hB
      have hRl : R.length = k := by rw [hR, List.length_map, List.length_take]; omega
      have hnext : (l.take (k + 1)).map (i64).enc = R ++ [(i64).enc l[k]] := by rw [List.take_succ_eq_append_getElem hlt, List.map_append, ← hR]; rfl
      obtain ⟨Aa, ca, rfl⟩ := hB.form
      obtain ⟨_, _, e, _, hat⟩ := list_at (Sh.rep_below H.out hbl)
      injection e with e1 e2 e3
      subst e1 e3
      obtain ⟨b, off, c, rfl, hca, hr, hcl, _, _⟩ := hat k hlt
      obtain ⟨x, hx⟩ : ∃ x, x = l[k] := ⟨_, rfl⟩
      rw [← hx] at hr hnext
      obtain ⟨rfl, _⟩ := hr
      have hcell := Lies.one hca
      have hcell : wr.cell? ⟨b, off + k, none⟩ = some (.int .i64 x) := by simpa [Sh.cells, nk] using hcell
      have hown : ∀ k, (Value.slice Aa R.length ca).ownBlock = some k → k < wr.heap.size := fun k hk => by obtain ⟨vs, ho, _⟩ := hB; exact own_lt ho hk
      have HB := Lib.hid hB
      have HN := Lib.hid hnext
      have HRL := Lib.hid hRl
      have HOWN := Lib.hid hown
      clear hB hca hcl hat hx hR hnext hRl hown
      go_wp2_with fail
      refine (numInt_any _ _).mono ?_
      rintro e w1 ⟨v1, rfl, f1⟩
      have hb1 := hbl.trans (f1.2.mono hbl.size)
      obtain ⟨y, hy⟩ : ∃ y, y = (i64).enc x := ⟨_, rfl⟩
      have f1 : Fresh wr w1 v1 y := hy ▸ f1
      rw [← hy] at HN
      obtain ⟨A1, c1, rfl⟩ := f1.1.form
      obtain ⟨vs, ho, hS, hr⟩ := HB.out.below f1.2
      have hsz1 := f1.2.size
      have hal : Below w1.heap.size w1 (w1.alloc (.cells #[.slice A1 y.length c1] 77)) := (Below.refl _ w1).alloc (Nat.le_refl _) _
      have HAL := Lib.hid hal
      have HO := Lib.hid (show Own (w1.alloc (.cells #[.slice A1 y.length c1] 77)) _ _ _ _ _ from own_keep ho fun k hk => hal.block k (own_lt ho hk))
      have HS := Lib.hid hS
      have HR := Lib.hid (fun i x u h1 h2 => (hr i x u h1 h2).below hal)
      have HU := Lib.hid ((f1.1.1.below hal).sub (T := fun b => w.heap.size ≤ b ∧ (Value.slice Aa R.length ca).ownBlock ≠ some b) fun b hb _ => ⟨Nat.le_trans hbl.size hb.1, fun e => by have := HOWN.out b e; omega⟩)
      have HS2 := Lib.hid (Cs.of_new w1 77 (size := 1) 1 (cs := [.slice A1 y.length c1]) rfl (by simp only [maxLen]; decide))
      have H63 := Lib.hid (show R.length + 1 ≤ maxLen ∧ (R.length + 1) * 24 ≤ 140737488355328 from by have := HRL.out; refine ⟨by simp only [maxLen]; omega, by omega⟩)
      clear ho hS hr hal f1 hy
      go_wp2_with (at_builtin; refine wpList_app _ rfl _ _ _ rfl Tryz.underlying107 info_row rfl (by decide) HO.out rfl HS2.out rfl (by simp [Value.oneCell']) H63.out.1 H63.out.2 ?_; intro v3 w3 ho3 hg3 hnil3 hat3; clear hnil3; have HO3 := Lib.hid ho3; clear ho3; have HG3 := Lib.hid hg3; clear hg3; have HAT3 := Lib.hid hat3; clear hat3)
      have hpush := Bss.push HO.out HS.out HR.out HU.out HO3.out HG3.out HAT3.out (by have := hb1.size; have := HAL.out.size; omega)
      rw [← HN.out] at hpush
      refine ⟨⟨k + 1, by omega, by push_cast; rfl, hpush, (hb1.trans (HAL.out.mono hb1.size)).trans (HG3.out.below (Nat.le_trans hb1.size HAL.out.size) fun b h => HS.out b h)⟩, ?_⟩
      simp only [intOf]
      omega
    · have hk' : k = l.length := by omega
      rw [hk', List.take_length] at hB
      have hsm : ∀ x ∈ l.map (i64).enc, x.length ≤ 140737488355328 := fun x hx => by have := joinP_mem hx; omega
      have hj := join_any _ ((hB.read hsm).lt_ (T := fun b => w.heap.size ≤ b) fun b h => h.elim id id) (by rw [joinB_length]; omega) fun b h => h.2
      have HJ := Lib.hid hj
      obtain ⟨R, hR⟩ : ∃ R, R = l.map (i64).enc := ⟨_, rfl⟩
      have HR := Lib.hid hR
      rw [← hR] at hB HJ
      obtain ⟨Aa, ca, rfl⟩ := hB.form
      clear hj hB hR hsm
      go_wp2_with fail
      refine HJ.out.mono ?_
      rintro e w1 ⟨v1, rfl, f1⟩
      go_wp2_with fail
      go_ret
      refine ⟨v1, rfl, ?_, hbl.trans (f1.2.mono hbl.size)⟩
      have := f1.1.sub (T := fun b => w.heap.size ≤ b ∧ Th w1 b) fun b hb _ => ⟨Nat.le_trans hbl.size hb.1, hb.2⟩
      rw [HR.out] at this
      exact this
theorem nums_any (w : World) {S : Nat → Prop} {v : Value} {l : List i64.El} (h : (Sh.list i64).rep w S l [v]) (hl : ((Sh.list i64).enc l).length ≤ 1099511627776) :
    Calls Tryz.prog 83 #[v] w fun e w' => ∃ v', e = .returned v' ∧ Fresh w w' v' ((Sh.list i64).enc l) := by
  have hj := listInt_any w h hl
  have HJ := Lib.hid hj; clear hj
  go_enter Tryz.func83, Tryz.ntmps83
  go_wp2_with fail
  refine HJ.out.mono ?_
  rintro e w1 ⟨v1, rfl, f1⟩
  go_wp2_with fail
  go_ret
  exact ⟨v1, rfl, f1⟩
end
section
section
variable {α : Type} (sp : α → Bool) (fr no : α → Int) (base : Int → Int)
def cntP (out : List α) (f : Int) : Nat := (out.filter fun t => sp t && fr t == f).length
def fitsP (out : List α) (t : α) : Bool := !sp t || no t == (base (fr t) + cntP sp fr out (fr t)) % 18446744073709551616
def nextP : Nat → List α → List α → List α
  | 0, _, out => out
  | n + 1, left, out => match h : left.findIdx? (fitsP sp fr no base out) with
    | none => out
    | some i => nextP n (left.eraseIdx i) (out ++ [left[i]'(by have := List.findIdx?_eq_some_iff_getElem.1 h; exact this.1)])
def restP : Nat → List α → List α → List α
  | 0, left, _ => left
  | n + 1, left, out => match h : left.findIdx? (fitsP sp fr no base out) with
    | none => left
    | some i => restP n (left.eraseIdx i) (out ++ [left[i]'(by have := List.findIdx?_eq_some_iff_getElem.1 h; exact this.1)])
variable {sp fr no base}
theorem nextP_none {n : Nat} {left out : List α} (h : left.findIdx? (fitsP sp fr no base out) = none) : nextP sp fr no base (n + 1) left out = out ∧ restP sp fr no base (n + 1) left out = left := by
  constructor
  · unfold nextP; split
    · rfl
    · rename_i i hi; rw [h] at hi; cases hi
  · unfold restP; split
    · rfl
    · rename_i i hi; rw [h] at hi; cases hi
theorem nextP_some {n i : Nat} {left out : List α} (h : left.findIdx? (fitsP sp fr no base out) = some i) (hi : i < left.length) :
    nextP sp fr no base (n + 1) left out = nextP sp fr no base n (left.eraseIdx i) (out ++ [left[i]]) ∧ restP sp fr no base (n + 1) left out = restP sp fr no base n (left.eraseIdx i) (out ++ [left[i]]) := by
  constructor
  · conv => lhs; unfold nextP
    split
    · rename_i h2; rw [h] at h2; cases h2
    · rename_i j hj; rw [h] at hj; injection hj with hj; subst hj; rfl
  · conv => lhs; unfold restP
    split
    · rename_i h2; rw [h] at h2; cases h2
    · rename_i j hj; rw [h] at hj; injection hj with hj; subst hj; rfl
theorem erase_perm : ∀ (l : List α) (i : Nat) (h : i < l.length), (l[i] :: l.eraseIdx i).Perm l
  | a :: l, 0, _ => List.Perm.refl _
  | a :: l, i + 1, h => by
    have h' : i < l.length := by simpa using h
    have := erase_perm l i h'
    show (l[i] :: a :: l.eraseIdx i).Perm (a :: l)
    exact (List.Perm.swap _ _ _).trans (this.cons a)
theorem nextP_perm : ∀ (n : Nat) (left out : List α), (nextP sp fr no base n left out ++ restP sp fr no base n left out).Perm (out ++ left)
  | 0, _, _ => List.Perm.refl _
  | n + 1, left, out => by
    cases h : left.findIdx? (fitsP sp fr no base out) with
    | none => rw [(nextP_none h).1, (nextP_none h).2]
    | some i =>
      have hi := (List.findIdx?_eq_some_iff_getElem.1 h).1
      rw [(nextP_some h hi).1, (nextP_some h hi).2]
      refine (nextP_perm n _ _).trans ?_
      rw [List.append_assoc]
      exact List.Perm.append_left out (erase_perm left i hi)
theorem nextP_len : ∀ (n : Nat) (left out : List α), out.length ≤ (nextP sp fr no base n left out).length ∧ (nextP sp fr no base n left out).length ≤ out.length + n
  | 0, _, _ => ⟨Nat.le_refl _, Nat.le_refl _⟩
  | n + 1, left, out => by
    cases h : left.findIdx? (fitsP sp fr no base out) with
    | none => rw [(nextP_none h).1]; omega
    | some i =>
      have hi := (List.findIdx?_eq_some_iff_getElem.1 h).1
      rw [(nextP_some h hi).1]
      have := nextP_len n (left.eraseIdx i) (out ++ [left[i]])
      rw [List.length_append] at this
      simp only [List.length_cons, List.length_nil] at this
      omega
theorem nextP_fits : ∀ (n : Nat) (left out : List α), (∀ i (h : i < out.length), fitsP sp fr no base (out.take i) out[i] = true) → ∀ i (h : i < (nextP sp fr no base n left out).length), fitsP sp fr no base ((nextP sp fr no base n left out).take i) (nextP sp fr no base n left out)[i] = true
  | 0, _, _, h0 => h0
  | n + 1, left, out, h0 => by
    cases h : left.findIdx? (fitsP sp fr no base out) with
    | none => rw [(nextP_none h).1]; exact h0
    | some i =>
      have hi := List.findIdx?_eq_some_iff_getElem.1 h
      rw [(nextP_some h hi.1).1]
      refine nextP_fits n _ _ fun j hj => ?_
      rw [List.length_append] at hj
      simp only [List.length_cons, List.length_nil] at hj
      by_cases e : j < out.length
      · rw [List.take_append_of_le_length (by omega), List.getElem_append_left e]
        exact h0 j e
      · obtain rfl : j = out.length := by omega
        rw [List.take_left' rfl, List.getElem_append_right (Nat.le_refl _)]
        simpa using hi.2.1
theorem restP_done : ∀ (n : Nat) (left out : List α), (nextP sp fr no base n left out).length < out.length + n → ∀ t ∈ restP sp fr no base n left out, fitsP sp fr no base (nextP sp fr no base n left out) t = false
  | 0, _, out, h => absurd h (by show ¬ out.length < out.length + 0; omega)
  | n + 1, left, out, hlt => by
    cases h : left.findIdx? (fitsP sp fr no base out) with
    | none =>
      rw [(nextP_none h).1, (nextP_none h).2]
      intro t ht
      simpa using List.findIdx?_eq_none_iff.1 h t ht
    | some i =>
      have hi := (List.findIdx?_eq_some_iff_getElem.1 h).1
      rw [(nextP_some h hi).1] at hlt
      rw [(nextP_some h hi).1, (nextP_some h hi).2]
      refine restP_done n _ _ ?_
      rw [List.length_append]
      simp only [List.length_cons, List.length_nil]
      omega
theorem erase_filter (p : α → Bool) : ∀ (l : List α) (i : Nat) (h : i < l.length), (∀ j (hj : j < i), p (l[j]'(by omega)) = false) → l.filter p = (if p l[i] then [l[i]] else []) ++ (l.eraseIdx i).filter p
  | a :: l, 0, _, _ => by
    show (a :: l).filter p = _ ++ l.filter p
    rw [List.filter_cons]
    by_cases h : p a = true <;> simp [h]
  | a :: l, i + 1, h, hj => by
    have h' : i < l.length := by simpa using h
    have ha : p a = false := hj 0 (by omega)
    have := erase_filter p l i h' fun j hji => hj (j + 1) (by omega)
    show (a :: l).filter p = (if p l[i] then [l[i]] else []) ++ (a :: l.eraseIdx i).filter p
    rw [List.filter_cons, List.filter_cons, ha]
    simpa using this
theorem nextP_order : ∀ (n : Nat) (left out : List α), (out ++ left).filter (fun t => !sp t) = (nextP sp fr no base n left out).filter (fun t => !sp t) ++ (restP sp fr no base n left out).filter (fun t => !sp t)
  | 0, _, _ => by simp [nextP, restP]
  | n + 1, left, out => by
    cases h : left.findIdx? (fitsP sp fr no base out) with
    | none => rw [(nextP_none h).1, (nextP_none h).2, List.filter_append]
    | some i =>
      have hi := List.findIdx?_eq_some_iff_getElem.1 h
      have hi1 : i < left.length := hi.1
      rw [(nextP_some h hi.1).1, (nextP_some h hi.1).2, ← nextP_order n]
      rw [List.filter_append, List.filter_append, List.filter_append, List.append_assoc]
      congr 1
      rw [erase_filter (fun t => !sp t) left i hi.1 fun j hj => ?_]
      · congr 1
        rw [List.filter_cons]
        by_cases hs : (!sp (left[i]'hi.1)) = true <;> simp [hs]
      · have := hi.2.2 j hj
        simp only [fitsP, Bool.or_eq_true, not_or] at this
        simpa using this.1
end
end
section
abbrev tAccount : Sh := .tup (.cons u64 (.cons u64 (.cons u64 .nil)))
abbrev tLock : Sh := .tup (.cons .dig (.cons u64 (.cons u64 (.cons u64 (.cons i64 (.cons i64 (.cons i64 .nil)))))))
abbrev tState : Sh := .tup (.cons i64 (.cons (.list tAccount) (.cons (.list tLock) (.cons (.list .dig) (.cons (.list tRecord) (.cons (.list i64) .nil))))))
def bsP (names : List Int) (t : Int) (i j : Nat) : Nat :=
  if h : i < j then if names.getD ((i + j) / 2) 0 < t then bsP names t ((i + j) / 2 + 1) j else bsP names t i ((i + j) / 2) else i
termination_by j - i
theorem bsP_le (names : List Int) (t : Int) (i j : Nat) (h : i ≤ j) : i ≤ bsP names t i j ∧ bsP names t i j ≤ j := by
  unfold bsP
  split
  · split
    · have := bsP_le names t ((i + j) / 2 + 1) j (by omega); omega
    · have := bsP_le names t i ((i + j) / 2) (by omega); omega
  · omega
termination_by j - i
def acctP (accts : List (Int × Int × Int × Unit)) (name : Int) : Int × Int × Int × Unit :=
  match accts[bsP (accts.map (·.1)) name 0 accts.length]? with
  | some a => if a.1 = name then a else (name, 0, 0, ())
  | none => (name, 0, 0, ())
abbrev TxE := tTx.El
def kindX (x : TxE) : Int := x.1
def fromX (x : TxE) : Int := x.2.1
def nonceX (x : TxE) : Int := x.2.2.2.2.1
def spendsX (x : TxE) : Bool := decide (kindX x = 1) || decide (kindX x = 2)
def formX (x : TxE) : Int :=
  let k := kindX x
  if k < 1 ∨ 8 < k then 20 else
    let facts := if k = 3 ∨ k = 4 ∨ k = 5 ∨ k = 6 then 1 else 0
    let pays := k = 1 ∨ k = 2
    if List.length (α := tFact.El) x.2.2.2.2.2.2.2.2.2.1 ≠ facts ∨ (¬ pays ∧ (x.2.1 ≠ 0 ∨ x.2.2.1 ≠ 0 ∨ x.2.2.2.1 ≠ 0 ∨ x.2.2.2.2.1 ≠ 0)) ∨ (k ≠ 2 ∧ (x.2.2.2.2.2.1 ≠ 0 ∨ x.2.2.2.2.2.2.1 ≠ 0)) ∨
      (¬ (k = 3 ∨ k = 4 ∨ k = 5) ∧ x.2.2.2.2.2.2.2.1 ≠ List.replicate 32 (0 : UInt8)) ∨ (¬ (k = 7 ∨ k = 8) ∧ x.2.2.2.2.2.2.2.2.1 ≠ 0) then 1 else 0
def staleX (accts : List (Int × Int × Int × Unit)) (x : TxE) : Bool := spendsX x && decide (nonceX x < (acctP accts (fromX x)).2.2.1)
def addE (accts : List (Int × Int × Int × Unit)) (most : Nat) (L : List (List UInt8)) (x : TxE) : Int :=
  if formX x ≠ 0 then formX x else if 65536 < (tTx.enc x).length then 4 else if tTx.enc x ∈ L then 31 else if staleX accts x then 21 else if most ≤ L.length then 42 else 0
def addL (accts : List (Int × Int × Int × Unit)) (most : Nat) (L : List (List UInt8)) (x : TxE) : List (List UInt8) := if addE accts most L x = 0 then L ++ [tTx.enc x] else L
theorem addE_again {accts : List (Int × Int × Int × Unit)} {most : Nat} {L : List (List UInt8)} {x : TxE} : if addE accts most L x = 0 then addE accts most (addL accts most L x) x = 31 else addE accts most (addL accts most L x) x = addE accts most L x := by
  by_cases h : addE accts most L x = 0
  · rw [if_pos h]
    have hl : addL accts most L x = L ++ [tTx.enc x] := if_pos h
    rw [hl]
    unfold addE at h ⊢
    by_cases h1 : formX x ≠ 0
    · rw [if_pos h1] at h; exact absurd h h1
    · rw [if_neg h1] at h ⊢
      by_cases h2 : 65536 < (tTx.enc x).length
      · rw [if_pos h2] at h; cases h
      · rw [if_neg h2, if_pos (by simp)]
  · rw [if_neg h]
    have hl : addL accts most L x = L := if_neg h
    rw [hl]
theorem ite_ne42 (p : Prop) [Decidable p] : (if p then (1 : Int) else 0) ≠ 42 := by split <;> decide
theorem addE_full {accts : List (Int × Int × Int × Unit)} {most : Nat} {L : List (List UInt8)} {x : TxE} (h : addE accts most L x = 42) : most ≤ L.length := by
  unfold addE at h
  have hf : formX x ≠ 42 := by
    unfold formX
    dsimp only
    by_cases hk : kindX x < 1 ∨ 8 < kindX x
    · rw [if_pos hk]; decide
    · rw [if_neg hk]; exact ite_ne42 _
  split at h
  · exact absurd h hf
  · split at h
    · cases h
    · split at h
      · cases h
      · split at h
        · cases h
        · split at h
          · assumption
          · cases h
theorem addE_ok {accts : List (Int × Int × Int × Unit)} {most : Nat} {L : List (List UInt8)} {x : TxE} (h : addE accts most L x = 0) : formX x = 0 ∧ (tTx.enc x).length ≤ 65536 ∧ tTx.enc x ∉ L ∧ staleX accts x = false ∧ L.length < most := by
  unfold addE at h
  split at h
  · contradiction
  · rename_i h1
    split at h
    · cases h
    · split at h
      · cases h
      · split at h
        · cases h
        · split at h
          · cases h
          · rename_i h2 h3 h4 h5
            exact ⟨by simpa using h1, by omega, h3, by simpa using h4, by omega⟩
end
section
open Go.RowKit
theorem Blk.range {w : World} {b : Nat} {t : TypeId} {l : List Value} (h : Blk w b t l.toArray) : w.rangeAt b 0 l := fun j v hv => by
  rw [Nat.zero_add, h.cell j]; simpa using hv
theorem Chg.setCells {M : Nat → Prop} {w : World} {b : Nat} (hb : M b ∨ w.heap.size ≤ b) : ∀ (vs : List Value) (o : Nat) (w' : World), Chg M w w' → Chg M w (w'.setCells b o vs)
  | [], _, _, h => h
  | v :: r, o, _, h => Chg.setCells hb r (o + 1) _ (h.setCell (p := ⟨b, o, none⟩) hb v)
theorem Blk.setCells {b : Nat} {t : TypeId} : ∀ (xs : List Value) (o : Nat) (w : World) (cs : List Value), Blk w b t cs.toArray → o + xs.length ≤ cs.length → Blk (w.setCells b o xs) b t (cs.take o ++ xs ++ cs.drop (o + xs.length)).toArray
  | [], o, w, cs, h, _ => by simpa [World.setCells] using h
  | v :: r, o, w, cs, h, hl => by
    simp only [List.length_cons] at hl
    have h1 := h.set_ o v
    rw [setIfInBounds_toArray] at h1
    have := Blk.setCells r (o + 1) _ _ h1 (by simp; omega)
    rw [World.setCells]
    rw [list_seg_step cs o v r (by omega)] at this
    exact this
section
variable {P : Program} {ops : Array Oper} {rest : List Oper} {op : Oper} {a : Act} {w : World} {Q : Exit → Act → World → Prop}
theorem wpList_store_blk (hgd : op.guard = none) (ty : TypeId) (x y : Operand) (ho : op.op = .store ty x y) {X : Nat} {t : TypeId} {cs0 cs : List Value} (hb : Blk w X t cs0.toArray) (hx : a.eval x = .pointer (some ⟨X, 0, none⟩)) (hy : a.eval y = .agg cs.toArray)
    (hl : cs0.length = cs.length) (hi : (P.info? ty).map (·.size) = some cs.length) (h1 : ∀ v ∈ cs, v.oneCell' = true) (h : ∀ w', Blk w' X t cs.toArray → Chg (fun b => b = X) w w' → wpList P ops Q rest (a.put op.dst undef) w') : wpList P ops Q (op :: rest) a w := by
  refine wpList_store_mid hgd ty x y ho X 0 cs.toArray hx hy (fun j hj => ?_) (by simpa using hi) (all_oneCell_toArray h1) ?_
  · rw [Nat.zero_add, hb.cell]
    simp only [List.size_toArray] at hj
    exact ⟨by simp [hl, hj], hb.frozen _⟩
  · refine h _ ?_ (Chg.setCells (M := fun b => b = X) (.inl rfl) _ _ _ (Chg.refl _ w))
    have := Blk.setCells cs 0 w cs0 hb (by omega)
    simpa [hl, List.drop_of_length_le] using this
theorem wpList_load_blk' (hgd : op.guard = none) (ty : TypeId) (x : Operand) (ho : op.op = .load ty x) {X : Nat} {t : TypeId} {cs : List Value} (hb : Blk w X t cs.toArray) (hx : a.eval x = .pointer (some ⟨X, 0, none⟩)) {d : TypeDesc} (hu : P.underlying ty = some d) (hd : d.isRow = true)
    (hi : (P.info? ty).map (·.size) = some cs.length) (h : wpList P ops Q rest (a.put op.dst (.agg cs.toArray)) w) : wpList P ops Q (op :: rest) a w :=
  wpList_load_mid hgd ty x ho X 0 hx cs _ hb.range hu hd hi h
end
end
section
open Go.RowKit
theorem bfold_put (off : Nat) : ∀ (l : List Value) (s : Nat) (acc : Array Value) (i : Nat), off + s + l.length ≤ acc.size →
    ((l.zipIdx s).foldl (fun (cs : Array Value) (x : Value × Nat) => cs.setIfInBounds (off + x.2) x.1) acc)[i]? = if off + s ≤ i ∧ i < off + s + l.length then l[i - (off + s)]? else acc[i]?
  | [], s, acc, i, _ => by
    simp only [List.length_nil]
    rw [if_neg (by omega)]
    rfl
  | v :: r, s, acc, i, h => by
    simp only [List.length_cons] at h
    rw [List.zipIdx_cons, List.foldl_cons, bfold_put off r (s + 1) _ i (by simp; omega)]
    by_cases h1 : off + s = i
    · subst h1
      rw [if_neg (by omega), if_pos (by simp)]
      simp [show off + s < acc.size by omega]
    · by_cases h2 : off + (s + 1) ≤ i ∧ i < off + (s + 1) + r.length
      · rw [if_pos h2, if_pos (by simp; omega)]
        rw [show i - (off + s) = (i - (off + (s + 1))) + 1 by omega]
        simp
      · rw [if_neg h2, if_neg (by simp; omega)]
        simp [h1]
theorem bfold_put_arr (off : Nat) (c acc : Array Value) (i : Nat) (h : off + c.size ≤ acc.size) :
    (c.zipIdx.foldl (fun cs (x : Value × Nat) => cs.setIfInBounds (off + x.2) x.1) acc)[i]? = if off ≤ i ∧ i < off + c.size then c[i - off]? else acc[i]? := by
  rw [← Array.foldl_toList, Array.toList_zipIdx]
  have := bfold_put off c.toList 0 acc i (by simpa using h)
  simpa using this
theorem bfill_one {place : Nat → Option (Nat × Nat)} {cells : Array Value} {i off size : Nat} {v : Value} {rest : List (Nat × Value)} (hp : place i = some (off, size)) (hs : v.cells.size = size) (hb : off + size ≤ cells.size) :
    Instr.fill place cells ((i, v) :: rest) = Instr.fill place (v.cells.zipIdx.foldl (fun cs (x : Value × Nat) => cs.setIfInBounds (off + x.2) x.1) cells) rest := by
  have hb' : ¬ cells.size < off + size := by omega
  rw [Instr.fill, hp]
  simp [hs, hb']
theorem cells_one {v : Value} (h : v.oneCell' = true) : v.cells = #[v] := by
  cases v <;> first | rfl | (simp [Value.oneCell'] at h)
def PlaceOk (place : Nat → Option (Nat × Nat)) : Nat → Nat → List (List Value) → Prop
  | _, _, [] => True
  | i, o, c :: l => place i = some (o, c.length) ∧ PlaceOk place (i + 1) (o + c.length) l
def Pieces : List Value → List (List Value) → Prop
  | [], [] => True
  | v :: vs, c :: cs => v.cells = c.toArray ∧ Pieces vs cs
  | _, _ => False
theorem fill_pieces {place : Nat → Option (Nat × Nat)} : ∀ (vs : List Value) (cs : List (List Value)) (i : Nat) (pre old : List Value), Pieces vs cs → PlaceOk place i pre.length cs → old.length = cs.flatten.length →
    Instr.fill place (pre ++ old).toArray ((vs.zipIdx i).map fun x => (x.2, x.1)) = some (pre ++ cs.flatten).toArray
  | [], [], i, pre, old, _, _, hl => by
    obtain rfl : old = [] := List.eq_nil_of_length_eq_zero (by simpa using hl)
    rfl
  | [], _ :: _, _, _, _, h, _, _ => by cases h
  | _ :: _, [], _, _, _, h, _, _ => by cases h
  | v :: vs, c :: cs, i, pre, old, ⟨hv, h⟩, ⟨hp, hpl⟩, hl => by
    rw [List.flatten_cons, List.length_append] at hl
    have hs : v.cells.size = c.length := by rw [hv, List.size_toArray]
    rw [List.zipIdx_cons, List.map_cons, bfill_one hp hs (by simp; omega)]
    have he : (v.cells.zipIdx.foldl (fun cs (x : Value × Nat) => cs.setIfInBounds (pre.length + x.2) x.1) (pre ++ old).toArray) = ((pre ++ c) ++ old.drop c.length).toArray := by
      apply Array.ext_getElem?
      intro j
      rw [bfold_put_arr pre.length v.cells _ j (by rw [hs]; simp; omega), hs, hv]
      by_cases h1 : pre.length ≤ j ∧ j < pre.length + c.length
      · rw [if_pos h1, getElem?_toArray, getElem?_toArray, List.append_assoc, List.getElem?_append_right h1.1, List.getElem?_append_left (by omega)]
      · rw [if_neg h1, getElem?_toArray, getElem?_toArray]
        rcases Nat.lt_or_ge j pre.length with h2 | h2
        · rw [List.getElem?_append_left h2, List.append_assoc, List.getElem?_append_left h2]
        · rw [List.getElem?_append_right h2, List.getElem?_append_right (by simp; omega), List.getElem?_drop]
          congr 1
          simp; omega
    rw [he]
    have := fill_pieces vs cs (i + 1) (pre ++ c) (old.drop c.length) h (by rw [List.length_append]; exact hpl) (by rw [List.length_drop]; omega)
    rw [this, List.flatten_cons, List.append_assoc]
theorem built_struct {P : Program} {t : TypeId} {n : Nat} {places : List (Nat × Nat)} (hi : (P.info? t).map (fun i => (i.zero.map (fun z => z.cells.size))) = some (some n))
    (hp : ((match P.underlying t with | some (.struct fields) => fields.toList.mapM (fun f => (P.info? f.type).map fun i => (f.offset, i.size)) | _ => none)) = some places)
    {vs : List Value} {cs : List (List Value)} (h : Pieces vs cs) (hpl : PlaceOk (fun i => places.toArray[i]?) 0 0 cs) (hn : cs.flatten.length = n) : P.built t ((vs.zipIdx 0).map fun x => (x.2, x.1)) = some cs.flatten.toArray := by
  unfold Program.built
  cases hit : P.info? t with
  | none => rw [hit] at hi; cases hi
  | some it =>
    rw [hit] at hi
    cases hz : it.zero with
    | none => rw [Option.map_some, hz] at hi; simp at hi
    | some z =>
      rw [Option.map_some, hz] at hi
      simp only [Option.map_some, Option.some.injEq] at hi
      cases hu : P.underlying t with
      | none => rw [hu] at hp; cases hp
      | some d =>
        rw [hu] at hp
        cases d <;> first | (cases hp; done) | skip
        rename_i fields
        simp only at hp ⊢
        rw [hp, hz]
        have := fill_pieces (place := fun i => places.toArray[i]?) vs cs 0 [] z.cells.toList h hpl (by rw [hn]; simpa using hi)
        simpa using this
theorem run_struct {P : Program} {t : TypeId} {n : Nat} {places : List (Nat × Nat)} (hi : (P.info? t).map (fun i => (i.zero.map (fun z => z.cells.size))) = some (some n))
    (hp : ((match P.underlying t with | some (.struct fields) => fields.toList.mapM (fun f => (P.info? f.type).map fun i => (f.offset, i.size)) | _ => none)) = some places)
    {vs : List Value} {cs : List (List Value)} (h : Pieces vs cs) (hpl : PlaceOk (fun i => places.toArray[i]?) 0 0 cs) (hn : cs.flatten.length = n) (parts : Array (Nat × Value)) (hparts : parts.toList = (vs.zipIdx 0).map fun x => (x.2, x.1)) (w : World) :
    (Instr.build t parts).run P w = .ok (.agg cs.flatten.toArray) w :=
  run_build w t parts _ (by rw [hparts]; exact built_struct hi hp h hpl hn)
theorem wpList_build_ {P : Program} {ops : Array Oper} {rest : List Oper} {o : Oper} {a : Act} {w : World} {Q : Exit → Act → World → Prop} (hg : o.guard = none) (ty : TypeId) (parts : Array (Nat × Operand)) (ho : o.op = .build ty parts)
    (ps : Array (Nat × Value)) (hp : (parts.map fun (i, x) => (i, a.eval x)) = ps) (v : Value) (hb : (Instr.build ty ps).run P w = .ok v w) (h : wpList P ops Q rest (a.put o.dst v) w) : wpList P ops Q (o :: rest) a w :=
  wpList_plain hg fun _ hK => by
    unfold Oper.wp execOp
    simp only [ho, hp, Sem.run_bind, hb, Sem.run_pure, Result.andThen_ok]
    exact hK _ _ h
theorem wpList_row1 {P : Program} {ops : Array Oper} {rest : List Oper} {o : Oper} {a : Act} {w : World} {Q : Exit → Act → World → Prop} (hg : o.guard = none) (t e : TypeId) (x : Operand) (ho : o.op = .buildSlice t 1 #[(0, x)]) (hu : P.underlying t = some (.slice e))
    (v : Value) (hx : a.eval x = v) (C : List Value) (hv : v.cells = C.toArray) (hi : (P.info? e).map (fun i => (i.zero.map (fun z => z.cells.size), i.size)) = some (some C.length, C.length)) (h0 : 0 < C.length) (hn : C.length ≤ 1000)
    (h : wpList P ops Q rest (a.put o.dst (.slice (some ⟨w.heap.size, 0, none⟩) 1 1)) (w.alloc (.cells C.toArray e))) : wpList P ops Q (o :: rest) a w := by
  cases hit : P.info? e with
  | none => rw [hit] at hi; cases hi
  | some i0 =>
    rw [hit] at hi
    cases hz : i0.zero with
    | none => rw [Option.map_some, hz] at hi; simp at hi
    | some z =>
      rw [Option.map_some, hz] at hi
      simp only [Option.map_some, Option.some.injEq, Prod.mk.injEq] at hi
      obtain ⟨hz1, hz2⟩ := hi
      refine wpList_buildSlice hg t e 1 _ ho C.toArray i0 z hu hit hz (by rw [hz2]; omega) (by rw [hz2]; omega) ?_ h
      have := fill_pieces (place := fun i => some (i * i0.size, i0.size)) [v] [C] 0 [] ((Array.range (1 * i0.size)).map (z.cells[· % z.cells.size]!)).toList ⟨hv, trivial⟩ ⟨by simp [hz2], trivial⟩ (by simp [hz2])
      rw [List.nil_append, Array.toArray_toList] at this
      have e1 : (#[(0, x)].map fun (i, x) => (i, a.eval x)).toList = ([v].zipIdx 0).map fun x => (x.2, x.1) := by simp [hx]
      rw [e1, this]
      simp
end
section
open Go.RowKit Go.Maps
attribute [-simp] Tryz.isAgg57 Tryz.typeInfo57
def cmpP (a b : Int) : Int := if a < b then -1 else if b < a then 1 else 0
theorem cmpP_neg (a b : Int) : cmpP a b < 0 ↔ a < b := by
  unfold cmpP
  by_cases h : a < b
  · simp [h]
  · rw [if_neg h]
    by_cases h2 : b < a <;> simp [h, h2]
theorem cmpP_zero (a b : Int) : cmpP a b = 0 ↔ a = b := by
  unfold cmpP
  by_cases h : a < b
  · simp [h]; omega
  · rw [if_neg h]
    by_cases h2 : b < a
    · simp [h2]; omega
    · simp [h2]; omega
theorem isNaN_any (w : World) (n : Int) : Calls Tryz.prog 69 #[.int .u64 n] w fun e w' => e = .returned (.bool false) ∧ w' = w := by
  go_enter Tryz.func69, Tryz.ntmps69
  go_wp2_with fail
  go_ret
  exact ⟨by simp, rfl⟩
theorem compare_any (w : World) (a b : Int) : Calls Tryz.prog 61 #[.int .u64 a, .int .u64 b] w fun e w' => e = .returned (.int .i64 (cmpP a b)) ∧ w' = w := by
  go_enter Tryz.func61, Tryz.ntmps61
  go_wp2_with fail
  refine (isNaN_any w a).mono ?_
  rintro e w1 ⟨rfl, hw⟩
  obtain rfl := hw.symm
  go_wp2_with fail
  refine (isNaN_any w b).mono ?_
  rintro e w1 ⟨rfl, hw⟩
  obtain rfl := hw.symm
  by_cases h : a < b
  · go_wp2_with fail
    go_ret
    refine ⟨?_, rfl⟩
    rw [show cmpP a b = -1 from if_pos h]
    rfl
  · by_cases h2 : b < a
    · have HQ := Lib.hid (show cmpP a b = 1 from by unfold cmpP; rw [if_neg h, if_pos h2])
      go_wp2_with fail
      go_ret
      refine ⟨?_, rfl⟩
      rw [HQ.out]
      rfl
    · have HQ := Lib.hid (show cmpP a b = 0 from by unfold cmpP; rw [if_neg h, if_neg h2])
      go_wp2_with fail
      go_ret
      refine ⟨?_, rfl⟩
      rw [HQ.out]
      rfl
def acs (a : Int × Int × Int × Unit) : List Value := [.int .u64 a.1, .int .u64 a.2.1, .int .u64 a.2.2.1]
theorem findcmp_any (w : World) (a : Int × Int × Int × Unit) (t : Int) : Calls Tryz.prog 60 #[.agg (acs a).toArray, .int .u64 t] w fun e w' => e = .returned (.int .i64 (cmpP a.1 t)) ∧ Below w.heap.size w w' := by
  have hal := (Below.refl w.heap.size w).alloc (Nat.le_refl _) (.cells (acs a).toArray 57)
  have hk := Blk.new w 57 (acs a).toArray
  have hc := hk.cell 0
  rw [show (acs a).toArray[0]? = some (.int .u64 a.1) from rfl] at hc
  have H := Lib.hid (compare_any (w.alloc (.cells (acs a).toArray 57)) a.1 t)
  have HAL := Lib.hid hal
  clear hal hk
  go_enter Tryz.func60, Tryz.ntmps60
  go_wp2_with fail
  refine H.out.mono ?_
  rintro e w1 ⟨rfl, hw⟩
  obtain rfl := hw.symm
  go_wp2_with fail
  go_ret
  exact ⟨rfl, HAL.out⟩
theorem wpList_load_mid_g {P : Program} {ops : Array Oper} {rest : List Oper} {op : Oper} {a : Act} {w : World} {Q : Exit → Act → World → Prop} (hgd : Region.wanted op (yielded ops a.tmps) = true) (ty : TypeId) (x : Operand) (ho : op.op = .load ty x) (b o : Nat) (hx : a.eval x = .pointer (some ⟨b, o, none⟩))
    (cs : List Value) (d : TypeDesc) (hc : w.rangeAt b o cs) (hu : P.underlying ty = some d) (hd : d.isRow = true) (hi : (P.info? ty).map (·.size) = some cs.length) (h : wpList P ops Q rest (a.put op.dst (.agg cs.toArray)) w) : wpList P ops Q (op :: rest) a w := by
  unfold wpList
  rw [if_pos hgd]
  exact .inl (wp_load_mid ty x ho b o hx cs d hc hu hd hi h)
def Accs (w : World) (S : Nat → Prop) (A : Option Addr) (cap : Nat) (l : List (Int × Int × Int × Unit)) : Prop :=
  l.length ≤ cap ∧ cap ≤ maxLen ∧ (0 < l.length → ∃ b off, A = some ⟨b, off, none⟩ ∧ S b ∧ b < w.heap.size ∧ ∀ k (h : k < l.length), w.rangeAt b (off + k * 3) (acs l[k]))
theorem Accs.below {w w' : World} {S : Nat → Prop} {A : Option Addr} {cap : Nat} {l : List (Int × Int × Int × Unit)} (h : Accs w S A cap l) (hb : Below w.heap.size w w') : Accs w' S A cap l := by
  obtain ⟨h1, h2, h3⟩ := h
  refine ⟨h1, h2, fun h0 => ?_⟩
  obtain ⟨b, off, e, hS, hlt, hc⟩ := h3 h0
  exact ⟨b, off, e, hS, ltle hlt hb.size, fun k hk j v hv => (World.cell?_of_block (a := ⟨b, off + k * 3 + j, none⟩) (hb.block b hlt)).trans (hc k hk j v hv)⟩
theorem acs_size (a : Int × Int × Int × Unit) : (Tryz.prog.info? 57).map (·.size) = some (acs a).length := by
  rw [show (acs a).length = 3 from rfl]; kernel_rfl
theorem half_lt {i j : Nat} (h : i < j) : (i + j) / 2 < j := by omega
set_option maxHeartbeats 4000000 in
set_option maxRecDepth 100000 in
theorem bsearch_any (w : World) {S : Nat → Prop} {A : Option Addr} {cap : Nat} {l : List (Int × Int × Int × Unit)} (h : Accs w S A cap l) (hl : l.length ≤ 1099511627776) (t : Int) :
    Calls Tryz.prog 59 #[.slice A l.length cap, .int .u64 t, .func (Fn.func 60) #[] #[]] w fun e w' =>
      e = .returned (.tuple #[.int .i64 (bsP (l.map (·.1)) t 0 l.length), .bool (decide (∃ a, l[bsP (l.map (·.1)) t 0 l.length]? = some a ∧ a.1 = t))]) ∧ Below w.heap.size w w' := by
  have H := Lib.hid h
  have hbs := bsP_le (l.map (·.1)) t 0 l.length (Nat.zero_le _)
  obtain ⟨r, hr⟩ : ∃ r, r = bsP (l.map (·.1)) t 0 l.length := ⟨_, rfl⟩
  rw [← hr] at hbs ⊢
  obtain ⟨n, hn⟩ : ∃ n, n = l.length := ⟨_, rfl⟩
  have HR := Lib.hid hr
  have HN := Lib.hid hn
  rw [← hn] at hl hbs ⊢
  clear h hr hn
  go_enter Tryz.func59, Tryz.ntmps59
  go_wp2_with fail
  go_loopw [9, 10] (fun a b wr => ∃ i j : Nat, i ≤ j ∧ j ≤ n ∧ a = .int .i64 i ∧ b = .int .i64 j ∧ Hid (bsP (l.map (·.1)) t i j = r) ∧ Below w.heap.size w wr) (fun a b _ => (intOf b).toNat - (intOf a).toNat)
  case atStart => exact ⟨0, n, Nat.zero_le _, Nat.le_refl _, rfl, rfl, Lib.hid (by rw [HR.out, HN.out]), Below.refl _ _⟩
  case round =>
    obtain ⟨i, j, hij, hj, rfl, rfl, hb, hbl⟩ := hrel
    by_cases hlt : i < j
    · obtain ⟨hh, hhh⟩ : ∃ hh, hh = (i + j) / 2 := ⟨_, rfl⟩
      have hhj : hh < j := by omega
      have hhl : hh < l.length := by have := HN.out; omega
      obtain ⟨_, _, hp⟩ := H.out.below hbl
      obtain ⟨b, off, rfl, hS, hbt, hca⟩ := hp (by omega)
      have HCA := Lib.hid (hca hh hhl)
      have e1 : ((i : Int) + (j : Int)) / 2 = (hh : Int) := by omega
      have hih : i ≤ hh := by omega
      have HHH := Lib.hid hhh
      clear hp hca hhh
      go_wp2_with (refine wpList_load_mid rfl 57 _ rfl b (off + hh * 3) rfl (acs l[hh]) _ HCA.out Tryz.underlying57 rfl (acs_size _) ?_)
      refine (findcmp_any wr l[hh] t).mono ?_
      rintro e w3 ⟨rfl, hb3⟩
      have hget : (l.map (·.1)).getD hh 0 = l[hh].1 := by simp [hhl]
      have hst : bsP (l.map (·.1)) t i j = if l[hh].1 < t then bsP (l.map (·.1)) t (hh + 1) j else bsP (l.map (·.1)) t i hh := by
        rw [bsP, dif_pos hlt, ← HHH.out, hget]
      have hneg := cmpP_neg l[hh].1 t
      obtain ⟨q, hq⟩ : ∃ q, q = cmpP l[hh].1 t := ⟨_, rfl⟩
      rw [← hq] at hneg ⊢
      have HST := Lib.hid hst
      have HB3 := Lib.hid (hbl.trans (hb3.mono hbl.size))
      clear hst hget hq hb3
      by_cases hx : l[hh].1 < t
      · have HX := Lib.hid hx
        have hqn := hneg.2 hx
        clear hneg hx
        go_wp2_with fail
        exact ⟨⟨hh + 1, j, by omega, hj, by push_cast; rfl, rfl, Lib.hid (by rw [← hb.out, HST.out, if_pos HX.out]), HB3.out⟩, by simp only [intOf]; omega⟩
      · have HX := Lib.hid hx
        have hqn : ¬ q < 0 := fun h => hx (hneg.1 h)
        clear hneg hx
        go_wp2_with fail
        exact ⟨⟨i, hh, hih, by omega, rfl, rfl, Lib.hid (by rw [← hb.out, HST.out, if_neg (by have := HX.out; omega)]), HB3.out⟩, by simp only [intOf]; omega⟩
    · have hij2 : i = j := by omega
      subst hij2
      have hir : i = r := by have := hb.out; rw [bsP, dif_neg (by omega)] at this; exact this
      subst hir
      have HBL := Lib.hid hbl
      by_cases hin : i < n
      · have hil : i < l.length := by have := HN.out; omega
        obtain ⟨_, _, hp⟩ := H.out.below hbl
        obtain ⟨b, off, rfl, hS, hbt, hca⟩ := hp (by omega)
        have HCA := Lib.hid (hca i hil)
        have hzero := cmpP_zero l[i].1 t
        have HG := Lib.hid (show l[i]? = some l[i] from List.getElem?_eq_getElem hil)
        clear hp hca hb
        go_wp2_with (refine wpList_load_mid_g (by rfl) 57 _ rfl b (off + i * 3) rfl (acs l[i]) _ HCA.out Tryz.underlying57 rfl (acs_size _) ?_)
        refine (findcmp_any wr l[i] t).mono ?_
        rintro e w3 ⟨rfl, hb3⟩
        obtain ⟨q, hq⟩ : ∃ q, q = cmpP l[i].1 t := ⟨_, rfl⟩
        rw [← hq] at hzero ⊢
        have HZ := Lib.hid hzero
        have HB3 := Lib.hid (HBL.out.trans (hb3.mono HBL.out.size))
        clear hzero hq hb3
        go_wp2_with fail
        go_ret2
        refine ⟨?_, HB3.out⟩
        have hd : decide (∃ a, l[i]? = some a ∧ a.1 = t) = (q == 0) := by
          rw [HG.out]
          rw [Bool.eq_iff_iff]
          simp [HZ.out]
        rw [hd]
        rfl
      · have hil : ¬ i < l.length := by have := HN.out; omega
        have HG := Lib.hid (show l[i]? = none from List.getElem?_eq_none (by omega))
        clear hb hbl
        go_wp2_with fail
        go_ret2
        refine ⟨?_, HBL.out⟩
        rw [HG.out]
        simp
def StA (w : World) (S : Nat → Prop) (l : List (Int × Int × Int × Unit)) (cs : List Value) : Prop :=
  cs.length = 6 ∧ (∀ u ∈ cs, u.oneCell' = true) ∧ l.length ≤ 1099511627776 ∧ ∃ A cap, cs[1]? = some (.slice A l.length cap) ∧ Accs w S A cap l
theorem StA.below {w w' : World} {S : Nat → Prop} {l : List (Int × Int × Int × Unit)} {cs : List Value} (h : StA w S l cs) (hb : Below w.heap.size w w') : StA w' S l cs := by
  obtain ⟨h1, h2, h3, A, cap, h4, h5⟩ := h
  exact ⟨h1, h2, h3, A, cap, h4, h5.below hb⟩
set_option maxRecDepth 100000 in
theorem find_any (w : World) {S : Nat → Prop} {l : List (Int × Int × Int × Unit)} {cs : List Value} (h : StA w S l cs) (t : Int) :
    Calls Tryz.prog 44 #[.agg cs.toArray, .int .u64 t] w fun e w' =>
      e = .returned (.tuple #[.int .i64 (bsP (l.map (·.1)) t 0 l.length), .bool (decide (∃ a, l[bsP (l.map (·.1)) t 0 l.length]? = some a ∧ a.1 = t))]) ∧ Below w.heap.size w w' := by
  obtain ⟨h1, _, h3, A, cap, h4, h5⟩ := h
  have hal := (Below.refl w.heap.size w).alloc (Nat.le_refl _) (.cells cs.toArray 34)
  have hc := (Blk.new w 34 cs.toArray).cell 1
  rw [getElem?_toArray, h4] at hc
  have HB := Lib.hid (bsearch_any _ (h5.below hal) h3 t)
  have HAL := Lib.hid hal
  clear h1 h3 h4 h5 hal
  go_enter Tryz.func44, Tryz.ntmps44
  go_wp2_with fail
  refine HB.out.mono ?_
  rintro e w1 ⟨rfl, hb1⟩
  go_wp2_with fail
  go_ret2
  exact ⟨rfl, HAL.out.trans (hb1.mono HAL.out.size)⟩
end
section
open Go.RowKit Go.Maps
attribute [-simp] Tryz.isAgg57 Tryz.typeInfo57 Tryz.isAgg34 Tryz.typeInfo34 Tryz.isAgg40 Tryz.typeInfo40 Tryz.isAgg37 Tryz.typeInfo37
def zAcc : List Value := [.int .u64 0, .int .u64 0, .int .u64 0]
theorem acs_one (a : Int × Int × Int × Unit) : ∀ u ∈ acs a, u.oneCell' = true := fun u hu => by
  simp only [acs, List.mem_cons, List.not_mem_nil, or_false] at hu
  rcases hu with rfl | rfl | rfl <;> rfl
theorem zAcc_len (a : Int × Int × Int × Unit) : zAcc.length = (acs a).length := by simp only [zAcc, acs, List.length_cons, List.length_nil]
theorem st_size {cs : List Value} (h : cs.length = 6) : (Tryz.prog.info? 34).map (·.size) = some cs.length := by rw [h]; kernel_rfl
set_option maxHeartbeats 4000000 in
set_option maxRecDepth 100000 in
theorem account_any (w : World) {S : Nat → Prop} {l : List (Int × Int × Int × Unit)} {cs : List Value} (h : StA w S l cs) (t : Int) :
    Calls Tryz.prog 23 #[.agg cs.toArray, .int .u64 t] w fun e w' => e = .returned (.agg (acs (acctP l t)).toArray) ∧ Below w.heap.size w w' := by
  have hal := (Below.refl w.heap.size w).alloc (Nat.le_refl _) (.cells cs.toArray 34)
  have hal2 := hal.alloc (by simp) (.cells zAcc.toArray 57)
  have hx := (Blk.new w 34 cs.toArray).alloc (.cells zAcc.toArray 57)
  have hy := Blk.new (w.alloc (.cells cs.toArray 34)) 57 zAcc.toArray
  rw [show (w.alloc (.cells cs.toArray 34)).heap.size = w.heap.size + 1 by simp] at hy
  have HF := Lib.hid (find_any _ (h.below hal2) t)
  have H := Lib.hid h
  have HI := Lib.hid (st_size h.1)
  have HX := Lib.hid hx
  have HY := Lib.hid hy
  have HAL := Lib.hid hal2
  clear h hx hy hal hal2
  go_enter Tryz.func23, Tryz.ntmps23
  go_wp2_with (refine wpList_load_blk' rfl 34 _ rfl HX.out rfl Tryz.underlying34 rfl HI.out ?_)
  refine HF.out.mono ?_
  rintro e w1 ⟨rfl, hb1⟩
  obtain ⟨r, hr⟩ : ∃ r, r = bsP (l.map (·.1)) t 0 l.length := ⟨_, rfl⟩
  have HR := Lib.hid hr
  rw [← hr]
  have HX1 := Lib.hid (HX.out.below hb1 HX.out.lt)
  have HY1 := Lib.hid (HY.out.below hb1 HY.out.lt)
  have HB1 := Lib.hid (HAL.out.trans (hb1.mono HAL.out.size))
  clear hr hb1 HF HX HY HAL
  by_cases hex : ∃ a, l[r]? = some a ∧ a.1 = t
  · obtain ⟨a, ha, hat⟩ := hex
    have hrl : r < l.length := (List.getElem?_eq_some_iff.1 ha).1
    have hac : acctP l t = a := by unfold acctP; rw [← HR.out, ha]; simp [hat]
    have hd : decide (∃ a, l[r]? = some a ∧ a.1 = t) = true := decide_eq_true ⟨a, ha, hat⟩
    rw [hd]
    have HAC := Lib.hid hac
    obtain ⟨_, _, _, A, cap, h4, h5⟩ := H.out.below HB1.out
    obtain ⟨_, _, hp⟩ := h5
    obtain ⟨b, off, rfl, hS, hbt, hca⟩ := hp (by omega)
    have hcr := hca r hrl
    rw [(List.getElem?_eq_some_iff.1 ha).2] at hcr
    have HCA := Lib.hid hcr
    have hcell : w1.cell? ⟨w.heap.size, 1, none⟩ = some (.slice (some ⟨b, off, none⟩) l.length cap) := by rw [HX1.out.cell, getElem?_toArray, h4]
    clear hp hca h4 hcr hd hac ha hat
    go_wp2_with (first
      | (refine wpList_load_mid rfl 57 _ rfl b (off + r * 3) rfl (acs a) _ HCA.out Tryz.underlying57 rfl (acs_size _) ?_)
      | (refine wpList_store_blk (cs0 := zAcc) (cs := acs a) rfl 57 _ _ rfl HY1.out rfl rfl (zAcc_len a) (acs_size a) (acs_one a) ?_; intro w9 hb9 hc9; have HB9 := Lib.hid hb9; have HC9 := Lib.hid hc9; clear hb9 hc9))
    have hld := run_loadVar_mid (P := Tryz.prog) w9 (w.heap.size + 1) 0 57 (acs a) _ HB9.out.range Tryz.underlying57 rfl (acs_size a)
    exact bodyPost_ret (v := .agg (acs a).toArray) (by simp [results, Tryz.results23, asAddr, hld, Act.put]) rfl ⟨by rw [HAC.out], HB1.out.trans (HC9.out.below HB1.out.size fun b h => by have h : b = w.heap.size + 1 := h; omega)⟩
  · have hac : acctP l t = (t, 0, 0, ()) := by
      unfold acctP
      rw [← HR.out]
      cases hg : l[r]? with
      | none => rfl
      | some a => exact if_neg fun e => hex ⟨a, hg, e⟩
    have hd : decide (∃ a, l[r]? = some a ∧ a.1 = t) = false := decide_eq_false hex
    rw [hd]
    have HAC := Lib.hid hac
    clear hd hac hex
    go_wp2_with (refine wpList_store_blk (cs0 := zAcc) (cs := acs (t, 0, 0, ())) rfl 57 _ _ rfl HY1.out rfl rfl (zAcc_len _) (acs_size _) (acs_one _) ?_; intro w9 hb9 hc9; have HB9 := Lib.hid hb9; have HC9 := Lib.hid hc9; clear hb9 hc9)
    have hld := run_loadVar_mid (P := Tryz.prog) w9 (w.heap.size + 1) 0 57 (acs (t, 0, 0, ())) _ HB9.out.range Tryz.underlying57 rfl (acs_size _)
    exact bodyPost_ret (v := .agg (acs (t, 0, 0, ())).toArray) (by simp [results, Tryz.results23, asAddr, hld, Act.put]) rfl ⟨by rw [HAC.out], HB1.out.trans (HC9.out.below HB1.out.size fun b h => by have h : b = w.heap.size + 1 := h; omega)⟩
theorem tx_cells {w : World} {S : Nat → Prop} {x : TxE} {cs : List Value} (h : tTx.rep w S x cs) : cs[0]? = some (.int .i64 (kindX x)) ∧ cs[1]? = some (.int .u64 (fromX x)) ∧ cs[4]? = some (.int .u64 (nonceX x)) ∧ cs.length = 41 := by
  obtain ⟨x0, x1, x2, x3, x4, x5, x6, x7, x8, x9, _⟩ := x
  have hl := Sh.rep_size _ _ _ h
  obtain ⟨c0, _, rfl, ⟨rfl, _⟩, c1, _, rfl, ⟨rfl, _⟩, c2, _, rfl, ⟨rfl, _⟩, c3, _, rfl, ⟨rfl, _⟩, c4, _, rfl, ⟨rfl, _⟩, _⟩ := h
  exact ⟨rfl, rfl, rfl, hl⟩
set_option maxRecDepth 100000 in
theorem spends_any (w : World) {S : Nat → Prop} {x : TxE} {cs : List Value} (h : tTx.rep w S x cs) :
    Calls Tryz.prog 37 #[.agg cs.toArray] w fun e w' => e = .returned (.bool (spendsX x)) ∧ Below w.heap.size w w' := by
  obtain ⟨h0, _, _, _⟩ := tx_cells h
  have hal := (Below.refl w.heap.size w).alloc (Nat.le_refl _) (.cells cs.toArray 40)
  have hc := (Blk.new w 40 cs.toArray).cell 0
  rw [getElem?_toArray, h0] at hc
  obtain ⟨k, hk⟩ : ∃ k, k = kindX x := ⟨_, rfl⟩
  have hs : spendsX x = (decide (k = 1) || decide (k = 2)) := by rw [hk]; rfl
  rw [hs]
  rw [← hk] at hc
  have HAL := Lib.hid hal
  clear hal h h0 hk hs
  by_cases h1 : k = 1
  · subst h1
    go_enter Tryz.func37, Tryz.ntmps37
    go_wp2_with fail
    go_ret
    exact ⟨by simp, HAL.out⟩
  · go_enter Tryz.func37, Tryz.ntmps37
    go_wp2_with fail
    go_ret
    refine ⟨?_, HAL.out⟩
    simp [h1]
    by_cases h2 : k = 2 <;> simp [h1, h2]
theorem st_of {w : World} {S : Nat → Prop} {l : List (Int × Int × Int × Unit)} {cs : List Value} (h : StA w S l cs) : (Tryz.prog.info? 34).map (·.size) = some cs.length := st_size h.1
theorem tx_size {cs : List Value} (h : cs.length = 41) : (Tryz.prog.info? 40).map (·.size) = some cs.length := by rw [h]; kernel_rfl
end
section
open Go.RowKit
section
variable {P : Program} {ops : Array Oper} {Q : Exit → Act → World → Prop} {S S' : World → Prop} {late late' : List Nat}
theorem AnyS.weaken : ∀ (n : Nat) (listed : Array Bool) (a : Act) (w : World), (∀ i, listed.getD i true = false → late.contains i = true) → AnyS P ops Q S' late' n listed a w → AnyS P ops Q S late n listed a w
  | 0, _, _, _, _, h => h
  | n + 1, listed, a, w, hl, h => ⟨h.1, fun i hi => wpOp_mono (fun a' w' h' => ⟨fun hn => (by rw [hl i (mem_ready.1 hi).1] at hn; cases hn), AnyS.weaken n _ a' w' (fun k hk => by
      by_cases e : i = k
      · subst e
        exact hl i (mem_ready.1 hi).1
      · rw [getD_set_ne true e] at hk
        exact hl k hk) h'.2⟩) (h.2 i hi)⟩
def EffK (P : Program) (ops : Array Oper) (Q : Exit → Act → World → Prop) : List Oper → Act → World → (Act → World → Prop) → Prop
  | [], a, w, K => K a w
  | o :: r, a, w, K => wpList P ops (Exit.then (fun a' w' => EffK P ops Q r a' w' K) Q) [o] a w
theorem EffK.nil_ {a : Act} {w : World} {K : Act → World → Prop} (h : K a w) : EffK P ops Q [] a w K := h
theorem EffK.cons_ {o : Oper} {r : List Oper} {a : Act} {w : World} {K : Act → World → Prop} (h : ∀ Q' : Exit → Act → World → Prop, (∀ a w, EffK P ops Q r a w K → Q' .normal a w) → wpList P ops Q' [o] a w) : EffK P ops Q (o :: r) a w K :=
  h _ fun _ _ he => he
def chainPre (ops : Array Oper) : List Nat → Array Bool → Bool
  | [], _ => true
  | i :: r, listed => (Region.ready .any ops listed == [i]) && chainPre ops r (listed.setIfInBounds i true)
theorem Closed.chain : ∀ (E : List Nat) (listed : Array Bool), Closed ops listed → chainPre ops E listed = true → Closed ops (listedBy E listed)
  | [], _, h, _ => h
  | i :: r, listed, h, hc => by
    simp only [chainPre, Bool.and_eq_true, beq_iff_eq] at hc
    exact Closed.chain r _ (h.more (by rw [hc.1]; simp)) hc.2
theorem Closed.hoist {late : List Nat} : ∀ (H : List Nat) (listed : Array Bool), Closed ops listed → hoistOk ops late H listed = true → Closed ops (listedBy H listed)
  | [], _, h, _ => h
  | i :: r, listed, h, hc => by
    simp only [hoistOk, Bool.and_eq_true] at hc
    exact Closed.hoist r _ (h.more (by simpa using hc.1.1.2)) hc.2
theorem AnyS.chainK {n : Nat} {K : Act → World → Prop} : ∀ (E : List Nat) (listed : Array Bool) (a : Act) (w : World), E.all (fun i => late.contains i) = true → chainPre ops E listed = true → E.all (fun i => (ops[i]?).isSome) = true →
    (∀ a' w', K a' w' → AnyS P ops (NoPanic Q) S late n (listedBy E listed) a' w') → EffK P ops (NoPanic Q) (opsAt ops E) a w K → AnyS P ops (NoPanic Q) S late (E.length + n) listed a w
  | [], listed, a, w, _, _, _, hK, h => by simpa [opsAt, EffK, listedBy] using hK a w h
  | i :: r, listed, a, w, hl, hc, hs, hK, h => by
    simp only [List.all_cons, Bool.and_eq_true] at hl hs
    simp only [chainPre, Bool.and_eq_true, beq_iff_eq] at hc
    obtain ⟨o, ho⟩ := Option.isSome_iff_exists.1 hs.1
    rw [show (i :: r).length + n = r.length + n + 1 from by simp; omega]
    refine ⟨fun h0 => (by rw [hc.1] at h0; cases h0), fun j hj => ?_⟩
    rw [hc.1] at hj
    obtain rfl : j = i := by simpa using hj
    have hops : opsAt ops (j :: r) = o :: opsAt ops r := by simp [opsAt, ho]
    rw [hops] at h
    exact wpOp_mono (fun a' w' h' => ⟨fun hn => (by rw [hl.1] at hn; cases hn), AnyS.chainK r _ _ _ hl.2 hc.2 hs.2 hK h'⟩) (wpList_one ho h (fun h => h) (fun _ _ _ h => h))
theorem listedBy_less : ∀ (E : List Nat) (listed : Array Bool) (i : Nat), (listedBy E listed).getD i true = false → listed.getD i true = false
  | [], _, _, h => h
  | k :: r, listed, i, h => by
    have := listedBy_less r (listed.setIfInBounds k true) i h
    by_cases e : k = i
    · subst e
      simp only [Array.getD_eq_getD_getElem?, Array.getElem?_setIfInBounds] at this
      split at this
      · split at this <;> simp at this
      · rename_i hne; exact absurd trivial hne
    · rwa [getD_set_ne true e] at this
theorem listedBy_size : ∀ (E : List Nat) (listed : Array Bool), (listedBy E listed).size = listed.size
  | [], _ => rfl
  | k :: r, listed => by have := listedBy_size r (listed.setIfInBounds k true); simpa [listedBy] using this
theorem wp_region_two {id : Nat} {a : Act} {w : World} (H E H2 : List Nat) (S : World → Prop) (hm : P.follows .mixedOrders = true)
    (hsel : Region.noSelect ops = true) (hall : H.length + (E.length + (H2.length + 0)) = ops.size) (hok : hoistOk ops (E ++ H2) H (Array.replicate ops.size false) = true)
    (hch : chainPre ops E (listedBy H (Array.replicate ops.size false)) = true) (hsome : E.all (fun i => (ops[i]?).isSome) = true)
    (hok2 : hoistOk ops [] H2 (listedBy E (listedBy H (Array.replicate ops.size false))) = true)
    (hrest : (List.range ops.size).all (fun i => (listedBy H (Array.replicate ops.size false)).getD i true || (E ++ H2).contains i) = true)
    (hend : (Region.ready .any ops (listedBy H2 (listedBy E (listedBy H (Array.replicate ops.size false))))).isEmpty = true)
    (hS : S w.drew) (hH : HoistK P ops S H a fun a' => EffK P ops (NoPanic Q) (opsAt ops E) a' w.drew fun a2 w2 => HoistK P ops (fun _ => True) H2 a2 fun a3 =>
      ∀ Q' : Exit → Act → World → Prop, (∀ a w, Q .normal a w → Q' .normal a w) → wpList P ops Q' [] a3 w2) : (Code.region id ops true).wp P Q a w := by
  obtain ⟨a', hH, h⟩ := HoistK.out _ _ _ hH
  have hcl1 := Closed.hoist (late := E ++ H2) H _ (Closed.start ops.size) hok
  have hcl2 := Closed.chain E _ hcl1 hch
  have hrest' : ∀ i, (listedBy H (Array.replicate ops.size false)).getD i true = false → (E ++ H2).contains i = true := fun i hi => by
    have hlt : i < ops.size := by
      rcases Nat.lt_or_ge i ops.size with h | h
      · exact h
      · have := listedBy_size H (Array.replicate ops.size false)
        rw [Array.getD_eq_getD_getElem?, Array.getElem?_eq_none (by rw [this]; simpa using h)] at hi
        cases hi
    have := List.all_eq_true.1 hrest i (List.mem_range.2 hlt)
    rw [hi] at this
    simpa using this
  have hmid : AnyS P ops (NoPanic Q) S (E ++ H2) (E.length + (H2.length + 0)) (listedBy H (Array.replicate ops.size false)) a' w.drew := by
    refine AnyS.chainK E _ _ _ (List.all_eq_true.2 fun i hi => by simp [hi]) hch hsome (fun a2 w2 h2 => ?_) h
    obtain ⟨a3, hH2, h3⟩ := HoistK.out _ _ _ h2
    have hq : NoPanic Q .normal a3 w2 := h3 (NoPanic Q) (fun _ _ h => h)
    have := AnyS.hoist (Q := Q) (late := []) hsel (S := fun _ => True) trivial H2 0 _ a2 hcl2 hok2 hH2 ⟨by simpa using hend, hq⟩
    exact AnyS.weaken _ _ _ _ (fun i hi => hrest' i (listedBy_less E _ i hi)) this
  have hfin := AnyS.hoist (Q := Q) (late := E ++ H2) hsel hS H _ _ a (Closed.start _) hok hH hmid
  rw [hall] at hfin
  exact wp_region_noPanic (wp_region_any hm (AnyS.any (S := S) (late := E ++ H2) _ _ _ _ hfin))
end
end
section
open Go.RowKit
section
variable {P : Program} {ops : Array Oper} {Q : Exit → Act → World → Prop} {S : World → Prop}
def EffS (P : Program) (ops : Array Oper) (Q : Exit → Act → World → Prop) (S : World → Prop) : List Oper → Act → World → (Act → World → Prop) → Prop
  | [], a, w, K => K a w
  | o :: r, a, w, K => wpList P ops (Exit.then (fun a' w' => S w' ∧ EffS P ops Q S r a' w' K) Q) [o] a w
theorem EffS.nil_ {a : Act} {w : World} {K : Act → World → Prop} (h : K a w) : EffS P ops Q S [] a w K := h
theorem EffS.cons_ {o : Oper} {r : List Oper} {a : Act} {w : World} {K : Act → World → Prop} (h : ∀ Q' : Exit → Act → World → Prop, (∀ a w, S w → EffS P ops Q S r a w K → Q' .normal a w) → wpList P ops Q' [o] a w) : EffS P ops Q S (o :: r) a w K :=
  h _ fun _ _ hs he => ⟨hs, he⟩
theorem AnyS.chainS {n : Nat} {K : Act → World → Prop} : ∀ (E : List Nat) (listed : Array Bool) (a : Act) (w : World), chainPre ops E listed = true → E.all (fun i => (ops[i]?).isSome) = true → S w →
    (∀ a' w', S w' → K a' w' → AnyS P ops (NoPanic Q) S [] n (listedBy E listed) a' w') → EffS P ops (NoPanic Q) S (opsAt ops E) a w K → AnyS P ops (NoPanic Q) S [] (E.length + n) listed a w
  | [], listed, a, w, _, _, hS, hK, h => by simpa [opsAt, EffS, listedBy] using hK a w hS h
  | i :: r, listed, a, w, hc, hs, hS, hK, h => by
    simp only [List.all_cons, Bool.and_eq_true] at hs
    simp only [chainPre, Bool.and_eq_true, beq_iff_eq] at hc
    obtain ⟨o, ho⟩ := Option.isSome_iff_exists.1 hs.1
    rw [show (i :: r).length + n = r.length + n + 1 from by simp; omega]
    refine ⟨fun h0 => (by rw [hc.1] at h0; cases h0), fun j hj => ?_⟩
    rw [hc.1] at hj
    obtain rfl : j = i := by simpa using hj
    have hops : opsAt ops (j :: r) = o :: opsAt ops r := by simp [opsAt, ho]
    rw [hops] at h
    exact wpOp_mono (fun a' w' h' => ⟨fun _ => h'.1, AnyS.chainS r _ _ _ hc.2 hs.2 h'.1 hK h'.2⟩) (wpList_one ho h (fun h => h) (fun _ _ _ h => h))
def SegK (P : Program) (ops : Array Oper) (Q : Exit → Act → World → Prop) (S : World → Prop) : List (List Nat × List Nat) → Act → World → Prop
  | [], a, w => ∀ Q' : Exit → Act → World → Prop, (∀ a w, Q .normal a w → Q' .normal a w) → wpList P ops Q' [] a w
  | (H, E) :: r, a, w => HoistK P ops S H a fun a' => EffS P ops (NoPanic Q) S (opsAt ops E) a' w (SegK P ops Q S r)
def segsOk (ops : Array Oper) : List (List Nat × List Nat) → Array Bool → Bool
  | [], listed => (Region.ready .any ops listed).isEmpty
  | (H, E) :: r, listed => hoistOk ops [] H listed && chainPre ops E (listedBy H listed) && E.all (fun i => (ops[i]?).isSome) && segsOk ops r (listedBy E (listedBy H listed))
def segsLen : List (List Nat × List Nat) → Nat
  | [] => 0
  | (H, E) :: r => H.length + (E.length + segsLen r)
theorem AnyS.segs (hsel : Region.noSelect ops = true) : ∀ (segs : List (List Nat × List Nat)) (listed : Array Bool) (a : Act) (w : World), Closed ops listed → segsOk ops segs listed = true → S w → SegK P ops Q S segs a w → AnyS P ops (NoPanic Q) S [] (segsLen segs) listed a w
  | [], listed, a, w, _, hok, _, h => ⟨by simpa [segsOk] using hok, (h (NoPanic Q) (fun _ _ h => h) : NoPanic Q .normal a w)⟩
  | (H, E) :: r, listed, a, w, hcl, hok, hS, h => by
    simp only [segsOk, Bool.and_eq_true] at hok
    obtain ⟨⟨⟨h1, h2⟩, h3⟩, h4⟩ := hok
    obtain ⟨a', hH, h⟩ := HoistK.out _ _ _ h
    have hcl1 := Closed.hoist (late := []) H _ hcl h1
    have hcl2 := Closed.chain E _ hcl1 h2
    exact AnyS.hoist hsel hS H _ _ a hcl h1 hH (AnyS.chainS E _ _ _ h2 h3 hS (fun a2 w2 hs2 hk => AnyS.segs hsel r _ a2 w2 hcl2 h4 hs2 hk) h)
theorem wp_region_segs {id : Nat} {a : Act} {w : World} (segs : List (List Nat × List Nat)) (S : World → Prop) (hm : P.follows .mixedOrders = true) (hsel : Region.noSelect ops = true)
    (hall : segsLen segs = ops.size) (hok : segsOk ops segs (Array.replicate ops.size false) = true) (hS : S w.drew) (h : SegK P ops Q S segs a w.drew) : (Code.region id ops true).wp P Q a w := by
  have hfin := AnyS.segs (Q := Q) hsel segs _ a _ (Closed.start ops.size) hok hS h
  rw [hall] at hfin
  exact wp_region_noPanic (wp_region_any hm (AnyS.any (S := S) (late := []) _ _ _ _ hfin))
end
end
section
open Go.RowKit
section
variable {P : Program} {ops : Array Oper} {Q : Exit → Act → World → Prop}
theorem AnyS.weak {S S' : World → Prop} {late : List Nat} (h : ∀ w, S' w → S w) : ∀ (n : Nat) (listed : Array Bool) (a : Act) (w : World), AnyS P ops Q S' late n listed a w → AnyS P ops Q S late n listed a w
  | 0, _, _, _, k => k
  | n + 1, _, _, _, k => ⟨k.1, fun i hi => wpOp_mono (fun _ _ k' => ⟨fun hl => h _ (k'.1 hl), AnyS.weak h n _ _ _ k'.2⟩) (k.2 i hi)⟩
def SegV (P : Program) (ops : Array Oper) (Q : Exit → Act → World → Prop) : (World → Prop) → List (List Nat × List Nat) → Act → World → Prop
  | _, [], a, w => ∀ Q' : Exit → Act → World → Prop, (∀ a w, Q .normal a w → Q' .normal a w) → wpList P ops Q' [] a w
  | S, (H, E) :: r, a, w => ∃ S' : World → Prop, (∀ w, S' w → S w) ∧ S' w ∧ HoistK P ops S' H a fun a' => EffS P ops (NoPanic Q) S' (opsAt ops E) a' w (SegV P ops Q S' r)
theorem SegV.mk {S : World → Prop} (S' : World → Prop) {H E : List Nat} {r : List (List Nat × List Nat)} {a : Act} {w : World} (h : ∀ w, S' w → S w) (hS : S' w) (k : HoistK P ops S' H a fun a' => EffS P ops (NoPanic Q) S' (opsAt ops E) a' w (SegV P ops Q S' r)) : SegV P ops Q S ((H, E) :: r) a w := ⟨S', h, hS, k⟩
theorem AnyS.segsV (hsel : Region.noSelect ops = true) : ∀ (segs : List (List Nat × List Nat)) (S : World → Prop) (listed : Array Bool) (a : Act) (w : World), Closed ops listed → segsOk ops segs listed = true → SegV P ops Q S segs a w → AnyS P ops (NoPanic Q) S [] (segsLen segs) listed a w
  | [], _, listed, a, w, _, hok, h => ⟨by simpa [segsOk] using hok, (h (NoPanic Q) (fun _ _ h => h) : NoPanic Q .normal a w)⟩
  | (H, E) :: r, S, listed, a, w, hcl, hok, ⟨S', hSS, hS, h⟩ => by
    simp only [segsOk, Bool.and_eq_true] at hok
    obtain ⟨⟨⟨h1, h2⟩, h3⟩, h4⟩ := hok
    obtain ⟨a', hH, h⟩ := HoistK.out _ _ _ h
    have hcl1 := Closed.hoist (late := []) H _ hcl h1
    have hcl2 := Closed.chain E _ hcl1 h2
    exact AnyS.weak hSS _ _ _ _ (AnyS.hoist hsel hS H _ _ a hcl h1 hH (AnyS.chainS E _ _ _ h2 h3 hS (fun a2 w2 _ hk => AnyS.segsV hsel r S' _ a2 w2 hcl2 h4 hk) h))
theorem wp_region_segsV {id : Nat} {a : Act} {w : World} (segs : List (List Nat × List Nat)) (hm : P.follows .mixedOrders = true) (hsel : Region.noSelect ops = true)
    (hall : segsLen segs = ops.size) (hok : segsOk ops segs (Array.replicate ops.size false) = true) (h : SegV P ops Q (fun _ => True) segs a w.drew) : (Code.region id ops true).wp P Q a w := by
  have hfin := AnyS.segsV (Q := Q) hsel segs (fun _ => True) _ a _ (Closed.start ops.size) hok h
  rw [hall] at hfin
  exact wp_region_noPanic (wp_region_any hm (AnyS.any (S := fun _ => True) (late := []) _ _ _ _ hfin))
end
end
section
open Go.RowKit Go.Maps
attribute [-simp] Tryz.isAgg34 Tryz.typeInfo34 Tryz.isAgg40 Tryz.typeInfo40 Tryz.isAgg37 Tryz.typeInfo37
theorem field_nonce (a : Int × Int × Int × Unit) (w : World) : (Instr.field 57 (.agg #[.int .u64 a.1, .int .u64 a.2.1, .int .u64 a.2.2.1]) 2).run Tryz.prog w = .ok (.int .u64 a.2.2.1) w := by
  unfold Instr.field
  simp [run_underlying Tryz.underlying57, asAgg, part, sizeOf, typeInfo, Sem.run_bind]
set_option maxHeartbeats 4000000 in
set_option maxRecDepth 100000 in
theorem stale_any (w : World) {S T : Nat → Prop} {l : List (Int × Int × Int × Unit)} {ss : List Value} {x : TxE} {cs : List Value} (hs : StA w S l ss) (h : tTx.rep w T x cs) :
    Calls Tryz.prog 32 #[.agg ss.toArray, .agg cs.toArray] w fun e w' => e = .returned (.bool (staleX l x)) ∧ Below w.heap.size w w' := by
  obtain ⟨h0, h1, h4, hl⟩ := tx_cells h
  have hal := (Below.refl w.heap.size w).alloc (Nat.le_refl _) (.cells ss.toArray 34)
  have hal2 := hal.alloc (by simp) (.cells cs.toArray 40)
  have hx := (Blk.new w 34 ss.toArray).alloc (.cells cs.toArray 40)
  have hy := Blk.new (w.alloc (.cells ss.toArray 34)) 40 cs.toArray
  rw [show (w.alloc (.cells ss.toArray 34)).heap.size = w.heap.size + 1 by simp] at hy
  have HI := Lib.hid (st_of hs)
  have HJ := Lib.hid (tx_size hl)
  have HS := Lib.hid hs
  have H := Lib.hid h
  have HX := Lib.hid hx
  have HY := Lib.hid hy
  have HAL := Lib.hid hal2
  have HC1 := Lib.hid h1
  have HC4 := Lib.hid h4
  clear hs h hx hy hal hal2 h0 h1 h4 hl
  go_enter Tryz.func32, Tryz.ntmps32
  go_wp2_with fail
  have hx := HX.out.drew
  have hy := HY.out.drew
  have hb := HAL.out.drew
  refine wp_region_segsV [([0], [1]), ([2, 3, 4, 5, 6, 7], [8]), ([9, 10, 11], [12])] (by kernel_rfl) (by kernel_rfl) (by kernel_rfl) (by kernel_rfl)
    (SegV.mk (fun w' => Blk w' w.heap.size 34 ss.toArray ∧ Blk w' (w.heap.size + 1) 40 cs.toArray) (fun _ _ => trivial) ⟨hx, hy⟩ ?_)
  (refine HoistK.load (by rfl) (by kernel_rfl) 40 _ rfl (w.heap.size + 1) 0 rfl cs _ (fun w' hw => hw.2.range) Tryz.underlying40 rfl HJ.out ?_; simp only [Act.put, setIfInBounds_toArray, getElem_toArray, getElem_cons_zero, set_cons_succ, set_cons_zero])
  refine HoistK.nil_ ?_
  simp only [opsAt, filterMap_cons, filterMap_nil, getElem?_toArray, getElem?_cons_succ, getElem?_cons_zero]
  refine EffS.cons_ fun _ hQ => ?_
  go_wp2_with fail
  refine (spends_any _ (Sh.rep_below H.out hb)).mono ?_
  rintro e w2 ⟨rfl, hb2⟩
  have hx2 := hx.below hb2 hx.lt
  have hy2 := hy.below hb2 hy.lt
  replace hb2 := hb.trans (hb2.mono hb.size)
  clear hx hy hb
  obtain ⟨b, hbs⟩ : ∃ b, b = spendsX x := ⟨_, rfl⟩
  rw [← hbs]
  have HSP := Lib.hid hbs.symm
  clear hbs
  go_wp2_with fail
  refine hQ _ _ ⟨hx2, hy2⟩ (EffS.nil_ (SegV.mk (fun w' => Blk w' w.heap.size 34 ss.toArray ∧ Blk w' (w.heap.size + 1) 40 cs.toArray) (fun _ h => h) ⟨hx2, hy2⟩ ?_))
  cases b
  · (refine HoistK.yes (by rfl) (by kernel_rfl) ⟨?_, fun w' hSw => ?_, ?_⟩; rotate_left; (· go_simp; try with_reducible rfl); simp only [Act.put, setIfInBounds_toArray, getElem_toArray, getElem_cons_succ, getElem_cons_zero, set_cons_succ, set_cons_zero])
    (refine HoistK.no (by rfl) (by kernel_rfl) ?_; simp only [Act.put, setIfInBounds_toArray, getElem_toArray, getElem_cons_succ, getElem_cons_zero, set_cons_succ, set_cons_zero])
    (refine HoistK.no (by rfl) (by kernel_rfl) ?_; simp only [Act.put, setIfInBounds_toArray, getElem_toArray, getElem_cons_succ, getElem_cons_zero, set_cons_succ, set_cons_zero])
    (refine HoistK.no (by rfl) (by kernel_rfl) ?_; simp only [Act.put, setIfInBounds_toArray, getElem_toArray, getElem_cons_succ, getElem_cons_zero, set_cons_succ, set_cons_zero])
    (refine HoistK.no (by rfl) (by kernel_rfl) ?_; simp only [Act.put, setIfInBounds_toArray, getElem_toArray, getElem_cons_succ, getElem_cons_zero, set_cons_succ, set_cons_zero])
    (refine HoistK.no (by rfl) (by kernel_rfl) ?_; simp only [Act.put, setIfInBounds_toArray, getElem_toArray, getElem_cons_succ, getElem_cons_zero, set_cons_succ, set_cons_zero])
    refine HoistK.nil_ ?_
    simp only [opsAt, filterMap_cons, filterMap_nil, getElem?_toArray, getElem?_cons_succ, getElem?_cons_zero]
    refine EffS.cons_ fun _ hQ => ?_
    go_wp2_with fail
    refine hQ _ _ ⟨hx2, hy2⟩ (EffS.nil_ (SegV.mk (fun w' => Blk w' w.heap.size 34 ss.toArray ∧ Blk w' (w.heap.size + 1) 40 cs.toArray) (fun _ h => h) ⟨hx2, hy2⟩ ?_))
    (refine HoistK.no (by rfl) (by kernel_rfl) ?_; simp only [Act.put, setIfInBounds_toArray, getElem_toArray, getElem_cons_succ, getElem_cons_zero, set_cons_succ, set_cons_zero])
    (refine HoistK.no (by rfl) (by kernel_rfl) ?_; simp only [Act.put, setIfInBounds_toArray, getElem_toArray, getElem_cons_succ, getElem_cons_zero, set_cons_succ, set_cons_zero])
    (refine HoistK.yes (by rfl) (by kernel_rfl) ⟨?_, fun w' hSw => ?_, ?_⟩; rotate_left; (· go_simp; try with_reducible rfl); simp only [Act.put, setIfInBounds_toArray, getElem_toArray, getElem_cons_succ, getElem_cons_zero, set_cons_succ, set_cons_zero])
    refine HoistK.nil_ ?_
    simp only [opsAt, filterMap_cons, filterMap_nil, getElem?_toArray, getElem?_cons_succ, getElem?_cons_zero]
    refine EffS.cons_ fun _ hQ => ?_
    go_wp2_with fail
    refine hQ _ _ ⟨hx2, hy2⟩ (EffS.nil_ fun _ hQ => ?_)
    go_wp2_with fail
    go_ret
    exact ⟨by rw [show staleX l x = false from by unfold staleX; rw [HSP.out]; rfl]; rfl, hb2⟩
  · (refine HoistK.yes (by rfl) (by kernel_rfl) ⟨?_, fun w' hSw => ?_, ?_⟩; rotate_left; (· go_simp; try with_reducible rfl); simp only [Act.put, setIfInBounds_toArray, getElem_toArray, getElem_cons_succ, getElem_cons_zero, set_cons_succ, set_cons_zero])
    (refine HoistK.yes (by rfl) (by kernel_rfl) ⟨?_, fun w' hSw => ?_, ?_⟩; rotate_left; (· go_simp; try with_reducible rfl); simp only [Act.put, setIfInBounds_toArray, getElem_toArray, getElem_cons_succ, getElem_cons_zero, set_cons_succ, set_cons_zero])
    (refine HoistK.yes (by rfl) (by kernel_rfl) ⟨?_, fun w' hSw => ?_, ?_⟩; rotate_left; (· have hcc : w'.cell? ⟨w.heap.size + 1, 4, none⟩ = some (.int .u64 (nonceX x)) := (by rw [hSw.2.cell, getElem?_toArray, HC4.out]); go_simp; try with_reducible rfl); simp only [Act.put, setIfInBounds_toArray, getElem_toArray, getElem_cons_succ, getElem_cons_zero, set_cons_succ, set_cons_zero])
    (refine HoistK.load (by rfl) (by kernel_rfl) 34 _ rfl w.heap.size 0 rfl ss _ (fun w' hw => hw.1.range) Tryz.underlying34 rfl HI.out ?_; simp only [Act.put, setIfInBounds_toArray, getElem_toArray, getElem_cons_succ, getElem_cons_zero, set_cons_succ, set_cons_zero])
    (refine HoistK.yes (by rfl) (by kernel_rfl) ⟨?_, fun w' hSw => ?_, ?_⟩; rotate_left; (· go_simp; try with_reducible rfl); simp only [Act.put, setIfInBounds_toArray, getElem_toArray, getElem_cons_succ, getElem_cons_zero, set_cons_succ, set_cons_zero])
    (refine HoistK.yes (by rfl) (by kernel_rfl) ⟨?_, fun w' hSw => ?_, ?_⟩; rotate_left; (· have hcc : w'.cell? ⟨w.heap.size + 1, 1, none⟩ = some (.int .u64 (fromX x)) := (by rw [hSw.2.cell, getElem?_toArray, HC1.out]); go_simp; try with_reducible rfl); simp only [Act.put, setIfInBounds_toArray, getElem_toArray, getElem_cons_succ, getElem_cons_zero, set_cons_succ, set_cons_zero])
    refine HoistK.nil_ ?_
    simp only [opsAt, filterMap_cons, filterMap_nil, getElem?_toArray, getElem?_cons_succ, getElem?_cons_zero]
    refine EffS.cons_ fun _ hQ => ?_
    go_wp2_with fail
    refine (account_any _ (HS.out.below hb2) (fromX x)).mono ?_
    rintro e w3 ⟨rfl, hb3⟩
    have hx3 := hx2.below hb3 hx2.lt
    have hy3 := hy2.below hb3 hy2.lt
    have hb23 := hb2.trans (hb3.mono hb2.size)
    obtain ⟨a, ha⟩ : ∃ a, a = acctP l (fromX x) := ⟨_, rfl⟩
    have HA := Lib.hid ha
    rw [← ha]
    clear ha hb3
    go_wp2_with fail
    refine hQ _ _ ⟨hx3, hy3⟩ (EffS.nil_ (SegV.mk (fun w' => Blk w' w.heap.size 34 ss.toArray ∧ Blk w' (w.heap.size + 1) 40 cs.toArray) (fun _ h => h) ⟨hx3, hy3⟩ ?_))
    (refine HoistK.yes (by rfl) (by kernel_rfl) ⟨?_, fun w' hSw => ?_, ?_⟩; rotate_left; (· have hfn := field_nonce a w'; unfold acs; go_simp; try with_reducible rfl); simp only [Act.put, setIfInBounds_toArray, getElem_toArray, getElem_cons_succ, getElem_cons_zero, set_cons_succ, set_cons_zero])
    iterate 2 (refine HoistK.yes (by rfl) (by kernel_rfl) ⟨?_, fun w' hSw => ?_, ?_⟩; rotate_left; (· go_simp; try with_reducible rfl); simp only [Act.put, setIfInBounds_toArray, getElem_toArray, getElem_cons_succ, getElem_cons_zero, set_cons_succ, set_cons_zero])
    refine HoistK.nil_ ?_
    simp only [opsAt, filterMap_cons, filterMap_nil, getElem?_toArray, getElem?_cons_succ, getElem?_cons_zero]
    refine EffS.cons_ fun _ hQ => ?_
    go_wp2_with fail
    refine hQ _ _ ⟨hx3, hy3⟩ (EffS.nil_ fun _ hQ => ?_)
    go_wp2_with fail
    go_ret
    refine ⟨?_, hb23⟩
    rw [show staleX l x = decide (nonceX x < a.2.2.1) from by unfold staleX; rw [HSP.out, ← HA.out]; rfl]
    first | rfl | simp
end
section
open Go.RowKit Go.Maps
section
variable {P : Program} {ops : Array Oper} {rest : List Oper} {op : Oper} {a : Act} {w : World} {Q : Exit → Act → World → Prop}
theorem wpList_store_part (hgd : op.guard = none) (ty : TypeId) (x y : Operand) (ho : op.op = .store ty x y) {B off : Nat} {T : TypeId} {pre old vals post : List Value} (hb : Blk w B T (pre ++ (old ++ post)).toArray) (hoff : pre.length = off) (hx : a.eval x = .pointer (some ⟨B, off, none⟩))
    {v : Value} (hy : a.eval y = v) (hv : v.cells = vals.toArray) (hl : old.length = vals.length) (hi : (P.info? ty).map (·.size) = some vals.length) (h1 : ∀ u ∈ vals, u.oneCell' = true)
    (h : ∀ w', Blk w' B T ((pre ++ vals) ++ post).toArray → Chg (fun b => b = B) w w' → wpList P ops Q rest (a.put op.dst undef) w') : wpList P ops Q (op :: rest) a w := by
  subst hoff
  have ht : w.there B pre.length vals.length := fun j hj => by
    rw [hb.cell]
    exact ⟨by simp; omega, hb.frozen _⟩
  have hrun : (storeVar ty ⟨B, pre.length, none⟩ v).run P w = .ok () (w.setCells B pre.length vals) := by
    have := run_storeCells_cells (P := P) B pre.length vals 0 w (fun j hj => by simpa using (ht j hj).1) (fun j hj => by simpa using (ht j hj).2) (fun v hv => h1 v hv)
    cases hq : P.info? ty with
    | none => simp [hq] at hi
    | some i =>
      have hs : vals.length = i.size := by simp [hq] at hi; omega
      simp only [Nat.add_zero] at this
      simp [storeVar, sizeOf, typeInfo, hq, hv, hs, this]
  refine wpList_plain hgd fun _ hK => ?_
  unfold Oper.wp execOp
  simp only [ho, hx, hy, Instr.storeAt, Instr.sureAddr, Sem.run_bind, Sem.run_pure, Result.andThen_ok, hrun]
  refine hK _ _ (h _ ?_ (Chg.setCells (M := fun b => b = B) (.inl rfl) _ _ _ (Chg.refl _ w)))
  have := Blk.setCells vals pre.length w _ hb (by simp; omega)
  have e : (pre ++ (old ++ post)).take pre.length ++ vals ++ (pre ++ (old ++ post)).drop (pre.length + vals.length) = (pre ++ vals) ++ post := by
    rw [List.take_left' rfl, ← List.drop_drop, List.drop_left' rfl, ← hl, List.drop_left' rfl]
  rwa [e] at this
end
section
variable {P : Program} {ops : Array Oper} {rest : List Oper} {op : Oper} {a : Act} {w : World} {Q : Exit → Act → World → Prop}
theorem wpList_store_cell (hgd : op.guard = none) (ty : TypeId) (x y : Operand) (ho : op.op = .store ty x y) {B off : Nat} {T : TypeId} {cs : List Value} (hb : Blk w B T cs.toArray) (hx : a.eval x = .pointer (some ⟨B, off, none⟩)) (hoff : off < cs.length)
    {v : Value} (hy : a.eval y = v) (hv : v.cells = #[v]) (hi : (P.info? ty).map (·.size) = some 1) (h1 : v.oneCell' = true)
    (h : ∀ w', Blk w' B T (cs.set off v).toArray → Chg (fun b => b = B) w w' → wpList P ops Q rest (a.put op.dst undef) w') : wpList P ops Q (op :: rest) a w := by
  have e : cs = cs.take off ++ ([cs[off]] ++ cs.drop (off + 1)) := by simp
  have hl : (cs.take off).length = off := by rw [List.length_take]; omega
  rw [e] at hb
  refine wpList_store_part (vals := [v]) hgd ty x y ho hb hl hx hy hv (by simp) (by simpa using hi) (fun u hu => by obtain rfl := List.mem_singleton.1 hu; exact h1) fun w' hb' hc' => h w' ?_ hc'
  have e2 : cs.set off v = (cs.take off ++ [v]) ++ cs.drop (off + 1) := by
    rw [List.set_eq_take_append_cons_drop, if_pos hoff]; simp
  rw [e2]
  exact hb'
end
end
section
open Go.RowKit
theorem nk_t' : nk true = .i64 := rfl
def litB (b : UInt8) : Lit := .int .u8 b.toNat
theorem keyLits_int {d : Nat} {t : TypeId} {n : Int} (ht : Tryz.prog.underlying t = some (.int .i64)) (hn : (nk true).wrap n = n) : Tryz.prog.keyLits (d + 1) t [.int .i64 n] = some [.int .i64 n] := by
  have hw : (Lit.int .i64 n).wf = true := by
    have h : IntKind.i64.wrap n = n := hn
    simp only [Lit.wf, IntKind.min, IntKind.max, IntKind.signed, IntKind.bits, Bool.and_eq_true]
    rw [IntKind.wrap_i64] at h
    simp
    omega
  simp only [Program.keyLits, ht, hw, and_self, if_true]
theorem mapM_some {α β : Type} (f : α → Option β) (g : α → β) : ∀ (l : List α), (∀ a ∈ l, f a = some (g a)) → l.mapM f = some (l.map g)
  | [], _ => rfl
  | a :: r, h => by
    rw [List.mapM_cons, h a (by simp), mapM_some f g r fun b hb => h b (by simp [hb])]
    rfl
theorem flatten_ones {α β : Type} (f : α → β) : ∀ l : List α, (l.map fun i => [f i]).flatten = l.map f
  | [] => rfl
  | a :: r => by rw [List.map_cons, List.flatten_cons, flatten_ones f r]; rfl
set_option maxRecDepth 10000 in
theorem keyLits_dig {d : Nat} {l : List UInt8} (hl : l.length = 32) : Tryz.prog.keyLits (d + 2) 37 (u8s l) = some (l.map litB) := by
  have h8 : ∀ b : UInt8, Tryz.prog.keyLits (d + 1) 5 [.int .u8 b.toNat] = some [litB b] := fun b => by
    have hw : (Lit.int .u8 b.toNat).wf = true := by
      have := b.toNat_lt
      simp only [Lit.wf, IntKind.min, IntKind.max, IntKind.signed, IntKind.bits, Bool.and_eq_true]
      simp
      omega
    simp only [Program.keyLits, Tryz.underlying5, hw, and_self, if_true]
    rfl
  have hc : Tryz.prog.cellsOf 5 = 1 := by kernel_rfl
  have hcd : Tryz.prog.cellsOf 37 = 32 := by kernel_rfl
  unfold Program.keyLits
  simp only [Tryz.underlying37, u8s_length, hl, hcd, if_true, hc, Nat.mul_one]
  rw [mapM_some _ (fun i => [litB (l.getD i 0)])]
  · rw [Option.map_some]
    congr 1
    refine List.ext_getElem? fun i => ?_
    rw [flatten_ones (fun i => litB (l.getD i 0))]
    rcases Nat.lt_or_ge i 32 with h | h
    · simp [List.getElem?_map, List.getElem?_range h, List.getElem?_eq_getElem (show i < l.length by omega), List.getD]
    · rw [List.getElem?_eq_none (by simpa using h), List.getElem?_eq_none (by simp; omega)]
  · intro i hi
    have hi : i < 32 := List.mem_range.1 hi
    have hil : i < l.length := by omega
    rw [show ((u8s l).drop i).take 1 = [.int .u8 ((l.getD i 0).toNat : Int)] by
      rw [List.drop_eq_getElem_cons (by rw [u8s_length]; exact hil)]
      simp [u8s, List.getD, hil]]
    exact h8 _
theorem litB_inj {a b : UInt8} (h : litB a = litB b) : a = b := by
  have h : (Lit.int .u8 a.toNat) = Lit.int .u8 b.toNat := h
  injection h with _ h
  exact UInt8.toNat_inj.1 (by omega)
theorem litsB_inj : ∀ {l k : List UInt8}, l.map litB = k.map litB → l = k
  | [], [], _ => rfl
  | [], _ :: _, h => by cases h
  | _ :: _, [], h => by cases h
  | a :: l, b :: k, h => by
    rw [List.map_cons, List.map_cons] at h
    injection h with h1 h2
    rw [litB_inj h1, litsB_inj h2]
set_option maxRecDepth 10000 in
theorem run_eq_dig {w' : World} {l m : List UInt8} (hl : l.length = 32) (hm : m.length = 32) : (Op.equal 37 (.agg (u8s l).toArray) (.agg (u8s m).toArray)).run Tryz.prog w' = .ok (decide (l = m)) w' := by
  have hc : Tryz.prog.cellsOf 37 = 32 := by kernel_rfl
  have hf : ∀ k : List UInt8, k.length = 32 → (Value.agg (u8s k).toArray).formed Tryz.prog 37 = true := fun k hk => by
    simp only [Value.formed, Tryz.underlying37, hc, List.size_toArray, u8s_length, hk]
    rfl
  obtain ⟨r, hr, hi⟩ := run_equalIn_deep (P := Tryz.prog) (10000 - 5) 5 37 (by kernel_rfl) w' 5 5 (.agg (u8s l).toArray) (.agg (u8s m).toArray) _ _ (hf l hl) (hf m hm) (keyLits_dig (d := 3) hl) (keyLits_dig (d := 3) hm)
  have e : r = decide (l = m) := by
    rw [Bool.eq_iff_iff, hi, decide_eq_true_iff]
    exact ⟨litsB_inj, fun h => by rw [h]⟩
  rw [← e]
  exact hr
end
section
open Go.RowKit Go.Maps
attribute [-simp] Tryz.isAgg40 Tryz.typeInfo40 Tryz.isAgg37 Tryz.typeInfo37
def txl (k f t a n d dl : Int) (id : List UInt8) (m : Int) (fs : Value) : List Value := [.int .i64 k, .int .u64 f, .int .u64 t, .int .u64 a, .int .u64 n, .int .i64 d, .int .i64 dl] ++ (u8s id ++ [.int .i64 m, fs])
theorem txl_len {k f t a n d dl : Int} {id : List UInt8} {m : Int} {fs : Value} (h : id.length = 32) : (txl k f t a n d dl id m fs).length = 41 := by simp [txl, u8s_length, h]
theorem txl_39 {k f t a n d dl : Int} {id : List UInt8} {m : Int} {fs : Value} (h : id.length = 32) : (txl k f t a n d dl id m fs)[39]? = some (.int .i64 m) := by
  unfold txl
  rw [List.getElem?_append_right (by simp), List.getElem?_append_right (by simp [u8s_length, h])]
  simp [u8s_length, h]
theorem txl_40 {k f t a n d dl : Int} {id : List UInt8} {m : Int} {fs : Value} (h : id.length = 32) : (txl k f t a n d dl id m fs)[40]? = some fs := by
  unfold txl
  rw [List.getElem?_append_right (by simp), List.getElem?_append_right (by simp [u8s_length, h])]
  simp [u8s_length, h]
theorem txl_set39 {k f t a n d dl : Int} {id : List UInt8} {m m' : Int} {fs : Value} (h : id.length = 32) : (txl k f t a n d dl id m fs).set 39 (.int .i64 m') = txl k f t a n d dl id m' fs := by
  unfold txl
  rw [List.set_append_right _ _ (by simp), List.set_append_right _ _ (by simp [u8s_length, h])]
  simp [u8s_length, h]
theorem txl_id {w : World} {B : Nat} {T : TypeId} {k f t a n d dl : Int} {id : List UInt8} {m : Int} {fs : Value} (hb : Blk w B T (txl k f t a n d dl id m fs).toArray) : w.rangeAt B 7 (u8s id) := fun j v hv => by
  have hj : j < (u8s id).length := (List.getElem?_eq_some_iff.1 hv).1
  rw [hb.cell, getElem?_toArray]
  unfold txl
  rw [List.getElem?_append_right (by simp), List.getElem?_append_left (by simpa using hj)]
  simpa using hv
theorem txl_of {w : World} {S : Nat → Prop} {x : TxE} {cs : List Value} (h : tTx.rep w S x cs) : ∃ A cap, cs = txl x.1 x.2.1 x.2.2.1 x.2.2.2.1 x.2.2.2.2.1 x.2.2.2.2.2.1 x.2.2.2.2.2.2.1 x.2.2.2.2.2.2.2.1 x.2.2.2.2.2.2.2.2.1 (.slice A (List.length (α := tFact.El) x.2.2.2.2.2.2.2.2.2.1) cap) ∧ List.length (α := UInt8) x.2.2.2.2.2.2.2.1 = 32 := by
  obtain ⟨x0, x1, x2, x3, x4, x5, x6, x7, x8, x9, _⟩ := x
  obtain ⟨c0, _, rfl, ⟨rfl, _⟩, c1, _, rfl, ⟨rfl, _⟩, c2, _, rfl, ⟨rfl, _⟩, c3, _, rfl, ⟨rfl, _⟩, c4, _, rfl, ⟨rfl, _⟩, c5, _, rfl, ⟨rfl, _⟩, c6, _, rfl, ⟨rfl, _⟩, c7, _, rfl, ⟨rfl, l7⟩, c8, _, rfl, ⟨rfl, _⟩, c9, _, rfl, ⟨v, _, rfl, hv, _⟩, rfl⟩ := h
  obtain ⟨A, cap, rfl⟩ := hv.form
  exact ⟨A, cap, by simp [txl, nk_t, nk_f], l7⟩
theorem txl_one {k f t a n d dl : Int} {id : List UInt8} {m : Int} {fs : Value} (h : fs.oneCell' = true) : ∀ u ∈ txl k f t a n d dl id m fs, u.oneCell' = true := by
  intro u hu
  unfold txl at hu
  simp only [List.mem_append, List.mem_cons, List.not_mem_nil, or_false] at hu
  rcases hu with (rfl | rfl | rfl | rfl | rfl | rfl | rfl) | hu | rfl | rfl
  all_goals first | rfl | exact u8s_one id u hu | exact h
def zTx : List Value := txl 0 0 0 0 0 0 0 (List.replicate 32 0) 0 (.slice none 0 0)
end
end Go.Proofs.YtkclkmjlodomkaaGreatDoor
