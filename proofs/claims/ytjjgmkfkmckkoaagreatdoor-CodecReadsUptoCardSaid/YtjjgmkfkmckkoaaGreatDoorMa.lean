/- Texts joined: Lib CdP CdR BeA BeB CdA0 Lib2 Hoist HoistL CdB0 CdD CdE CfA CgG CgH WholeC CfB Cut CfC CfD. -/
import Derived.Test.YtjjgmkfkmckkoaaGreatDoorRows
import Derived.WalkKit
import Derived.WalkSpells
import Derived.WalkLawsBesides
import Derived.Maps.AppendAt
import Derived.Deep.AppendLies
import Derived.Deep.Draws
import Derived.Lib.Hide
import Derived.Lib.EndianMore
import Derived.Laws.BitsAllLaws
import Derived.Lib.VarintMem
import Derived.Deep.RegionLaw
import Derived.Deep.RegionHeld3
import Derived.OrdersHeld
import Derived.Deep.MidRow
import Derived.Great.BuildSlice
import Derived.LaidEql
import Derived.Stop.Asserts
import Derived.RowKitTokens
import Derived.Stop.IfaceNil
import Derived.Laws.Cover3
import Derived.RegionTactic
namespace Go.Proofs.YtjjgmkfkmckkoaaGreatDoor
open List (setIfInBounds_toArray getElem_toArray getElem_cons_succ getElem_cons_zero set_cons_succ set_cons_zero filterMap_cons filterMap_nil getElem?_toArray getElem?_cons_succ getElem?_cons_zero)
theorem ltle {n m k : Nat} (h1 : n < m) (h2 : m ≤ k) : n < k := Nat.lt_of_lt_of_le h1 h2
section
open Go.RowKit
structure Chg (M : Nat → Prop) (w w' : World) : Prop where
  os : w'.os = w.os
  tape : w'.tape = w.tape
  output : w'.output = w.output
  size : w.heap.size ≤ w'.heap.size
  block : ∀ k, k < w.heap.size → ¬ M k → w'.heap[k]? = w.heap[k]?
def Blk (w : World) (g : Nat) (t : TypeId) (cs : Array Value) : Prop := w.heap[g]? = some (.cells cs t (0, 0))
section
variable {w w' w'' : World} {M M' : Nat → Prop} {g : Nat} {t : TypeId} {cs : Array Value}
theorem Chg.refl (M : Nat → Prop) (w : World) : Chg M w w := ⟨rfl, rfl, rfl, Nat.le_refl _, fun _ _ _ => rfl⟩
theorem Chg.trans (h : Chg M w w') (k : Chg M' w' w'') (hs : ∀ b, M' b → M b ∨ w.heap.size ≤ b) : Chg M w w'' :=
  ⟨k.os.trans h.os, k.tape.trans h.tape, k.output.trans h.output, Nat.le_trans h.size k.size, fun i hi hn =>
    (k.block i (ltle hi h.size) (fun hm => (hs i hm).elim hn (by omega))).trans (h.block i hi hn)⟩
theorem Chg.mono (h : Chg M w w') (hs : ∀ b, M b → M' b) : Chg M' w w' := ⟨h.os, h.tape, h.output, h.size, fun i hi hn => h.block i hi (fun hm => hn (hs i hm))⟩
theorem Chg.of_below (h : Below w.heap.size w w') (M : Nat → Prop) : Chg M w w' := ⟨h.os, h.tape, h.output, h.size, fun i hi _ => h.block i hi⟩
theorem Chg.below (h : Chg M w w') {B : Nat} (hB : B ≤ w.heap.size) (hm : ∀ b, M b → B ≤ b) : Below B w w' :=
  ⟨h.os, h.tape, h.output, h.size, fun i hi => h.block i (by omega) (fun hn => by have := hm i hn; omega)⟩
theorem Chg.drew (h : Chg M w w') : Chg M w w'.drew := ⟨h.os, h.tape, h.output, h.size, h.block⟩
theorem Chg.drewN (h : Chg M w w') (n : Nat) : Chg M w (w'.drewN n) := ⟨h.os, h.tape, h.output, h.size, h.block⟩
theorem Chg.alloc (h : Chg M w w') (o : Obj) : Chg M w (w'.alloc o) :=
  ⟨h.os, h.tape, h.output, Nat.le_trans h.size (by simp), fun i hi hn => (Below.heap_alloc w' o i (ltle hi h.size)).trans (h.block i hi hn)⟩
theorem Chg.setCell (h : Chg M w w') {p : Addr} (hp : M p.block ∨ w.heap.size ≤ p.block) (u : Value) : Chg M w (w'.setCell p u) :=
  ⟨h.os, h.tape, h.output, by simpa [World.setCell] using h.size, fun i hi hn => (Below.heap_setCell w' p u i (by
    rintro rfl
    rcases hp with hp | hp
    · exact hn hp
    · omega)).trans (h.block i hi hn)⟩
theorem Chg.setIn (h : Chg (fun b => b = g) w w') (i : Nat) (u : Value) : Chg (fun b => b = g) w (w'.setCell ⟨g, i, none⟩ u) := h.setCell (p := ⟨g, i, none⟩) (.inl rfl) u
theorem Chg.setOf (h : Chg M w w') (hg : M g) (i : Nat) (u : Value) : Chg M w (w'.setCell ⟨g, i, none⟩ u) := h.setCell (p := ⟨g, i, none⟩) (.inl hg) u
theorem Chg.setNew (h : Chg M w w') (hg : w.heap.size ≤ g) (i : Nat) (u : Value) : Chg M w (w'.setCell ⟨g, i, none⟩ u) := h.setCell (p := ⟨g, i, none⟩) (.inr hg) u
theorem Chg.grown (h : Chg M w w') {row : Option Nat} (hg : w'.grownBy w'' row) (hr : ∀ k, row = some k → M k ∨ w.heap.size ≤ k) : Chg M w w'' :=
  ⟨hg.os.trans h.os, hg.tape.trans h.tape, hg.output.trans h.output, Nat.le_trans h.size hg.size, fun i hi hn =>
    (hg.block i (ltle hi h.size) (fun e => (hr i e.symm).elim hn (by omega))).trans (h.block i hi hn)⟩
theorem below_drewN {B : Nat} {a w : World} (h : Below B a w) (n : Nat) : Below B a (w.drewN n) := ⟨h.os, h.tape, h.output, h.size, h.block⟩
theorem Blk.lt (h : Blk w g t cs) : g < w.heap.size := by
  rcases Nat.lt_or_ge g w.heap.size with hlt | hge
  · exact hlt
  · unfold Blk at h; rw [Array.getElem?_eq_none hge] at h; cases h
theorem Blk.cell (h : Blk w g t cs) (i : Nat) : w.cell? ⟨g, i, none⟩ = cs[i]? := cell_of_row w g i cs t (0, 0) h
theorem Blk.frozen (h : Blk w g t cs) (i : Nat) : w.frozen? ⟨g, i, none⟩ = false := by
  unfold Blk at h
  simp [World.frozen?, h]
theorem Blk.rules (h : Blk w g t cs) : (∀ i, w.cell? ⟨g, i, none⟩ = cs[i]?) ∧ (∀ i, w.frozen? ⟨g, i, none⟩ = false) := ⟨h.cell, h.frozen⟩
theorem Blk.new (w : World) (t : TypeId) (cs : Array Value) : Blk (w.alloc (.cells cs t)) w.heap.size t cs := heap_alloc_new w _
theorem Blk.drew (h : Blk w g t cs) : Blk w.drew g t cs := h
theorem Blk.drewN (h : Blk w g t cs) (n : Nat) : Blk (w.drewN n) g t cs := h
theorem Blk.alloc (h : Blk w g t cs) (o : Obj) : Blk (w.alloc o) g t cs := (Below.heap_alloc w o g h.lt).trans h
theorem Blk.set_ (h : Blk w g t cs) (i : Nat) (u : Value) : Blk (w.setCell ⟨g, i, none⟩ u) g t (cs.setIfInBounds i u) := by
  unfold Blk at h ⊢
  simp [World.setCell, Array.getElem?_modify, h]
theorem Blk.far (h : Blk w g t cs) {p : Addr} (hp : g ≠ p.block) (u : Value) : Blk (w.setCell p u) g t cs := (Below.heap_setCell w p u g hp).trans h
theorem Blk.below {B : Nat} (h : Blk w g t cs) (hb : Below B w w') (hg : g < B) : Blk w' g t cs := (hb.block g hg).trans h
theorem Blk.chg (h : Blk w g t cs) (hb : Chg M w w') (hg : ¬ M g) : Blk w' g t cs := (hb.block g h.lt hg).trans h
theorem Blk.grown {row : Option Nat} (h : Blk w g t cs) (hb : w.grownBy w' row) (hg : some g ≠ row) : Blk w' g t cs := (hb.block g h.lt hg).trans h
theorem Blk.ne_ {g' : Nat} {t' : TypeId} {cs' : Array Value} (h : Blk w g t cs) (h' : Blk w g' t' cs') (hne : t ≠ t') : g ≠ g' := by
  rintro rfl
  unfold Blk at h h'
  rw [h] at h'
  injection h' with h'
  injection h' with _ ht
  exact hne ht
theorem own_blk_ne {base : Nat} {e : TypeId} {size n : Nat} {v : Value} {xs : List Value} (h : w.ownsRow base e size v n xs) (hg : Blk w g t cs) (hne : e ≠ t) : v.ownBlock ≠ some g := by
  rcases h.2 with ⟨rfl, _⟩ | ⟨g', cap, cur, rfl, _, hh, _⟩
  · simp [Value.ownBlock]
  · intro he
    have : g' = g := by simpa [Value.ownBlock] using he
    subst this
    exact Blk.ne_ (t := e) hh hg hne rfl
theorem own_keep {base : Nat} {e : TypeId} {size n : Nat} {v : Value} {xs : List Value} (h : w.ownsRow base e size v n xs) (hk : ∀ k, v.ownBlock = some k → w'.heap[k]? = w.heap[k]?) : w'.ownsRow base e size v n xs := by
  refine ⟨h.1, ?_⟩
  rcases h.2 with hn | ⟨g', cap, cur, rfl, hb, hh, r⟩
  · exact Or.inl hn
  · exact Or.inr ⟨g', cap, cur, rfl, hb, (hk g' rfl).trans hh, r⟩
theorem own_lt {base : Nat} {e : TypeId} {size n : Nat} {v : Value} {xs : List Value} (h : w.ownsRow base e size v n xs) {k : Nat} (hk : v.ownBlock = some k) : k < w.heap.size := (h.lt k hk).2
end
theorem at_world {P : Program} {c : Code} {Q : Exit → Act → World → Prop} {a : Act} {w : World} (F : World → Prop) (hF : F w) (h : ∀ W, F W → Code.wp P c Q a W) : Code.wp P c Q a w := h w hF
theorem at_world_list {P : Program} {ops : Array Oper} {l : List Oper} {Q : Exit → Act → World → Prop} {a : Act} {w : World} (F : World → Prop) (hF : F w) (h : ∀ W, F W → wpList P ops Q l a W) : wpList P ops Q l a w := h w hF
def Upd (S B : Nat → Prop) (w w' : World) (S' B' : Nat → Prop) : Prop := Chg S w w' ∧ (∀ b, S' b → S b ∨ w.heap.size ≤ b) ∧ (∀ b, B' b → B b ∨ w.heap.size ≤ b)
theorem Upd.alloc {S B S' B' : Nat → Prop} {w w' : World} (h : Upd S B w w' S' B') (o : Obj) : Upd S B w (w'.alloc o) S' B' := ⟨h.1.alloc o, h.2⟩
theorem Upd.drewN {S B S' B' : Nat → Prop} {w w' : World} (h : Upd S B w w' S' B') (n : Nat) : Upd S B w (w'.drewN n) S' B' := ⟨h.1.drewN n, h.2⟩
theorem Upd.refl (S B : Nat → Prop) (w : World) : Upd S B w w S B := ⟨Chg.refl S w, fun _ h => .inl h, fun _ h => .inl h⟩
theorem Upd.of_below {S B : Nat → Prop} {w w' : World} (h : Below w.heap.size w w') : Upd S B w w' S B := ⟨Chg.of_below h S, fun _ h => .inl h, fun _ h => .inl h⟩
theorem Upd.trans {S B S' B' S'' B'' : Nat → Prop} {w w' w'' : World} (h : Upd S B w w' S' B') (k : Upd S' B' w' w'' S'' B'') : Upd S B w w'' S'' B'' :=
  ⟨h.1.trans k.1 h.2.1, fun b hb => (k.2.1 b hb).elim (h.2.1 b) (fun hh => .inr (Nat.le_trans h.1.size hh)), fun b hb => (k.2.2 b hb).elim (h.2.2 b) (fun hh => .inr (Nat.le_trans h.1.size hh))⟩
abbrev New (w : World) : Nat → Prop := fun b => w.heap.size ≤ b
theorem Upd.of_new {w w1 w2 : World} {S B : Nat → Prop} (h : Upd (New w1) (New w1) w1 w2 S B) (hb : Below w.heap.size w w1) : Upd (New w) (New w) w w2 S B := by
  have hs := hb.size
  refine (Upd.of_below hb).trans ⟨h.1.mono (fun b hb => Nat.le_trans hs hb), fun b hb => ?_, fun b hb => ?_⟩
  · exact (h.2.1 b hb).imp (fun h => Nat.le_trans hs h) id
  · exact (h.2.2 b hb).imp (fun h => Nat.le_trans hs h) id
theorem Upd.new_below {w w' : World} {S' B' B : Nat → Prop} (h : Upd (New w) B w w' S' B') : Below w.heap.size w w' := h.1.below (Nat.le_refl _) (fun _ h => h)
theorem block_of_add (a : Addr) (n : Nat) : (a.add n).block = a.block := by unfold Addr.add; split <;> rfl
theorem add_of_add (a : Addr) (i j : Nat) : (a.add i).add j = a.add (i + j) := by
  unfold Addr.add
  by_cases hi : i = 0 <;> by_cases hj : j = 0 <;> simp [hi, hj, Nat.add_assoc]
theorem add_plain (b o i : Nat) : (⟨b, o, none⟩ : Addr).add i = ⟨b, o + i, none⟩ := by unfold Addr.add; split <;> simp_all
def Cs (w : World) (S : Nat → Prop) (size : Nat) (v : Value) (n : Nat) (xs : List Value) : Prop :=
  xs.length = n * size ∧ ∃ A cap, v = .slice A n cap ∧ n ≤ cap ∧ cap ≤ maxLen ∧
    (0 < n → ∃ b off, A = some ⟨b, off, none⟩ ∧ S b ∧ b < w.heap.size ∧ ∀ j u, xs[j]? = some u → w.cell? ⟨b, off + j, none⟩ = some u)
section
variable {w w' : World} {S T : Nat → Prop} {size n : Nat} {v : Value} {xs : List Value}
theorem Cs.keep (h : Cs w S size v n xs) (hs : w.heap.size ≤ w'.heap.size) (hk : ∀ b, S b → b < w.heap.size → w'.heap[b]? = w.heap[b]?) : Cs w' S size v n xs := by
  obtain ⟨h1, A, cap, rfl, hn, hc, hp⟩ := h
  refine ⟨h1, A, cap, rfl, hn, hc, fun h0 => ?_⟩
  obtain ⟨b, off, rfl, hs', hlt, hcell⟩ := hp h0
  exact ⟨b, off, rfl, hs', by omega, fun j u hu => (World.cell?_of_block (a := ⟨b, off + j, none⟩) (hk b hs' hlt)).trans (hcell j u hu)⟩
theorem Cs.chg {M : Nat → Prop} (h : Cs w S size v n xs) (hc : Chg M w w') (hd : ∀ b, S b → ¬ M b) : Cs w' S size v n xs :=
  h.keep hc.size fun b hs hlt => hc.block b hlt (hd b hs)
theorem Cs.below (h : Cs w S size v n xs) (hb : Below w.heap.size w w') : Cs w' S size v n xs := h.keep hb.size fun b _ hlt => hb.block b hlt
theorem Cs.sub (h : Cs w S size v n xs) (hs : ∀ b, S b → b < w.heap.size → T b) : Cs w T size v n xs := by
  obtain ⟨h1, A, cap, rfl, hn, hc, hp⟩ := h
  refine ⟨h1, A, cap, rfl, hn, hc, fun h0 => ?_⟩
  obtain ⟨b, off, rfl, hs', hlt, hcell⟩ := hp h0
  exact ⟨b, off, rfl, hs b hs' hlt, hlt, hcell⟩
theorem Cs.nil_ (w : World) (S : Nat → Prop) (size : Nat) : Cs w S size (.slice none 0 0) 0 [] := ⟨by simp, none, 0, rfl, by omega, by simp [maxLen], fun h => absurd h (by omega)⟩
theorem Cs.drew (h : Cs w S size v n xs) : Cs w.drew S size v n xs := h
theorem Cs.drewN (h : Cs w S size v n xs) (k : Nat) : Cs (w.drewN k) S size v n xs := h
theorem Cs.of_own {base : Nat} {e : TypeId} (h : w.ownsRow base e size v n xs) (hS : ∀ k, v.ownBlock = some k → S k) : Cs w S size v n xs := by
  refine ⟨h.1, ?_⟩
  rcases h.2 with ⟨rfl, rfl⟩ | ⟨g, cap, cur, rfl, hb, hh, hn, hc, _, htake⟩
  · exact ⟨none, 0, rfl, by omega, by simp [maxLen], fun h => absurd h (by omega)⟩
  · refine ⟨some ⟨g, 0, none⟩, cap, rfl, hn, hc, fun _ => ⟨g, 0, rfl, hS g rfl, own_lt h rfl, fun j u hu => ?_⟩⟩
    rw [Nat.zero_add, cell_of_row w g j cur e (0, 0) hh]
    rw [← htake, List.getElem?_take] at hu
    split at hu
    · simpa using hu
    · cases hu
end
section
variable {w w' : World} {S T : Nat → Prop} {size n : Nat} {v : Value} {xs : List Value}
theorem Cs.of_new' (w : World) (t : TypeId) {size : Nat} (n : Nat) {cs : List Value} (hl : cs.length = n * size) (hn : n ≤ maxLen) (fr : Nat × Nat) :
    Cs (w.alloc (.cells cs.toArray t fr)) (fun b => b = w.heap.size) size (.slice (some ⟨w.heap.size, 0, none⟩) n n) n cs := by
  refine ⟨hl, _, n, rfl, Nat.le_refl _, hn, fun _ => ⟨w.heap.size, 0, rfl, rfl, by simp, fun j u hu => ?_⟩⟩
  rw [Nat.zero_add, cell_of_row _ w.heap.size j cs.toArray t fr (heap_alloc_new w _)]
  simpa using hu
theorem Cs.of_new (w : World) (t : TypeId) {size : Nat} (n : Nat) {cs : List Value} (hl : cs.length = n * size) (hn : n ≤ maxLen) :
    Cs (w.alloc (.cells cs.toArray t)) (fun b => b = w.heap.size) size (.slice (some ⟨w.heap.size, 0, none⟩) n n) n cs := Cs.of_new' w t n hl hn (0, 0)
end
theorem Cs.form {w : World} {S : Nat → Prop} {size n : Nat} {v : Value} {xs : List Value} (h : Cs w S size v n xs) : ∃ A cap, v = .slice A n cap := by
  obtain ⟨_, A, cap, rfl, _⟩ := h
  exact ⟨A, cap, rfl⟩
def u8s (bs : List UInt8) : List Value := bs.map fun b => .int .u8 b.toNat
theorem u8s_length (bs : List UInt8) : (u8s bs).length = bs.length := by simp [u8s]
theorem u8s_get (bs : List UInt8) (i : Nat) (h : i < bs.length) : (u8s bs)[i]? = some (.int .u8 bs[i].toNat) := by simp [u8s, h]
theorem u8s_one (bs : List UInt8) : ∀ u ∈ u8s bs, u.oneCell' = true := by
  intro u hu
  simp only [u8s, List.mem_map] at hu
  obtain ⟨b, _, rfl⟩ := hu
  rfl
def Bs (w : World) (S : Nat → Prop) (v : Value) (bs : List UInt8) : Prop := Cs w S 1 v bs.length (u8s bs) ∧ bs.length ≤ 140737488355328
theorem Bs.form {w : World} {S : Nat → Prop} {v : Value} {bs : List UInt8} (h : Bs w S v bs) : ∃ A cap, v = .slice A bs.length cap := h.1.form
theorem Bs.below {w w' : World} {S : Nat → Prop} {v : Value} {bs : List UInt8} (h : Bs w S v bs) (hb : Below w.heap.size w w') : Bs w' S v bs := ⟨h.1.below hb, h.2⟩
theorem Bs.alloc {w : World} {S : Nat → Prop} {v : Value} {bs : List UInt8} (h : Bs w S v bs) (o : Obj) : Bs (w.alloc o) S v bs := h.below ((Below.refl _ w).alloc (Nat.le_refl _) o)
theorem Bs.drew {w : World} {S : Nat → Prop} {v : Value} {bs : List UInt8} (h : Bs w S v bs) : Bs w.drew S v bs := h
theorem Bs.drewN {w : World} {S : Nat → Prop} {v : Value} {bs : List UInt8} (h : Bs w S v bs) (k : Nat) : Bs (w.drewN k) S v bs := h
theorem Bs.keep {w w' : World} {S : Nat → Prop} {v : Value} {bs : List UInt8} (h : Bs w S v bs) (hs : w.heap.size ≤ w'.heap.size) (hk : ∀ b, S b → b < w.heap.size → w'.heap[b]? = w.heap[b]?) : Bs w' S v bs := ⟨h.1.keep hs hk, h.2⟩
theorem Bs.chg {w w' : World} {S M : Nat → Prop} {v : Value} {bs : List UInt8} (h : Bs w S v bs) (hc : Chg M w w') (hd : ∀ b, S b → ¬ M b) : Bs w' S v bs := ⟨h.1.chg hc hd, h.2⟩
theorem Bs.sub {w : World} {S T : Nat → Prop} {v : Value} {bs : List UInt8} (h : Bs w S v bs) (hs : ∀ b, S b → b < w.heap.size → T b) : Bs w T v bs := ⟨h.1.sub hs, h.2⟩
def str (bs : List UInt8) : ByteArray := ⟨bs.toArray⟩
theorem str_inj {a b : List UInt8} (h : str a = str b) : a = b := by
  unfold str at h
  injection h with h
  simpa using congrArg Array.toList h
theorem str_eq {a b : List UInt8} : str a = str b ↔ a = b := ⟨str_inj, fun h => by rw [h]⟩
theorem str_tl (bs : List UInt8) : (str bs).toList = bs := by rw [ByteArray.toList_eq]; simp [str]
theorem str_size (bs : List UInt8) : (str bs).size = bs.length := by simp [str, ByteArray.size]
theorem str_toList (bs : List UInt8) : (str bs).data.toList = bs := by simp [str]
theorem str_of (s : ByteArray) : str s.data.toList = s := by simp [str]
theorem run_str {P : Program} {w : World} {S : Nat → Prop} {v : Value} {bs : List UInt8} (h : Bs w S v bs) {src dst e : TypeId} (hs : P.underlying src = some (.slice e)) (he : P.underlying e = some (.int .u8)) (hd : P.underlying dst = some .string) :
    (convert src dst v).run P w = .ok (.string (str bs)) w := by
  obtain ⟨⟨hl, A, cap, rfl, _, _, hp⟩, _⟩ := h
  rcases Nat.eq_zero_or_pos bs.length with h0 | h0
  · obtain rfl : bs = [] := List.eq_nil_of_length_eq_zero h0
    rw [run_convert_bytes_string w src dst e A _ cap hs he hd]
    cases A with
    | none => simp [Conv.bytesToString]; rfl
    | some a =>
      rw [show ([] : List UInt8).length = 0 from rfl, run_bytesToString w a 0 cap [] (by simp [loadCells, loadCellsFrom])]
      rfl
  · obtain ⟨b, off, rfl, _, _, hc⟩ := hp h0
    have h := run_convert_bytes_arg (P := P) w src e hs he b off bs.length cap (bs.map fun x => (x.toNat : Int)) (by simp) (fun i hi => by
      rw [hc i _ (u8s_get bs i hi)]; simp [List.getD, hi]) dst hd
    rw [h]
    congr 2
    simp only [strOfNums, str, List.map_map]
    congr 2
    have : (fun n : Int => UInt8.ofNat n.toNat) ∘ (fun x : UInt8 => (x.toNat : Int)) = id := by funext x; simp
    rw [this, List.map_id]
theorem Bs.of_new (w : World) (t : TypeId) (bs : List UInt8) (hn : bs.length ≤ 140737488355328) (fr : Nat × Nat) : Bs (w.alloc (.cells (u8s bs).toArray t fr)) (fun b => b = w.heap.size) (.slice (some ⟨w.heap.size, 0, none⟩) bs.length bs.length) bs :=
  ⟨Cs.of_new' w t bs.length (by simp [u8s]) (by simp only [maxLen]; omega) fr, hn⟩
theorem Bs.nil_ (w : World) (S : Nat → Prop) : Bs w S (.slice none 0 0) [] := ⟨Cs.nil_ _ _ _, by simp⟩
abbrev Own (w : World) (e : TypeId) (size : Nat) (v : Value) (n : Nat) (xs : List Value) : Prop := w.ownsRow 0 e size v n xs
theorem Own.form {w : World} {e : TypeId} {size n : Nat} {v : Value} {xs : List Value} (h : Own w e size v n xs) : ∃ A cap, v = .slice A n cap := by
  rcases h.2 with ⟨rfl, rfl⟩ | ⟨g, cap, _, rfl, _⟩
  · exact ⟨_, _, rfl⟩
  · exact ⟨_, _, rfl⟩
theorem Own.nil_ (w : World) (e : TypeId) (size : Nat) : Own w e size (.slice none 0 0) 0 [] := World.ownsRow_nil w 0 e size
theorem Own.empty (w : World) (e : TypeId) (size : Nat) : Own (w.alloc (.cells #[] e)) e size (.slice (some ⟨w.heap.size, 0, none⟩) 0 0) 0 [] :=
  World.ownsRow_made w #[] 0 (Nat.zero_le _) (by simp [maxLen]) (by simp)
theorem Own.drew {w : World} {e : TypeId} {size n : Nat} {v : Value} {xs : List Value} (h : Own w e size v n xs) : Own w.drew e size v n xs := h
theorem Own.drewN {w : World} {e : TypeId} {size n : Nat} {v : Value} {xs : List Value} (h : Own w e size v n xs) (k : Nat) : Own (w.drewN k) e size v n xs := h
theorem Chg.of_grown {w w' : World} {row : Option Nat} (h : w.grownBy w' row) : Chg (fun b => row = some b) w w' :=
  ⟨h.os, h.tape, h.output, h.size, fun k hk hn => h.block k hk (fun e => hn e.symm)⟩
section
variable {P : Program} (w : World)
theorem run_append_of_nil (t ty e : TypeId) (i : TypeInfo) (size : Nat) (ht : P.underlying t = some (.slice e)) (hi : P.info? e = some i)
    (v : Value) (n : Nat) (xs : List Value) (hown : Own w e size v n xs) (c : Nat) : (Builtin.append_ #[t, t] ty #[v, .slice none 0 c]).run P w = .ok v w := by
  rcases hown.2 with ⟨rfl, rfl⟩ | ⟨g, cap, cur, rfl, _, _, hnc, _⟩
  · simp [Builtin.append_, run_underlying ht, sizeOf, typeInfo, hi, Builtin.lenOf, Builtin.firstCells]
  · simp [Builtin.append_, run_underlying ht, sizeOf, typeInfo, hi, Builtin.lenOf, Builtin.firstCells, hnc, storeCells]
theorem run_app {t ty e : TypeId} {z : Value} {size bytes : Nat} (ht : P.underlying t = some (.slice e)) (hinfo : (P.info? e).map (fun i => (i.zero, i.size, i.bytes)) = some (some z, size, bytes))
    (hzs : z.cells.size = size) (hsz : 0 < size)
    {v : Value} {n : Nat} {xs : List Value} (hown : Own w e size v n xs) {S : Nat → Prop} {src : Value} {m : Nat} {news : List Value} (hr : Cs w S size src m news) (h1 : ∀ u ∈ news, u.oneCell' = true)
    (h63 : n + m ≤ maxLen) (hbytes : (n + m) * bytes ≤ 140737488355328) :
    ∃ v' w', (Builtin.append_ #[t, t] ty #[v, src]).run P w = .ok v' w' ∧ Own w' e size v' (n + m) (xs ++ news) ∧ Chg (fun b => v.ownBlock = some b) w w' ∧
      (v' = .slice none 0 0 ↔ v = .slice none 0 0 ∧ m = 0) ∧ (v'.ownBlock = v.ownBlock ∨ v'.ownBlock = some w.heap.size) := by
  obtain ⟨i0, hi, hz0, hz1, hz2⟩ := info_parts hinfo
  obtain ⟨hl, A, cap, rfl, hn, hc, hp⟩ := hr
  rcases A with _ | ad
  · have hm : m = 0 := by
      rcases Nat.eq_zero_or_pos m with h0 | h0
      · exact h0
      · obtain ⟨b, off, h, _⟩ := hp h0
        cases h
    subst hm
    obtain rfl : news = [] := List.eq_nil_of_length_eq_zero (by simpa using hl)
    exact ⟨v, w, run_append_of_nil w t ty e i0 size ht hi v n xs hown cap, by simpa using hown, Chg.refl _ w, by simp, .inl rfl⟩
  · have hcells : ∀ j u, news[j]? = some u → w.cell? (ad.add j) = some u := by
      intro j u hu
      rcases Nat.eq_zero_or_pos m with h0 | h0
      · subst h0
        obtain rfl : news = [] := List.eq_nil_of_length_eq_zero (by simpa using hl)
        simp at hu
      · obtain ⟨b, off, h, _, _, hcell⟩ := hp h0
        obtain rfl : ad = ⟨b, off, none⟩ := by injection h
        rw [add_plain]
        exact hcell j u hu
    obtain ⟨v', w', hrun, h2, h3, h4, h5⟩ := run_append_own_at (P := P) w 0 t ty e i0 z size bytes ht hi hz0 hz1 hz2 hzs hsz v n xs hown ad m cap news hl hcells h1 h63 hbytes (Nat.zero_le _)
    exact ⟨v', w', hrun, h2, Chg.of_grown h3, h4, h5⟩
theorem wp_app {o : Oper} {a : Act} {K : Act → World → Prop} {Q : Exit → Act → World → Prop} (s x : Operand) (t : TypeId)
    (ho : o.op = .call { callee := .builtin .append, args := #[s, x], argTypes := #[t, t] }) {e : TypeId} {z : Value} {size bytes : Nat} (ht : P.underlying t = some (.slice e))
    (hinfo : (P.info? e).map (fun i => (i.zero, i.size, i.bytes)) = some (some z, size, bytes)) (hzs : z.cells.size = size) (hsz : 0 < size)
    {v : Value} {n : Nat} {xs : List Value} (hown : Own w e size v n xs) (hs : a.eval s = v) {S : Nat → Prop} {src : Value} {m : Nat} {news : List Value} (hr : Cs w S size src m news) (hx : a.eval x = src)
    (h1 : ∀ u ∈ news, u.oneCell' = true) (h63 : n + m ≤ maxLen) (hbytes : (n + m) * bytes ≤ 140737488355328)
    (h : ∀ v' w', Own w' e size v' (n + m) (xs ++ news) → Chg (fun b => v.ownBlock = some b) w w' → (v' = .slice none 0 0 ↔ v = .slice none 0 0 ∧ m = 0) →
      (v'.ownBlock = v.ownBlock ∨ v'.ownBlock = some w.heap.size) → K (a.put o.dst v') w') : o.wp P a w K Q := by
  obtain ⟨v', w', hrun, h2, h3, h4, h5⟩ := run_app (P := P) w (ty := o.type) ht hinfo hzs hsz hown hr h1 h63 hbytes
  unfold Oper.wp execOp
  simp only [ho, resolve, invoke, builtin, Sem.run_bind, Sem.run_pure, Result.andThen_ok, List.map_toArray, List.map_cons, List.map_nil, hs, hx, hrun]
  exact h v' w' h2 h3 h4 h5
theorem wpList_app {ops : Array Oper} {rest : List Oper} {o : Oper} {a : Act} {Q : Exit → Act → World → Prop} (hgd : o.guard = none) (s x : Operand) (t : TypeId)
    (ho : o.op = .call { callee := .builtin .append, args := #[s, x], argTypes := #[t, t] }) {e : TypeId} {z : Value} {size bytes : Nat} (ht : P.underlying t = some (.slice e))
    (hinfo : (P.info? e).map (fun i => (i.zero, i.size, i.bytes)) = some (some z, size, bytes)) (hzs : z.cells.size = size) (hsz : 0 < size)
    {v : Value} {n : Nat} {xs : List Value} (hown : Own w e size v n xs) (hs : a.eval s = v) {S : Nat → Prop} {src : Value} {m : Nat} {news : List Value} (hr : Cs w S size src m news) (hx : a.eval x = src)
    (h1 : ∀ u ∈ news, u.oneCell' = true) (h63 : n + m ≤ maxLen) (hbytes : (n + m) * bytes ≤ 140737488355328)
    (h : ∀ v' w', Own w' e size v' (n + m) (xs ++ news) → Chg (fun b => v.ownBlock = some b) w w' → (v' = .slice none 0 0 ↔ v = .slice none 0 0 ∧ m = 0) →
      (v'.ownBlock = v.ownBlock ∨ v'.ownBlock = some w.heap.size) → wpList P ops Q rest (a.put o.dst v') w') : wpList P ops Q (o :: rest) a w :=
  wpList_plain hgd fun _ hK => wp_app w s x t ho ht hinfo hzs hsz hown hs hr hx h1 h63 hbytes fun v' w' h2 h3 h4 h5 => hK _ _ (h v' w' h2 h3 h4 h5)
theorem step_app {ops : Array Oper} {o : Oper} {a : Act} {K : Act → World → Prop} {Q : Exit → Act → World → Prop} {E : Prop} (hgd : o.guard = none) (s x : Operand) (t : TypeId)
    (ho : o.op = .call { callee := .builtin .append, args := #[s, x], argTypes := #[t, t] }) {e : TypeId} {z : Value} {size bytes : Nat} (ht : P.underlying t = some (.slice e))
    (hinfo : (P.info? e).map (fun i => (i.zero, i.size, i.bytes)) = some (some z, size, bytes)) (hzs : z.cells.size = size) (hsz : 0 < size)
    {v : Value} {n : Nat} {xs : List Value} (hown : Own w e size v n xs) (hs : a.eval s = v) {S : Nat → Prop} {src : Value} {m : Nat} {news : List Value} (hr : Cs w S size src m news) (hx : a.eval x = src)
    (h1 : ∀ u ∈ news, u.oneCell' = true) (h63 : n + m ≤ maxLen) (hbytes : (n + m) * bytes ≤ 140737488355328)
    (h : ∀ v' w', Own w' e size v' (n + m) (xs ++ news) → Chg (fun b => v.ownBlock = some b) w w' → (v' = .slice none 0 0 ↔ v = .slice none 0 0 ∧ m = 0) →
      (v'.ownBlock = v.ownBlock ∨ v'.ownBlock = some w.heap.size) → K (a.put o.dst v') w') :
    if Region.wanted o (yielded ops a.tmps) = true then Oper.wp P o a w K Q else E := by
  have hw : Region.wanted o (yielded ops a.tmps) = true := by simp [Region.wanted, hgd]
  rw [if_pos hw]
  exact wp_app w s x t ho ht hinfo hzs hsz hown hs hr hx h1 h63 hbytes h
end
end
section
open Go.RowKit
def be8 (n : Nat) : List UInt8 := Lib.beBytes 8 n
theorem be8_length (n : Nat) : (be8 n).length = 8 := Lib.beBytes_length 8 n
theorem be8_nat {n : Nat} (h : n < 18446744073709551616) : Lib.beNat (be8 n) = n := Lib.beNat_beBytes 8 n (by simpa using h)
def joinP : List (List UInt8) → List UInt8
  | [] => []
  | x :: l => be8 x.length ++ (x ++ joinP l)
def joinB (l : List (List UInt8)) : List UInt8 := be8 l.length ++ joinP l
def cutB : Nat → List UInt8 → Option (List (List UInt8))
  | 0, r => if r = [] then some [] else none
  | n + 1, r => if r.length < 8 ∨ r.length - 8 < Lib.beNat (r.take 8) then none else
      (cutB n (r.drop (8 + Lib.beNat (r.take 8)))).map fun l => (r.drop 8).take (Lib.beNat (r.take 8)) :: l
def splitB (b : List UInt8) : Option (List (List UInt8)) :=
  if b.length < 8 ∨ (b.length - 8) / 8 < Lib.beNat (b.take 8) then none else cutB (Lib.beNat (b.take 8)) (b.drop 8)
theorem joinP_append (a b : List (List UInt8)) : joinP (a ++ b) = joinP a ++ joinP b := by
  induction a with
  | nil => rfl
  | cons x l ih => simp only [List.cons_append, joinP, ih, List.append_assoc]
theorem joinP_count (l : List (List UInt8)) : 8 * l.length ≤ (joinP l).length := by
  induction l with
  | nil => simp [joinP]
  | cons x l ih => simp only [joinP, List.length_append, be8_length, List.length_cons]; omega
theorem joinB_length (l : List (List UInt8)) : (joinB l).length = 8 + (joinP l).length := by simp [joinB, be8_length]
theorem take_be8 (n : Nat) (r : List UInt8) : (be8 n ++ r).take 8 = be8 n := by
  rw [List.take_append_of_le_length (by rw [be8_length]; omega), List.take_of_length_le (by rw [be8_length]; omega)]
theorem drop_be8 (n : Nat) (r : List UInt8) : (be8 n ++ r).drop 8 = r := by
  have := List.drop_left' (l₁ := be8 n) (l₂ := r) (be8_length n)
  exact this
theorem cutB_joinP (l : List (List UInt8)) (h : (joinP l).length < 18446744073709551616) : cutB l.length (joinP l) = some l := by
  induction l with
  | nil => simp [cutB, joinP]
  | cons x l ih =>
    have hx : x.length < 18446744073709551616 := by simp only [joinP, List.length_append, be8_length] at h; omega
    have hl : (joinP l).length < 18446744073709551616 := by simp only [joinP, List.length_append, be8_length] at h; omega
    simp only [List.length_cons, joinP, cutB, take_be8, drop_be8, be8_nat hx]
    rw [if_neg (by simp only [List.length_append, be8_length]; omega)]
    rw [← List.drop_drop, drop_be8, List.drop_left' rfl, List.take_left' rfl, ih hl]
    rfl
theorem splitB_joinB (l : List (List UInt8)) (h : (joinB l).length < 18446744073709551616) : splitB (joinB l) = some l := by
  have hc := joinP_count l
  rw [joinB_length] at h
  have hn : l.length < 18446744073709551616 := by omega
  unfold splitB
  rw [joinB_length]
  simp only [joinB, take_be8, drop_be8, be8_nat hn]
  rw [if_neg (by omega)]
  exact cutB_joinP l (by omega)
theorem leBytes_leNat : ∀ l : List UInt8, Lib.leBytes l.length (Lib.leNat l) = l
  | [] => rfl
  | b :: r => by
    have hb := b.toNat_lt
    have h1 : Lib.leNat (b :: r) % 256 = b.toNat := by simp only [Lib.leNat]; omega
    have h2 : Lib.leNat (b :: r) / 256 = Lib.leNat r := by simp only [Lib.leNat]; omega
    simp only [List.length_cons, Lib.leBytes, h2, leBytes_leNat r]
    congr 1
    rw [← UInt8.toNat_inj]
    simp [h1]
theorem be8_beNat (l : List UInt8) (h : l.length = 8) : be8 (Lib.beNat l) = l := by
  unfold be8 Lib.beBytes
  have hr := leBytes_leNat l.reverse
  rw [List.length_reverse, h] at hr
  rw [Lib.beNat_eq, hr, List.reverse_reverse]
theorem cutB_back : ∀ (n : Nat) (r : List UInt8) (l : List (List UInt8)), cutB n r = some l → l.length = n ∧ joinP l = r
  | 0, r, l, h => by
    unfold cutB at h
    split at h
    · rename_i hr; injection h with h; subst h; subst hr; exact ⟨rfl, rfl⟩
    · cases h
  | n + 1, r, l, h => by
    unfold cutB at h
    split at h
    · cases h
    · rename_i hn
      have h8 : 8 ≤ r.length := by omega
      have hm : Lib.beNat (r.take 8) ≤ r.length - 8 := by omega
      obtain ⟨l', hl', rfl⟩ := Option.map_eq_some_iff.1 h
      obtain ⟨h1, h2⟩ := cutB_back n _ l' hl'
      refine ⟨by simp [h1], ?_⟩
      have hlen : ((r.drop 8).take (Lib.beNat (r.take 8))).length = Lib.beNat (r.take 8) := by rw [List.length_take, List.length_drop]; omega
      have h8' : (r.take 8).length = 8 := by rw [List.length_take]; omega
      simp only [joinP]
      rw [h2, hlen, be8_beNat _ h8', ← List.drop_drop, List.take_append_drop, List.take_append_drop]
theorem splitB_back {b : List UInt8} {l : List (List UInt8)} (h : splitB b = some l) : joinB l = b := by
  unfold splitB at h
  split at h
  · cases h
  · rename_i hn
    obtain ⟨h1, h2⟩ := cutB_back _ _ _ h
    have h8 : (b.take 8).length = 8 := by rw [List.length_take]; omega
    rw [joinB, h1, h2, be8_beNat _ h8, List.take_append_drop]
mutual
inductive Sh
  | num (signed : Bool)
  | dig
  | byt
  | bool
  | list (s : Sh)
  | tup (fs : Fs)
inductive Fs
  | nil
  | cons (s : Sh) (fs : Fs)
end
mutual
@[reducible] def Sh.El : Sh → Type
  | .num _ => Int
  | .dig => List UInt8
  | .byt => List UInt8
  | .bool => Bool
  | .list s => List s.El
  | .tup fs => fs.El
@[reducible] def Fs.El : Fs → Type
  | .nil => Unit
  | .cons s fs => s.El × fs.El
end
def nk (signed : Bool) : IntKind := if signed then .i64 else .u64
def truthB (b : Bool) : List UInt8 := if b then [1] else [0]
def numB (n : Int) : List UInt8 := be8 (n % 18446744073709551616).toNat
mutual
def Sh.enc : (s : Sh) → s.El → List UInt8
  | .num _, n => numB n
  | .dig, l => l
  | .byt, l => l
  | .bool, b => truthB b
  | .list s, l => joinB (l.map s.enc)
  | .tup fs, x => joinB (fs.encs x)
def Fs.encs : (fs : Fs) → fs.El → List (List UInt8)
  | .nil, _ => []
  | .cons s fs, (a, b) => s.enc a :: fs.encs b
end
def allO {α : Type} : List (Option α) → Option (List α)
  | [] => some []
  | o :: l => match o, allO l with
    | some a, some r => some (a :: r)
    | _, _ => none
mutual
def Sh.dec : (s : Sh) → List UInt8 → Option s.El
  | .num sg, b => if b.length = 8 then some ((nk sg).wrap (Lib.beNat b)) else none
  | .dig, b => if b.length = 32 then some b else none
  | .byt, b => some b
  | .bool, b => if b = [0] then some false else if b = [1] then some true else none
  | .list s, b => match splitB b with
    | none => none
    | some l => allO (l.map s.dec)
  | .tup fs, b => match splitB b with
    | none => none
    | some l => fs.decs l
def Fs.decs : (fs : Fs) → List (List UInt8) → Option fs.El
  | .nil, [] => some ()
  | .nil, _ :: _ => none
  | .cons _ _, [] => none
  | .cons s fs, b :: l => match s.dec b, fs.decs l with
    | some a, some r => some (a, r)
    | _, _ => none
end
mutual
def Sh.wf : (s : Sh) → s.El → Prop
  | .num sg, n => (nk sg).wrap n = n
  | .dig, l => l.length = 32
  | .byt, _ => True
  | .bool, _ => True
  | .list s, l => ∀ x ∈ (show List s.El from l), s.wf x
  | .tup fs, x => fs.wf x
def Fs.wf : (fs : Fs) → fs.El → Prop
  | .nil, _ => True
  | .cons s fs, (a, b) => s.wf a ∧ fs.wf b
end
theorem wrap_u (m : Int) : (nk false).wrap m = m % 18446744073709551616 := by simp [nk, IntKind.wrap, IntKind.signed, IntKind.bits]
theorem wrap_s (m : Int) : (nk true).wrap m = if 9223372036854775808 ≤ m % 18446744073709551616 then m % 18446744073709551616 - 18446744073709551616 else m % 18446744073709551616 := by
  simp [nk, IntKind.wrap, IntKind.signed, IntKind.bits]
theorem nk_wrap_nat (sg : Bool) (n : Int) (h : (nk sg).wrap n = n) : (nk sg).wrap ((n % 18446744073709551616).toNat : Nat) = n := by
  cases sg
  · rw [wrap_u] at h ⊢; omega
  · rw [wrap_s] at h ⊢; split at h <;> split <;> omega
theorem nk_wrap_num (sg : Bool) (m : Nat) (h : m < 18446744073709551616) : ((nk sg).wrap m % 18446744073709551616).toNat = m := by
  cases sg
  · rw [wrap_u]; omega
  · rw [wrap_s]; split <;> omega
theorem nk_wrap_wrap (sg : Bool) (m : Int) : (nk sg).wrap ((nk sg).wrap m) = (nk sg).wrap m := by
  cases sg
  · rw [wrap_u, wrap_u]; omega
  · rw [wrap_s, wrap_s]; split <;> split <;> omega
theorem beNat_lt8 (b : List UInt8) (h : b.length = 8) : Lib.beNat b < 18446744073709551616 := by
  have hf : ∀ (l : List UInt8) (acc : Nat), Lib.beFrom acc l < (acc + 1) * 256 ^ l.length := by
    intro l
    induction l with
    | nil => intro acc; simp [Lib.beFrom]
    | cons b r ih =>
      intro acc
      have := ih (acc * 256 + b.toNat)
      have hb := b.toNat_lt
      refine ltle this ?_
      rw [List.length_cons, Nat.pow_succ, Nat.mul_comm (256 ^ r.length) 256, ← Nat.mul_assoc]
      exact Nat.mul_le_mul_right _ (by omega)
  have := hf b 0
  rw [h] at this
  simpa [Lib.beNat] using this
theorem numB_length (n : Int) : (numB n).length = 8 := be8_length _
theorem joinP_mem {l : List (List UInt8)} {x : List UInt8} (h : x ∈ l) : x.length + 8 ≤ (joinP l).length := by
  induction l with
  | nil => cases h
  | cons y l ih =>
    simp only [joinP, List.length_append, be8_length]
    rcases List.mem_cons.1 h with rfl | h
    · omega
    · have := ih h; omega
theorem allO_map {α : Type} (f : α → List UInt8) (g : List UInt8 → Option α) (l : List α) (h : ∀ x ∈ l, g (f x) = some x) : allO ((l.map f).map g) = some l := by
  induction l with
  | nil => rfl
  | cons x l ih =>
    simp only [List.map_cons, allO, h x (by simp), ih fun y hy => h y (by simp [hy])]
theorem allO_back {α : Type} (f : α → List UInt8) (g : List UInt8 → Option α) (p : α → Prop) (hg : ∀ b x, g b = some x → f x = b ∧ p x) : ∀ (l : List (List UInt8)) (r : List α), allO (l.map g) = some r → r.map f = l ∧ ∀ x ∈ r, p x
  | [], r, h => by simp only [List.map_nil, allO] at h; injection h with h; subst h; exact ⟨rfl, by simp⟩
  | b :: l, r, h => by
    simp only [List.map_cons, allO] at h
    split at h
    · rename_i a r' h1 h2
      injection h with h
      subst h
      obtain ⟨q1, q2⟩ := hg _ _ h1
      obtain ⟨q3, q4⟩ := allO_back f g p hg l r' h2
      exact ⟨by simp [q1, q3], fun x hx => (List.mem_cons.1 hx).elim (fun e => e ▸ q2) (q4 x)⟩
    · cases h
mutual
theorem Sh.dec_enc : ∀ (s : Sh) (x : s.El), s.wf x → (s.enc x).length < 18446744073709551616 → s.dec (s.enc x) = some x
  | .num sg, n, h, _ => by
    show (if (numB n).length = 8 then some ((nk sg).wrap (Lib.beNat (numB n))) else none) = some n
    rw [numB_length, if_pos rfl]
    unfold numB
    rw [be8_nat (by omega), nk_wrap_nat sg n h]
  | .dig, l, h, _ => by
    show (if List.length (α := UInt8) l = 32 then some l else none) = some l
    exact if_pos h
  | .byt, _, _, _ => rfl
  | .bool, b, _, _ => by cases b <;> rfl
  | .list s, l, h, hb => by
    have hb : (joinB (List.map s.enc l)).length < 18446744073709551616 := hb
    have hs := splitB_joinB _ hb
    rw [joinB_length] at hb
    show (match splitB (joinB (List.map s.enc l)) with | none => none | some l => allO (l.map s.dec)) = some l
    rw [hs]
    exact allO_map s.enc s.dec l fun x hx => Sh.dec_enc s x (h x hx) (by
      have := joinP_mem (List.mem_map.2 ⟨x, hx, rfl⟩ : s.enc x ∈ List.map s.enc l)
      omega)
  | .tup fs, x, h, hb => by
    have hb : (joinB (fs.encs x)).length < 18446744073709551616 := hb
    have hs := splitB_joinB _ hb
    rw [joinB_length] at hb
    show (match splitB (joinB (fs.encs x)) with | none => none | some l => fs.decs l) = some x
    rw [hs]
    exact Fs.decs_encs fs x h (by omega)
theorem Fs.decs_encs : ∀ (fs : Fs) (x : fs.El), fs.wf x → (joinP (fs.encs x)).length < 18446744073709551616 → fs.decs (fs.encs x) = some x
  | .nil, _, _, _ => rfl
  | .cons s fs, (a, b), h, hb => by
    have hb : (joinP (s.enc a :: fs.encs b)).length < 18446744073709551616 := hb
    simp only [joinP, List.length_append, be8_length] at hb
    have h1 := Sh.dec_enc s a h.1 (by omega)
    have h2 := Fs.decs_encs fs b h.2 (by omega)
    show (match s.dec (s.enc a), fs.decs (fs.encs b) with | some a, some r => some (a, r) | _, _ => none) = some (a, b)
    rw [h1, h2]
end
mutual
theorem Sh.enc_dec : ∀ (s : Sh) (b : List UInt8) (x : s.El), s.dec b = some x → s.enc x = b ∧ s.wf x
  | .num sg, b, x, h => by
    have h : (if b.length = 8 then some ((nk sg).wrap (Lib.beNat b)) else none) = some x := h
    split at h
    · rename_i h8
      injection h with h
      subst h
      refine ⟨?_, nk_wrap_wrap sg _⟩
      have hlt := beNat_lt8 b h8
      show numB _ = b
      unfold numB
      rw [nk_wrap_num sg _ hlt, be8_beNat b h8]
    · cases h
  | .dig, b, x, h => by
    have h : (if b.length = 32 then some b else none) = some x := h
    split at h
    · rename_i h8
      injection h with h
      subst h
      exact ⟨rfl, h8⟩
    · cases h
  | .byt, b, x, h => by
    have h : some b = some x := h
    injection h with h
    subst h
    exact ⟨rfl, trivial⟩
  | .bool, b, x, h => by
    have h : (if b = [0] then some false else if b = [1] then some true else none) = some x := h
    split at h
    · rename_i hb
      injection h with h
      subst h
      exact ⟨hb.symm, trivial⟩
    · split at h
      · rename_i hb
        injection h with h
        subst h
        exact ⟨hb.symm, trivial⟩
      · cases h
  | .list s, b, x, h => by
    have h : (match splitB b with | none => none | some l => allO (l.map s.dec)) = some x := h
    split at h
    · cases h
    · rename_i l hl
      obtain ⟨h1, h2⟩ := allO_back s.enc s.dec s.wf (fun b x h => Sh.enc_dec s b x h) l x h
      refine ⟨?_, h2⟩
      show joinB (List.map s.enc x) = b
      rw [h1, splitB_back hl]
  | .tup fs, b, x, h => by
    have h : (match splitB b with | none => none | some l => fs.decs l) = some x := h
    split at h
    · cases h
    · rename_i l hl
      obtain ⟨h1, h2⟩ := Fs.encs_decs fs l x h
      refine ⟨?_, h2⟩
      show joinB (fs.encs x) = b
      rw [h1, splitB_back hl]
theorem Fs.encs_decs : ∀ (fs : Fs) (l : List (List UInt8)) (x : fs.El), fs.decs l = some x → fs.encs x = l ∧ fs.wf x
  | .nil, [], _, _ => ⟨rfl, trivial⟩
  | .nil, _ :: _, _, h => by cases h
  | .cons _ _, [], _, h => by cases h
  | .cons s fs, b :: l, x, h => by
    have h : (match s.dec b, fs.decs l with | some a, some r => some (a, r) | _, _ => none) = some x := h
    split at h
    · rename_i a r h1 h2
      injection h with h
      subst h
      obtain ⟨q1, q2⟩ := Sh.enc_dec s b a h1
      obtain ⟨q3, q4⟩ := Fs.encs_decs fs l r h2
      refine ⟨?_, q2, q4⟩
      show s.enc a :: fs.encs r = b :: l
      rw [q1, q3]
    · cases h
end
end
section
open Go.RowKit
mutual
def Sh.cells : Sh → Nat
  | .num _ => 1
  | .dig => 32
  | .byt => 1
  | .bool => 1
  | .list _ => 1
  | .tup fs => fs.cells
def Fs.cells : Fs → Nat
  | .nil => 0
  | .cons s fs => s.cells + fs.cells
end
inductive Two {α β : Type} (R : α → β → Prop) : List α → List β → Prop
  | nil : Two R [] []
  | cons {a b l m} : R a b → Two R l m → Two R (a :: l) (b :: m)
mutual
def Sh.rep (w : World) (S : Nat → Prop) : (s : Sh) → s.El → List Value → Prop
  | .num sg, n, cs => cs = [.int (nk sg) n] ∧ (nk sg).wrap n = n
  | .dig, l, cs => cs = u8s l ∧ List.length (α := UInt8) l = 32
  | .byt, l, cs => ∃ v, cs = [v] ∧ Bs w S v l
  | .bool, b, cs => cs = [.bool b]
  | .list s, l, cs => ∃ v css, cs = [v] ∧ Cs w S s.cells v (List.length (α := s.El) l) css.flatten ∧ Two (Sh.rep w S s) l css
  | .tup fs, x, cs => fs.rep w S x cs
def Fs.rep (w : World) (S : Nat → Prop) : (fs : Fs) → fs.El → List Value → Prop
  | .nil, _, cs => cs = []
  | .cons s fs, (a, b), cs => ∃ c1 c2, cs = c1 ++ c2 ∧ s.rep w S a c1 ∧ fs.rep w S b c2
end
theorem Two.map {α β : Type} {R Q : α → β → Prop} {l : List α} {m : List β} (h : Two R l m) (hq : ∀ a b, R a b → Q a b) : Two Q l m := by
  induction h with
  | nil => exact .nil
  | cons h _ ih => exact .cons (hq _ _ h) ih
theorem Two.length {α β : Type} {R : α → β → Prop} {l : List α} {m : List β} (h : Two R l m) : l.length = m.length := by
  induction h with
  | nil => rfl
  | cons _ _ ih => simp [ih]
theorem Two.get {α β : Type} {R : α → β → Prop} {l : List α} {m : List β} (h : Two R l m) (i : Nat) (hi : i < l.length) : ∃ b, m[i]? = some b ∧ R l[i] b := by
  induction h generalizing i with
  | nil => cases hi
  | cons h _ ih =>
    cases i with
    | zero => exact ⟨_, rfl, h⟩
    | succ i => exact ih i (by simpa using hi)
theorem Two.append {α β : Type} {R : α → β → Prop} {l l' : List α} {m m' : List β} (h : Two R l m) (k : Two R l' m') : Two R (l ++ l') (m ++ m') := by
  induction h with
  | nil => exact k
  | cons h _ ih => exact .cons h ih
mutual
theorem Sh.rep_size {w : World} {S : Nat → Prop} : ∀ (s : Sh) (x : s.El) (cs : List Value), s.rep w S x cs → cs.length = s.cells
  | .num _, _, _, h => by obtain ⟨rfl, _⟩ := h; rfl
  | .dig, l, _, h => by obtain ⟨rfl, h⟩ := h; rw [u8s_length]; exact h
  | .byt, _, _, h => by obtain ⟨v, rfl, _⟩ := h; rfl
  | .bool, _, cs, h => by have h : cs = [.bool _] := h; rw [h]; rfl
  | .list _, _, _, h => by obtain ⟨v, css, rfl, _⟩ := h; rfl
  | .tup fs, x, cs, h => Fs.rep_size fs x cs h
theorem Fs.rep_size {w : World} {S : Nat → Prop} : ∀ (fs : Fs) (x : fs.El) (cs : List Value), fs.rep w S x cs → cs.length = fs.cells
  | .nil, _, cs, h => by have h : cs = [] := h; rw [h]; rfl
  | .cons s fs, (a, b), cs, h => by
    obtain ⟨c1, c2, rfl, h1, h2⟩ := h
    rw [List.length_append, Sh.rep_size s a c1 h1, Fs.rep_size fs b c2 h2]
    rfl
end
mutual
theorem Sh.rep_wf {w : World} {S : Nat → Prop} : ∀ (s : Sh) (x : s.El) (cs : List Value), s.rep w S x cs → s.wf x
  | .num _, _, _, h => h.2
  | .dig, _, _, h => h.2
  | .byt, _, _, _ => trivial
  | .bool, _, _, _ => trivial
  | .list s, l, _, h => by
    obtain ⟨v, css, _, _, h⟩ := h
    intro x hx
    obtain ⟨i, hi, rfl⟩ := List.getElem_of_mem hx
    obtain ⟨b, _, hr⟩ := h.get i hi
    exact Sh.rep_wf s _ b hr
  | .tup fs, x, cs, h => Fs.rep_wf fs x cs h
theorem Fs.rep_wf {w : World} {S : Nat → Prop} : ∀ (fs : Fs) (x : fs.El) (cs : List Value), fs.rep w S x cs → fs.wf x
  | .nil, _, _, _ => trivial
  | .cons s fs, (a, b), _, h => by
    obtain ⟨c1, c2, _, h1, h2⟩ := h
    exact ⟨Sh.rep_wf s a c1 h1, Fs.rep_wf fs b c2 h2⟩
end
theorem Cs.to {w w' : World} {S S' : Nat → Prop} {size n : Nat} {v : Value} {xs : List Value} (h : Cs w S size v n xs) (hk : ∀ b, S b → b < w.heap.size → b < w'.heap.size ∧ w'.heap[b]? = w.heap[b]?) (hs : ∀ b, S b → b < w.heap.size → S' b) : Cs w' S' size v n xs := by
  obtain ⟨h1, A, cap, rfl, hn, hc, hp⟩ := h
  refine ⟨h1, A, cap, rfl, hn, hc, fun h0 => ?_⟩
  obtain ⟨b, off, rfl, hs', hlt, hcell⟩ := hp h0
  exact ⟨b, off, rfl, hs b hs' hlt, (hk b hs' hlt).1, fun j u hu => (World.cell?_of_block (a := ⟨b, off + j, none⟩) (hk b hs' hlt).2).trans (hcell j u hu)⟩
mutual
theorem Sh.rep_to {w w' : World} {S S' : Nat → Prop} (hk : ∀ b, S b → b < w.heap.size → b < w'.heap.size ∧ w'.heap[b]? = w.heap[b]?) (hs : ∀ b, S b → b < w.heap.size → S' b) : ∀ (s : Sh) (x : s.El) (cs : List Value), s.rep w S x cs → s.rep w' S' x cs
  | .num _, _, _, h => h
  | .dig, _, _, h => h
  | .byt, _, _, h => by
    obtain ⟨v, rfl, h1, h2⟩ := h
    exact ⟨v, rfl, h1.to hk hs, h2⟩
  | .bool, _, _, h => h
  | .list s, l, _, h => by
    obtain ⟨v, css, rfl, h1, h2⟩ := h
    exact ⟨v, css, rfl, h1.to hk hs, h2.map fun a b h => Sh.rep_to hk hs s a b h⟩
  | .tup fs, x, cs, h => Fs.rep_to hk hs fs x cs h
theorem Fs.rep_to {w w' : World} {S S' : Nat → Prop} (hk : ∀ b, S b → b < w.heap.size → b < w'.heap.size ∧ w'.heap[b]? = w.heap[b]?) (hs : ∀ b, S b → b < w.heap.size → S' b) : ∀ (fs : Fs) (x : fs.El) (cs : List Value), fs.rep w S x cs → fs.rep w' S' x cs
  | .nil, _, _, h => h
  | .cons s fs, (a, b), _, h => by
    obtain ⟨c1, c2, rfl, h1, h2⟩ := h
    exact ⟨c1, c2, rfl, Sh.rep_to hk hs s a c1 h1, Fs.rep_to hk hs fs b c2 h2⟩
end
theorem Sh.rep_below {w w' : World} {S : Nat → Prop} {s : Sh} {x : s.El} {cs : List Value} (h : s.rep w S x cs) (hb : Below w.heap.size w w') : s.rep w' S x cs :=
  Sh.rep_to (fun b _ hlt => ⟨ltle hlt hb.size, hb.block b hlt⟩) (fun _ h _ => h) s x cs h
theorem Sh.rep_chg {w w' : World} {S M : Nat → Prop} {s : Sh} {x : s.El} {cs : List Value} (h : s.rep w S x cs) (hc : Chg M w w') (hd : ∀ b, S b → ¬ M b) : s.rep w' S x cs :=
  Sh.rep_to (fun b hS hlt => ⟨ltle hlt hc.size, hc.block b hlt (hd b hS)⟩) (fun _ h _ => h) s x cs h
theorem Sh.rep_sub {w : World} {S S' : Nat → Prop} {s : Sh} {x : s.El} {cs : List Value} (h : s.rep w S x cs) (hs : ∀ b, S b → b < w.heap.size → S' b) : s.rep w S' x cs :=
  Sh.rep_to (fun _ _ hlt => ⟨hlt, rfl⟩) hs s x cs h
def Fs.of : List Sh → Fs
  | [] => .nil
  | s :: l => .cons s (Fs.of l)
abbrev i64 : Sh := .num true
abbrev u64 : Sh := .num false
abbrev tSig : Sh := .tup (.cons i64 (.cons .dig .nil))
abbrev tHeader : Sh := .tup (.cons i64 (.cons i64 (.cons i64 (.cons i64 (.cons .dig (.cons .dig (.cons .dig (.cons i64 .nil))))))))
abbrev tQC : Sh := .tup (.cons i64 (.cons i64 (.cons i64 (.cons .dig (.cons (.list i64) (.cons (.list tSig) .nil))))))
abbrev tCommit : Sh := .tup (.cons (.list tHeader) (.cons tQC .nil))
abbrev tFact : Sh := .tup (.cons tCommit (.cons .dig (.cons .byt (.cons .bool (.cons .byt .nil)))))
abbrev tRecord : Sh := .tup (.cons i64 (.cons (.list i64) (.cons (.list (.list i64)) .nil)))
abbrev tTx : Sh := .tup (.cons i64 (.cons u64 (.cons u64 (.cons u64 (.cons u64 (.cons i64 (.cons i64 (.cons .dig (.cons i64 (.cons (.list tFact) .nil))))))))))
abbrev tBlock : Sh := .tup (.cons tHeader (.cons tQC (.cons (.list tCommit) (.cons (.list tTx) (.cons tSig .nil)))))
abbrev tVote : Sh := .tup (.cons i64 (.cons i64 (.cons i64 (.cons .dig (.cons i64 (.cons tSig .nil))))))
abbrev tTimeout : Sh := .tup (.cons i64 (.cons i64 (.cons i64 (.cons tQC (.cons i64 (.cons tSig .nil))))))
abbrev tMessage : Sh := .tup (.cons i64 (.cons i64 (.cons i64 (.cons .dig (.cons (.list tBlock) (.cons (.list tVote) (.cons (.list tTimeout) (.cons (.list tCommit) (.cons (.list tTx) .nil)))))))))
example : tHeader.cells = 101 := rfl
example : tBlock.cells = 173 := rfl
example (a b c d : Int) (p q r : List UInt8) (e : Int) : tHeader.enc (a, b, c, d, p, q, r, e, ()) = joinB [numB a, numB b, numB c, numB d, p, q, r, numB e] := rfl
end
section
open Go.RowKit Go.Maps
theorem or_shift (a b : Nat) (h : b < 256) : (a * 256) ||| b = a * 256 + b := by
  have := Nat.shiftLeft_add_eq_or_of_lt (i := 8) (b := b) (by omega) a
  rw [Nat.shiftLeft_eq, show (2 : Nat) ^ 8 = 256 from rfl] at this
  omega
theorem beFrom_append (acc : Nat) (l m : List UInt8) : Lib.beFrom acc (l ++ m) = Lib.beFrom (Lib.beFrom acc l) m := by
  induction l generalizing acc with
  | nil => rfl
  | cons b r ih => simp only [List.cons_append, Lib.beFrom, ih]
theorem beNat_snoc (l : List UInt8) (b : UInt8) : Lib.beNat (l ++ [b]) = Lib.beNat l * 256 + b.toNat := by
  unfold Lib.beNat; rw [beFrom_append]; rfl
theorem beFrom_lt (l : List UInt8) : ∀ acc, Lib.beFrom acc l < (acc + 1) * 256 ^ l.length := by
  induction l with
  | nil => intro acc; simp [Lib.beFrom]
  | cons b r ih =>
    intro acc
    have := ih (acc * 256 + b.toNat)
    have hb := b.toNat_lt
    refine ltle this ?_
    rw [List.length_cons, Nat.pow_succ, Nat.mul_comm (256 ^ r.length) 256, ← Nat.mul_assoc]
    exact Nat.mul_le_mul_right _ (by omega)
theorem beNat_lt (l : List UInt8) : Lib.beNat l < 256 ^ l.length := by
  have := beFrom_lt l 0
  simpa [Lib.beNat] using this
theorem pow_mono (k : Nat) (h : k ≤ 7) : 256 ^ k ≤ 72057594037927936 := by
  have := Nat.pow_le_pow_right (n := 256) (by omega) h
  simpa using this
set_option maxRecDepth 100000 in
theorem u64_any (w : World) {S : Nat → Prop} {v : Value} {bs : List UInt8} (h : Cs w S 1 v bs.length (u8s bs)) (h8 : 8 ≤ bs.length) :
    Calls Tryz.prog 105 #[v] w fun e w' => e = .returned (.int .u64 (Lib.beNat (bs.take 8))) ∧ w' = w := by
  obtain ⟨_, A, cap, rfl, hn, hc, hp⟩ := h
  obtain ⟨b, off, rfl, _, hlt, hcell⟩ := hp (by omega)
  simp only [maxLen] at hc
  have H := Lib.hid hcell; clear hcell hp
  go_enter Tryz.func105, Tryz.ntmps105
  go_wp2
  go_loopw [3, 9] (fun n i wr => wr = w ∧ ∃ k : Nat, k ≤ 8 ∧ i = .int .i64 k ∧ n = .int .u64 (Lib.beNat (bs.take k))) (fun _ i _ => 8 - (intOf i).toNat)
  case atStart => exact ⟨rfl, 0, by omega, rfl, by simp [Lib.beNat, Lib.beFrom]⟩
  case round =>
    obtain ⟨rfl, k, hk, rfl, rfl⟩ := hrel
    by_cases hlt8 : k < 8
    · have hg := H.out k _ (u8s_get bs k (by omega))
      have hx : bs[k].toNat < 256 := bs[k].toNat_lt
      have hN : Lib.beNat (bs.take k) < 72057594037927936 := by
        have := beNat_lt (bs.take k)
        rw [List.length_take, Nat.min_eq_left (by omega)] at this
        exact ltle this (pow_mono k (by omega))
      have hs : Lib.beNat (bs.take (k + 1)) = Lib.beNat (bs.take k) * 256 + bs[k].toNat := by
        rw [List.take_succ_eq_append_getElem (by omega), beNat_snoc]
      generalize Lib.beNat (bs.take k) = N at hN hs
      generalize bs[k].toNat = x at hg hx hs
      have hor : bits .or .u64 ((N : Int) * 256) (x : Int) = ((N * 256 + x : Nat) : Int) := by
        have := u64_or_nat (N * 256) x (by omega) (by omega)
        rw [or_shift N x hx] at this
        rw [← this]; congr 1
      go_wp2
      refine ⟨⟨trivial, k + 1, by omega, by push_cast; rfl, by rw [hs]; push_cast; rfl⟩, ?_⟩
      simp only [intOf]
      omega
    · have hk' : k = 8 := by omega
      subst hk'
      go_wp2
      go_ret
      exact ⟨rfl, rfl⟩
end
section
open Go.RowKit Go.Maps
theorem beBytes_eq (v : Nat) : u8s (Lib.beBytes 8 v) = [.int .u8 (((v / 72057594037927936 % 256 : Nat)) : Int), .int .u8 (((v / 281474976710656 % 256 : Nat)) : Int), .int .u8 (((v / 1099511627776 % 256 : Nat)) : Int), .int .u8 (((v / 4294967296 % 256 : Nat)) : Int), .int .u8 (((v / 16777216 % 256 : Nat)) : Int), .int .u8 (((v / 65536 % 256 : Nat)) : Int), .int .u8 (((v / 256 % 256 : Nat)) : Int), .int .u8 (((v % 256 : Nat)) : Int)] := by
  simp only [Lib.beBytes, Lib.leBytes, u8s, List.reverse_cons, List.reverse_nil, List.nil_append, List.cons_append, List.map_cons, List.map_nil, Lib.toUInt8_mod, Nat.div_div_eq_div_mul]
theorem beBytes_int (m : Nat) (hm : m < 18446744073709551616) : u8s (Lib.beBytes 8 m) = [.int .u8 ((m : Int) / 72057594037927936), .int .u8 ((m : Int) / 281474976710656 % 256), .int .u8 ((m : Int) / 1099511627776 % 256), .int .u8 ((m : Int) / 4294967296 % 256), .int .u8 ((m : Int) / 16777216 % 256), .int .u8 ((m : Int) / 65536 % 256), .int .u8 ((m : Int) / 256 % 256), .int .u8 ((m : Int) % 256)] := by
  rw [beBytes_eq]
  simp only [List.cons.injEq, Value.int.injEq, true_and, and_true]
  refine ⟨by omega, by omega, by omega, by omega, by omega, by omega, by omega, by omega⟩
theorem info_u8 : (Tryz.prog.info? 5).map (fun i => (i.zero, i.size, i.bytes)) = some (some (.int .u8 0), 1, 1) := by kernel_rfl
set_option maxRecDepth 100000 in
theorem append64_any (w : World) (v : Value) (bs : List UInt8) (m : Nat) (hm : m < 18446744073709551616) (ho : Own w 5 1 v bs.length (u8s bs)) (hl : bs.length + 8 ≤ 140737488355328) :
    Calls Tryz.prog 70 #[v, .int .u64 m] w fun e w' => ∃ v', e = .returned v' ∧ Own w' 5 1 v' (bs ++ Lib.beBytes 8 m).length (u8s (bs ++ Lib.beBytes 8 m)) ∧
      Chg (fun b => v.ownBlock = some b) w w' ∧ (v'.ownBlock = v.ownBlock ∨ ∃ k, v'.ownBlock = some k ∧ w.heap.size ≤ k) := by
  have hbe := beBytes_int m hm
  have hL : (Lib.beBytes 8 m).length = 8 := Lib.beBytes_length 8 m
  have hsr : ∀ E : List Value, E.length = 8 → Cs (w.alloc (.cells E.toArray 5)) (fun b => b = w.heap.size) 1 (.slice (some ⟨w.heap.size, 0, none⟩) 8 8) 8 E := fun E h => Cs.of_new w 5 8 (cs := E) (size := 1) (by rw [h]) (by decide)
  have hna : ∀ o : Obj, Own (w.alloc o) 5 1 v bs.length (u8s bs) := fun o => own_keep ho fun k hk => Below.heap_alloc w _ k (own_lt ho hk)
  have h1 := u8s_one (Lib.beBytes 8 m)
  have hch : ∀ o : Obj, Chg (fun b => v.ownBlock = some b) w (w.alloc o) := fun o => (Chg.refl _ w).alloc _
  have hre : u8s bs ++ u8s (Lib.beBytes 8 m) = u8s (bs ++ Lib.beBytes 8 m) := by simp [u8s]
  have HRE := Lib.hid hre; clear hre
  have HCH := Lib.hid hch; clear hch
  have HSR := Lib.hid hsr; clear hsr
  have HNA := Lib.hid hna; clear hna
  have H1 := Lib.hid h1; clear h1
  have HBE := Lib.hid hbe; clear hbe
  have HL := Lib.hid hL; clear hL
  obtain ⟨A, cap, rfl⟩ := ho.form
  have HO := Lib.hid ho; clear ho
  go_enter Tryz.func70, Tryz.ntmps70
  go_wp2_with (at_builtin; refine wpList_app _ rfl _ _ _ rfl Tryz.underlying22 info_u8 rfl (by decide) (HNA.out _) rfl (HSR.out [_, _, _, _, _, _, _, _] rfl) rfl (by intro u hu; simp only [List.mem_cons, List.not_mem_nil, or_false] at hu; rcases hu with rfl | rfl | rfl | rfl | rfl | rfl | rfl | rfl <;> rfl) (by simp only [maxLen]; omega) (by omega) ?_; intro v2 w2 ho3 hg3 hnil3 hat3)
  rw [← HBE.out, HRE.out] at ho3
  go_ret
  refine ⟨v2, rfl, by rw [List.length_append, HL.out]; exact ho3, (HCH.out _).trans hg3 (fun b hb => .inl hb), hat3.imp id fun h => ⟨_, h, ?_⟩⟩
  simp
end
section
open Go.RowKit Go.Maps
def Th (w : World) (b : Nat) : Prop := ∃ cs t, w.heap[b]? = some (.cells cs t (0, 0))
def Fresh (w w' : World) (v : Value) (bs : List UInt8) : Prop := Bs w' (fun b => w.heap.size ≤ b ∧ Th w' b) v bs ∧ Below w.heap.size w w'
theorem Fresh.of_own {w w1 : World} {v : Value} {bs : List UInt8} (ho : Own w1 5 1 v bs.length (u8s bs)) (hb : Below w.heap.size w w1) (hv : ∀ k, v.ownBlock = some k → w.heap.size ≤ k) (hl : bs.length ≤ 140737488355328) : Fresh w w1 v bs := by
  refine ⟨⟨Cs.of_own ho fun k hk => ⟨hv k hk, ?_⟩, hl⟩, hb⟩
  rcases ho.2 with ⟨rfl, _⟩ | ⟨g, cap, cur, rfl, _, hh, _⟩
  · simp [Value.ownBlock] at hk
  · simp only [Value.ownBlock, Option.some.injEq] at hk
    subst hk
    exact ⟨_, _, hh⟩
theorem numInt_any (w : World) (n : Int) : Calls Tryz.prog 38 #[.int .i64 n] w fun e w' => ∃ v', e = .returned v' ∧ Fresh w w' v' (numB n) := by
  have ha := append64_any w (.slice none 0 0) [] ((n % 18446744073709551616).toNat) (by omega) (Own.nil_ _ _ _) (by simp)
  have hw : (((n % 18446744073709551616).toNat : Nat) : Int) = IntKind.u64.wrap n := by rw [show IntKind.u64 = nk false from rfl, wrap_u]; omega
  rw [hw] at ha
  have HA := Lib.hid ha; clear ha hw
  go_enter Tryz.func38, Tryz.ntmps38
  go_wp2_with fail
  refine HA.out.mono ?_
  rintro e w1 ⟨v1, rfl, ho, hc, hv⟩
  go_wp2_with fail
  go_ret
  exact ⟨v1, rfl, Fresh.of_own ho (hc.below (Nat.le_refl _) fun b h => by simp [Value.ownBlock] at h) (fun k hk => hv.elim (fun h => by rw [h] at hk; simp [Value.ownBlock] at hk) fun ⟨j, h1, h2⟩ => by rw [h1] at hk; injection hk with hk; omega) (by show (be8 _).length ≤ _; rw [be8_length]; omega)⟩
theorem info_u8' : (Tryz.prog.info? 5).map (fun i => (i.zero, i.size, i.bytes)) = some (some (.int .u8 0), 1, 1) := by kernel_rfl
def Bsr (w : World) (S : Nat → Prop) (v : Value) (rows : List (List UInt8)) : Prop := ∃ vs : List Value, Cs w S 1 v rows.length vs ∧ ∀ (i : Nat) (x : List UInt8) (u : Value), rows[i]? = some x → vs[i]? = some u → Bs w S u x
theorem Bsr.form {w : World} {S : Nat → Prop} {v : Value} {rows : List (List UInt8)} (h : Bsr w S v rows) : ∃ A cap, v = .slice A rows.length cap := by
  obtain ⟨vs, h, _⟩ := h
  exact h.form
theorem Bsr.keep {w w' : World} {S : Nat → Prop} {v : Value} {rows : List (List UInt8)} (h : Bsr w S v rows) (hs : w.heap.size ≤ w'.heap.size) (hk : ∀ b, S b → b < w.heap.size → w'.heap[b]? = w.heap[b]?) : Bsr w' S v rows := by
  obtain ⟨vs, h1, h2⟩ := h
  exact ⟨vs, h1.keep hs hk, fun i x u a b => (h2 i x u a b).keep hs hk⟩
theorem Bsr.below {w w' : World} {S : Nat → Prop} {v : Value} {rows : List (List UInt8)} (h : Bsr w S v rows) (hb : Below w.heap.size w w') : Bsr w' S v rows := h.keep hb.size fun b _ hl => hb.block b hl
theorem Bsr.chg {w w' : World} {S M : Nat → Prop} {v : Value} {rows : List (List UInt8)} (h : Bsr w S v rows) (hc : Chg M w w') (hd : ∀ b, S b → ¬ M b) : Bsr w' S v rows := h.keep hc.size fun b hs hl => hc.block b hl (hd b hs)
theorem Bsr.at_ {w : World} {S : Nat → Prop} {A : Option Addr} {cap : Nat} {rows : List (List UInt8)} (h : Bsr w S (.slice A rows.length cap) rows) {k : Nat} (hk : k < rows.length) :
    ∃ b off u, A = some ⟨b, off, none⟩ ∧ w.cell? ⟨b, off + k, none⟩ = some u ∧ Bs w S u rows[k] ∧ b < w.heap.size ∧ S b := by
  obtain ⟨vs, h1, h2⟩ := h
  have hl := h1.1
  obtain ⟨_, A', cap', e, _, _, hp⟩ := h1
  injection e with e
  subst e
  obtain ⟨b, off, rfl, hS, hlt, hc⟩ := hp (by omega)
  have hg : vs[k]? = some (vs[k]'(by omega)) := List.getElem?_eq_getElem _
  exact ⟨b, off, vs[k]'(by omega), rfl, hc k _ hg, h2 k _ _ (List.getElem?_eq_getElem hk) hg, hlt, hS⟩
theorem joinP_take_succ (rows : List (List UInt8)) (k : Nat) (h : k < rows.length) : joinP (rows.take (k + 1)) = (joinP (rows.take k) ++ be8 rows[k].length) ++ rows[k] := by
  rw [List.take_succ_eq_append_getElem h, joinP_append]
  simp [joinP]
theorem joinP_take_le (rows : List (List UInt8)) (k : Nat) : (joinP (rows.take k)).length ≤ (joinP rows).length := by
  have := congrArg List.length (joinP_append (rows.take k) (rows.drop k))
  rw [List.take_append_drop, List.length_append] at this
  omega
theorem u64_wrap_nat (n : Nat) (h : n < 18446744073709551616) : IntKind.u64.wrap (n : Int) = n := by rw [show IntKind.u64 = nk false from rfl, wrap_u]; omega
set_option maxHeartbeats 1000000 in
set_option maxRecDepth 100000 in
theorem join_any (w : World) {S : Nat → Prop} {v : Value} {rows : List (List UInt8)} (h : Bsr w S v rows) (hl : (joinB rows).length ≤ 140737488355328) (hS : ∀ b, S b → b < w.heap.size) :
    Calls Tryz.prog 37 #[v] w fun e w' => ∃ v', e = .returned v' ∧ Fresh w w' v' (joinB rows) := by
  obtain ⟨A, cap, rfl⟩ := h.form
  have H := Lib.hid h; clear h
  have hc := joinP_count rows
  rw [joinB_length] at hl
  have ha := append64_any w (.slice none 0 0) [] rows.length (by omega) (Own.nil_ _ _ _) (by simp)
  have HA := Lib.hid ha; clear ha
  have hw := u64_wrap_nat rows.length (by omega)
  go_enter Tryz.func37, Tryz.ntmps37
  go_wp2_with fail
  refine HA.out.mono ?_
  rintro e w1 ⟨v1, rfl, ho, hc1, hv1⟩
  go_wp2_with fail
  have hb1 : Below w.heap.size w w1 := hc1.below (Nat.le_refl _) fun b h => by simp [Value.ownBlock] at h
  have hv : ∀ b, v1.ownBlock = some b → w.heap.size ≤ b := fun b hb => hv1.elim (fun h => by rw [h] at hb; simp [Value.ownBlock] at hb) fun ⟨j, h1, h2⟩ => by rw [h1] at hb; injection hb with hb; omega
  obtain ⟨B0, hB0⟩ : ∃ B0, B0 = be8 rows.length := ⟨_, rfl⟩
  have ho : Own w1 5 1 v1 (B0 ++ joinP (rows.take 0)).length (u8s (B0 ++ joinP (rows.take 0))) := by
    rw [List.take_zero, show joinP [] = [] from rfl, List.append_nil, hB0]; exact ho
  have hB8 : B0.length = 8 := by rw [hB0, be8_length]
  have HB8 := Lib.hid hB8
  have HB0 := Lib.hid hB0
  clear hB8 hB0 hv1 hc1 hw HA
  go_loopw [3, 12] (fun o i wr => ∃ k : Nat, k ≤ rows.length ∧ i = .int .i64 k ∧ Own wr 5 1 o (B0 ++ joinP (rows.take k)).length (u8s (B0 ++ joinP (rows.take k))) ∧ (∀ b, o.ownBlock = some b → w.heap.size ≤ b) ∧ Below w.heap.size w wr) (fun _ i _ => rows.length - (intOf i).toNat)
  case atStart => exact ⟨0, Nat.zero_le _, rfl, ho, hv, hb1⟩
  case round =>
    obtain ⟨k, hk, rfl, ho, hv, hbl⟩ := hrel
    by_cases hlt : k < rows.length
    · obtain ⟨ba, oa, ua, rfl, hca, hua, _, hSb⟩ := (H.out.below hbl).at_ hlt
      have hT := joinP_take_le rows k
      have hT1 := joinP_take_le rows (k + 1)
      have hts := joinP_take_succ rows k hlt
      obtain ⟨x, hx⟩ : ∃ x, x = rows[k] := ⟨_, rfl⟩
      rw [← hx] at hua hts
      have hlen : (joinP (rows.take (k + 1))).length = (joinP (rows.take k)).length + 8 + x.length := by rw [hts, List.length_append, List.length_append, be8_length]
      obtain ⟨J, hJ⟩ : ∃ J, J = joinP (rows.take k) := ⟨_, rfl⟩
      rw [← hJ] at ho hT hts hlen
      obtain ⟨J', hJ'⟩ : ∃ J', J' = joinP (rows.take (k + 1)) := ⟨_, rfl⟩
      rw [← hJ'] at hT1 hts hlen
      have hB8 := HB8.out
      have hx2 := hua.2
      obtain ⟨Ax, cx, rfl⟩ := hua.form
      have happ := append64_any _ _ (B0 ++ J) x.length (by omega) ho (by rw [List.length_append]; omega)
      obtain ⟨E, hE⟩ : ∃ E, E = B0 ++ J ++ Lib.beBytes 8 x.length := ⟨_, rfl⟩
      rw [← hE] at happ
      have HE := Lib.hid hE
      have HAPP := Lib.hid happ
      have HUA := Lib.hid hua
      have HV := Lib.hid hv
      have HTS := Lib.hid hts
      have hw := u64_wrap_nat x.length (by omega)
      have hlb : E.length + x.length ≤ 140737488355328 := by rw [hE, List.length_append, List.length_append, Lib.beBytes_length]; omega
      have HLB := Lib.hid hlb
      clear happ hE hua hv hts ho hx hJ hlen hT hT1 hx2 hB8 hlb
      go_wp2_with fail
      refine HAPP.out.mono ?_
      rintro e w2 ⟨v2, rfl, ho2, hc2, hv2⟩
      have hb2 := hbl.trans (hc2.below hbl.size fun b h => HV.out b h)
      have hua2 := HUA.out.chg hc2 (fun b hb h => by have h1 := hS b hb; have h2 := HV.out b h; omega)
      have hv2' : ∀ b, v2.ownBlock = some b → w.heap.size ≤ b := fun b hb => hv2.elim (fun h => HV.out b (h ▸ hb)) fun ⟨j, h1, h2⟩ => by rw [h1] at hb; injection hb with hb; have := hbl.size; omega
      have HO2 := Lib.hid ho2
      have HU2 := Lib.hid hua2
      have HV2 := Lib.hid hv2'
      obtain ⟨A2, c2, rfl⟩ := ho2.form
      clear ho2 hua2 hv2 hv2' hc2 HAPP HUA hw
      go_wp2_with (at_builtin; refine wpList_app _ rfl _ _ _ rfl Tryz.underlying22 info_u8 rfl (by decide) HO2.out rfl HU2.out.1 rfl (u8s_one _) (by have := HLB.out; simp only [maxLen]; omega) (by have := HLB.out; omega) ?_; intro v3 w3 ho3 hg3 hnil3 hat3; clear hnil3; have HO3 := Lib.hid ho3; clear ho3; have HG3 := Lib.hid hg3; clear hg3; have HAT3 := Lib.hid hat3; clear hat3)
      have hgo : ∀ b, v3.ownBlock = some b → w.heap.size ≤ b := fun b hb => HAT3.out.elim (fun h => HV2.out b (h ▸ hb)) fun h => by rw [h] at hb; injection hb with hb; have := hb2.size; omega
      have ho4 : Own w3 5 1 v3 (B0 ++ J').length (u8s (B0 ++ J')) := by
        have h1 := HO3.out
        have h2 : u8s E ++ u8s x = u8s (B0 ++ J') := by rw [HTS.out, HE.out]; simp [u8s, be8]
        have h3 : E.length + x.length = (B0 ++ J').length := by rw [HTS.out, HE.out]; simp [be8]; omega
        rw [h2, h3] at h1
        exact h1
      refine ⟨⟨k + 1, by omega, by push_cast; rfl, hJ' ▸ ho4, hgo, hb2.trans (HG3.out.below hb2.size fun b h => HV2.out b h)⟩, ?_⟩
      simp only [intOf]
      omega
    · have hk' : k = rows.length := by omega
      rw [hk', List.take_length] at ho
      have HO := Lib.hid ho
      have HV := Lib.hid hv
      clear ho hv
      go_wp2_with fail
      go_ret
      have h1 := HO.out
      have h2 : B0 ++ joinP rows = joinB rows := by rw [HB0.out]; rfl
      rw [h2] at h1
      exact ⟨_, rfl, Fresh.of_own h1 hbl HV.out (by rw [joinB_length]; omega)⟩
end
section
open Go.RowKit
section
variable {P : Program} (w : World)
theorem Own.short {w : World} {e : TypeId} {size g n cap : Nat} {xs : List Value} (h : Own w e size (.slice (some ⟨g, 0, none⟩) n cap) n xs) {k : Nat} (hk : k ≤ n) :
    Own w e size (.slice (some ⟨g, 0, none⟩) k cap) k (xs.take (k * size)) := by
  obtain ⟨h1, h2⟩ := h
  have hle : k * size ≤ n * size := Nat.mul_le_mul_right _ hk
  refine ⟨by rw [List.length_take, h1]; omega, ?_⟩
  rcases h2 with ⟨h, _⟩ | ⟨g', cap', cur, h, hb, hh, hnc, hcm, hcs, htake⟩
  · cases h
  · simp only [Value.slice.injEq, Option.some.injEq, Addr.mk.injEq, and_true, true_and] at h
    obtain ⟨rfl, rfl⟩ := h
    refine Or.inr ⟨g, cap, cur, rfl, hb, hh, by omega, hcm, hcs, ?_⟩
    rw [← htake, List.take_take, Nat.min_eq_left hle]
theorem Own.cap_le {w : World} {e : TypeId} {size n : Nat} {A : Option Addr} {cap : Nat} {xs : List Value} (h : Own w e size (.slice A n cap) n xs) : n ≤ cap ∧ cap ≤ maxLen := by
  obtain ⟨_, h2⟩ := h
  rcases h2 with ⟨h, h0⟩ | ⟨g', cap', cur, h, hb, hh, hnc, hcm, hcs, htake⟩
  · simp only [Value.slice.injEq] at h; simp only [maxLen]; omega
  · simp only [Value.slice.injEq] at h; obtain ⟨_, _, rfl⟩ := h; exact ⟨hnc, hcm⟩
theorem run_fits {t ty e : TypeId} {z : Option Value} {size bytes : Nat} (ht : P.underlying t = some (.slice e)) (hinfo : (P.info? e).map (fun i => (i.zero, i.size, i.bytes)) = some (z, size, bytes))
    {g n cap : Nat} {xs : List Value} (hown : Own w e size (.slice (some ⟨g, 0, none⟩) n cap) n xs) {S : Nat → Prop} {src : Value} {m : Nat} {news : List Value} (hr : Cs w S size src m news) (h1 : ∀ u ∈ news, u.oneCell' = true)
    (hroom : n + m ≤ cap) :
    ∃ w', (Builtin.append_ #[t, t] ty #[.slice (some ⟨g, 0, none⟩) n cap, src]).run P w = .ok (.slice (some ⟨g, 0, none⟩) (n + m) cap) w' ∧
      Own w' e size (.slice (some ⟨g, 0, none⟩) (n + m) cap) (n + m) (xs ++ news) ∧ Chg (fun b => b = g) w w' := by
  obtain ⟨i0, hi, hz1⟩ : ∃ i0, P.info? e = some i0 ∧ i0.size = size := by
    cases h : P.info? e with
    | none => rw [h] at hinfo; cases hinfo
    | some i0 => rw [h] at hinfo; simp only [Option.map_some, Option.some.injEq, Prod.mk.injEq] at hinfo; exact ⟨i0, rfl, hinfo.2.1⟩
  obtain ⟨hl, A, c, rfl, hn, hc, hp⟩ := hr
  rcases A with _ | ad
  · have hm : m = 0 := by
      rcases Nat.eq_zero_or_pos m with h0 | h0
      · exact h0
      · obtain ⟨b, off, h, _⟩ := hp h0
        cases h
    subst hm
    obtain rfl : news = [] := List.eq_nil_of_length_eq_zero (by simpa using hl)
    exact ⟨w, run_append_of_nil w t ty e i0 size ht hi _ n xs hown c, by simpa using hown, Chg.refl _ w⟩
  · have hcells : ∀ j u, news[j]? = some u → w.cell? (ad.add j) = some u := by
      intro j u hu
      rcases Nat.eq_zero_or_pos m with h0 | h0
      · subst h0
        obtain rfl : news = [] := List.eq_nil_of_length_eq_zero (by simpa using hl)
        simp at hu
      · obtain ⟨b, off, h, _, _, hcell⟩ := hp h0
        obtain rfl : ad = ⟨b, off, none⟩ := by injection h
        rw [add_plain]
        exact hcell j u hu
    obtain ⟨w', hrun, h2, h3⟩ := run_append_fits (P := P) w 0 t ty e i0 size ht hi hz1 g n cap xs hown ad m c news hl hcells h1 hroom
    exact ⟨w', hrun, h2, ⟨h3.os, h3.tape, h3.output, h3.size, fun k hk hne => h3.block k hk (fun e => hne (by injection e))⟩⟩
theorem wp_fits {o : Oper} {a : Act} {K : Act → World → Prop} {Q : Exit → Act → World → Prop} (s x : Operand) (t : TypeId)
    (ho : o.op = .call { callee := .builtin .append, args := #[s, x], argTypes := #[t, t] }) {e : TypeId} {z : Option Value} {size bytes : Nat} (ht : P.underlying t = some (.slice e))
    (hinfo : (P.info? e).map (fun i => (i.zero, i.size, i.bytes)) = some (z, size, bytes))
    {g n cap : Nat} {xs : List Value} (hown : Own w e size (.slice (some ⟨g, 0, none⟩) n cap) n xs) (hs : a.eval s = .slice (some ⟨g, 0, none⟩) n cap) {S : Nat → Prop} {src : Value} {m : Nat} {news : List Value} (hr : Cs w S size src m news) (hx : a.eval x = src)
    (h1 : ∀ u ∈ news, u.oneCell' = true) (hroom : n + m ≤ cap)
    (h : ∀ w', Own w' e size (.slice (some ⟨g, 0, none⟩) (n + m) cap) (n + m) (xs ++ news) → Chg (fun b => b = g) w w' → K (a.put o.dst (.slice (some ⟨g, 0, none⟩) (n + m) cap)) w') : o.wp P a w K Q := by
  obtain ⟨w', hrun, h2, h3⟩ := run_fits (P := P) w (ty := o.type) ht hinfo hown hr h1 hroom
  unfold Oper.wp execOp
  simp only [ho, resolve, invoke, builtin, Sem.run_bind, Sem.run_pure, Result.andThen_ok, List.map_toArray, List.map_cons, List.map_nil, hs, hx, hrun]
  exact h w' h2 h3
theorem step_fits {ops : Array Oper} {o : Oper} {a : Act} {K : Act → World → Prop} {Q : Exit → Act → World → Prop} {E : Prop} (hgd : o.guard = none) (s x : Operand) (t : TypeId)
    (ho : o.op = .call { callee := .builtin .append, args := #[s, x], argTypes := #[t, t] }) {e : TypeId} {z : Option Value} {size bytes : Nat} (ht : P.underlying t = some (.slice e))
    (hinfo : (P.info? e).map (fun i => (i.zero, i.size, i.bytes)) = some (z, size, bytes))
    {g n cap : Nat} {xs : List Value} (hown : Own w e size (.slice (some ⟨g, 0, none⟩) n cap) n xs) (hs : a.eval s = .slice (some ⟨g, 0, none⟩) n cap) {S : Nat → Prop} {src : Value} {m : Nat} {news : List Value} (hr : Cs w S size src m news) (hx : a.eval x = src)
    (h1 : ∀ u ∈ news, u.oneCell' = true) (hroom : n + m ≤ cap)
    (h : ∀ w', Own w' e size (.slice (some ⟨g, 0, none⟩) (n + m) cap) (n + m) (xs ++ news) → Chg (fun b => b = g) w w' → K (a.put o.dst (.slice (some ⟨g, 0, none⟩) (n + m) cap)) w') :
    if Region.wanted o (yielded ops a.tmps) = true then Oper.wp P o a w K Q else E := by
  have hw : Region.wanted o (yielded ops a.tmps) = true := by simp [Region.wanted, hgd]
  rw [if_pos hw]
  exact wp_fits w s x t ho ht hinfo hown hs hr hx h1 hroom h
theorem run_clear_tail {t ty e : TypeId} {z : Value} {size : Nat} (ht : P.underlying t = some (.slice e)) (hv : ∀ w, (zeroValue e).run P w = .ok z w) (hzs : z.cells.size = size) (hz1 : z.cells.toList.all (·.oneCell') = true) (hs0 : 0 < size)
    {g n cap : Nat} {xs : List Value} (hown : Own w e size (.slice (some ⟨g, 0, none⟩) n cap) n xs) (o k c : Nat) (hk : 0 < k) (ho : n * size ≤ o) (hfit : o + k * size ≤ cap * size) :
    ∃ w', (Builtin.clear_ #[t] ty #[.slice (some ⟨g, o, none⟩) k c]).run P w = .ok (.tuple #[]) w' ∧ Own w' e size (.slice (some ⟨g, 0, none⟩) n cap) n xs ∧ Chg (fun b => b = g) w w' := by
  obtain ⟨hl, h2⟩ := hown
  rcases h2 with ⟨h, _⟩ | ⟨g', cap', cur, h, hb, hh, hnc, hcm, hcs, htake⟩
  · cases h
  simp only [Value.slice.injEq, Option.some.injEq, Addr.mk.injEq, and_true, true_and] at h
  obtain ⟨rfl, rfl⟩ := h
  have hzl : (Builtin.zeroCells z.cells k).toList.length = k * size := by rw [Array.length_toList, size_zeroCells, hzs]
  have hone : ∀ v ∈ (Builtin.zeroCells z.cells k).toList, v.oneCell' = true := by
    intro v hv'
    simp only [Builtin.zeroCells, Array.toList_map, List.mem_map] at hv'
    obtain ⟨i, _, rfl⟩ := hv'
    have hi : i % z.cells.size < z.cells.size := Nat.mod_lt _ (by omega)
    rw [getElem!_pos z.cells (i % z.cells.size) hi]
    exact List.all_eq_true.1 hz1 _ (by simp)
  have hst := run_storeCells_at P g o e (Builtin.zeroCells z.cells k).toList 0 cur w hh (by rw [hzl]; omega) hone
  obtain ⟨k', rfl⟩ : ∃ k', k = k' + 1 := ⟨k - 1, by omega⟩
  simp only [Nat.add_zero] at hst
  refine ⟨w.setRow g (cur.toList.take o ++ (Builtin.zeroCells z.cells (k' + 1)).toList ++ cur.toList.drop (o + (Builtin.zeroCells z.cells (k' + 1)).toList.length)).toArray,
    by simp [Builtin.clear_, run_underlying ht, hv, hst], ⟨hl, Or.inr ⟨g, cap, _, rfl, hb, setRow_heap w g cur _ e _ hh, hnc, hcm, ?_, ?_⟩⟩,
    ⟨rfl, rfl, rfl, by simp, fun i hi hne => setRow_other w g i _ hne⟩⟩
  · simp only [List.size_toArray, List.length_append, List.length_take, List.length_drop, Array.length_toList] at hzl ⊢
    rw [hzl]; omega
  · rw [← htake]
    simp only [List.append_assoc]
    rw [List.take_append_of_le_length (by rw [List.length_take, Array.length_toList]; omega), List.take_take, Nat.min_eq_left ho]
end
end
section
open Go.RowKit
section
variable {P : Program} {ops : Array Oper} {Q : Exit → Act → World → Prop} {S : World → Prop} {late : List Nat}
def AnyS (P : Program) (ops : Array Oper) (Q : Exit → Act → World → Prop) (S : World → Prop) (late : List Nat) : Nat → Array Bool → Act → World → Prop
  | 0, listed, a, w => Region.ready .any ops listed = [] ∧ Q .normal a w
  | n + 1, listed, a, w => (Region.ready .any ops listed = [] → Q .normal a w) ∧
      ∀ i ∈ Region.ready .any ops listed, wpOp P ops Q i (fun a' w' => (late.contains i = false → S w') ∧ AnyS P ops Q S late n (listed.setIfInBounds i true) a' w') a w
theorem AnyS.any : ∀ (n : Nat) (listed : Array Bool) (a : Act) (w : World), AnyS P ops Q S late n listed a w → wpAny P .any ops Q n listed a w
  | 0, _, _, _, h => h
  | n + 1, _, _, _, h => ⟨h.1, fun i hi => wpOp_mono (fun a' w' h' => AnyS.any n _ a' w' h'.2) (h.2 i hi)⟩
def waits (ops : Array Oper) (i : Nat) : Nat → Nat → Bool
  | 0, _ => false
  | n + 1, j => ((ops[j]?).map fun o => o.after.any fun e => Region.binds .any e && (e.on == i || waits ops i n e.on)).getD false
def Closed (ops : Array Oper) (listed : Array Bool) : Prop := ∀ (k : Nat) (o : Oper), listed.getD k false = true → ops[k]? = some o → ∀ e ∈ o.after, Region.binds .any e = true → listed.getD e.on false = true
theorem Closed.start (n : Nat) : Closed ops (Array.replicate n false) := by
  intro k o h
  simp only [Array.getD_eq_getD_getElem?, Array.getElem?_replicate] at h
  split at h <;> simp at h
theorem Closed.more {listed : Array Bool} (h : Closed ops listed) {j : Nat} (hj : j ∈ Region.ready .any ops listed) : Closed ops (listed.setIfInBounds j true) := by
  intro k o hk ho e he hb
  by_cases hjk : j = k
  · subst hjk
    obtain ⟨_, o', ho', hall⟩ := mem_ready.1 hj
    rw [ho] at ho'
    obtain rfl : o = o' := by injection ho'
    exact getD_set_true (hall e he hb)
  · rw [getD_set_ne false hjk] at hk
    exact getD_set_true (h k o hk ho e he hb)
theorem Closed.waits {listed : Array Bool} (h : Closed ops listed) {i : Nat} : ∀ (n j : Nat), waits ops i n j = true → (∀ o, ops[j]? = some o → ∀ e ∈ o.after, Region.binds .any e = true → listed.getD e.on false = true) → listed.getD i false = true
  | 0, j, hw, _ => by simp [Go.Proofs.YtjjgmkfkmckkoaaGreatDoor.waits] at hw
  | n + 1, j, hw, hj => by
    cases ho : ops[j]? with
    | none => simp [Go.Proofs.YtjjgmkfkmckkoaaGreatDoor.waits, ho] at hw
    | some o =>
      simp only [Go.Proofs.YtjjgmkfkmckkoaaGreatDoor.waits, ho, Option.map_some, Option.getD_some] at hw
      obtain ⟨e, he, hb⟩ := Array.any_eq_true'.1 hw
      simp only [Bool.and_eq_true, Bool.or_eq_true, beq_iff_eq] at hb
      have hl := hj o ho e he hb.1
      rcases hb.2 with rfl | hb2
      · exact hl
      · exact Closed.waits h n e.on hb2 (fun o' ho' e' he' hb' => h e.on o' hl ho' e' he' hb')
theorem AnyS.first {i : Nat} {oi : Oper} {v : Value} (hi : ops[i]? = some oi) (hsel : Region.noSelect ops = true)
    (hQ : ∀ c a w, Q (.panic c) (a.put oi.dst v) w → Q (.panic c) a w) (hlate : late.all (waits ops i ops.size) = true) (n : Nat) :
    ∀ (listed : Array Bool) (a : Act) (w : World), Closed ops listed → Region.free .any ops listed i = true → i ∈ Region.ready .any ops listed → YieldsIf P ops S oi v a → S w →
      AnyS P ops Q S late n (listed.setIfInBounds i true) (a.put oi.dst v) w → AnyS P ops Q S late (n + 1) listed a w := by
  have key : ∀ (n : Nat) (listed : Array Bool) (a : Act) (w : World), Closed ops listed →
      (∀ j oj, ops[j]? = some oj → j ≠ i → listed.getD j true = false → (∀ e ∈ oj.after, Region.binds .any e = true → e.on ≠ i) → oi.apart ops oj = true) →
      i ∈ Region.ready .any ops listed → YieldsIf P ops S oi v a → S w →
      AnyS P ops Q S late n (listed.setIfInBounds i true) (a.put oi.dst v) w → AnyS P ops Q S late (n + 1) listed a w := by
    intro n
    induction n with
    | zero =>
      intro listed a w _ _ hr hy hS H
      refine ⟨fun h => (by rw [h] at hr; cases hr), fun j hj => ?_⟩
      by_cases e : j = i
      · subst e
        exact hy.wpOp hi hS ⟨fun _ => hS, H⟩
      · have hm := ready_mono hj e
        rw [H.1] at hm
        cases hm
    | succ n ih =>
      intro listed a w hcl hap hr hy hS H
      refine ⟨fun h => (by rw [h] at hr; cases hr), fun j hj => ?_⟩
      by_cases e : j = i
      · subst e
        exact hy.wpOp hi hS ⟨fun _ => hS, H⟩
      obtain ⟨hun, oj, hoj, hall⟩ := mem_ready.1 hj
      have hi0 := (mem_ready.1 hr).1
      have hif : listed.getD i false = false := by
        rcases Nat.lt_or_ge i listed.size with h' | h'
        · simpa [h'] using hi0
        · simp [Array.getElem?_eq_none h']
      have hno : ∀ ed ∈ oj.after, Region.binds .any ed = true → ed.on ≠ i := by
        intro ed he hb hq
        have h1 := hall ed he hb
        rw [hq, hif] at h1
        cases h1
      have hnl : late.contains j = false := by
        cases hc : late.contains j with
        | false => rfl
        | true =>
          have hw := List.all_eq_true.1 hlate j (by simpa using hc)
          have := hcl.waits _ _ hw (fun o ho => by
            rw [hoj] at ho
            obtain rfl : oj = o := by injection ho
            exact hall)
          rw [hif] at this
          cases this
      have h2 := wpOp_putIf hoj (hap j oj hoj e hun hno) (fun cs b => Region.noSelect_spec hsel i oi cs b hi) (fun cs b => Region.noSelect_spec hsel j oj cs b hoj) hQ hy (H.2 j (ready_mono hj e))
      refine wpOp_mono (fun a' w' h3 => ?_) h2
      have hS' := h3.2.1 hnl
      refine ⟨fun _ => hS', ih (listed.setIfInBounds j true) a' w' (hcl.more hj) ?_ (ready_mono hr (Ne.symm e)) h3.1 hS' ?_⟩
      · intro k ok hk hki hkun hkno
        by_cases hjk : j = k
        · subst hjk
          exact hap j ok hk hki hun hkno
        · rw [getD_set_ne true hjk] at hkun
          exact hap k ok hk hki hkun hkno
      · rw [Array.setIfInBounds_comm _ _ e]
        exact h3.2.2
  intro listed a w hcl hf
  exact key n listed a w hcl (Region.free_spec hi hf)
def Hoisted (P : Program) (ops : Array Oper) (S : World → Prop) : List Nat → Act → Act → Prop
  | [], a, a' => a = a'
  | i :: r, a, a' => ∃ o v, ops[i]? = some o ∧ YieldsIf P ops S o v a ∧ Hoisted P ops S r (a.put o.dst v) a'
theorem Hoisted.nil_ {a : Act} : Hoisted P ops S [] a a := rfl
theorem Hoisted.yes {i : Nat} {r : List Nat} {a a' : Act} {o : Oper} {v : Value} (hi : ops[i]? = some o) (hw : Region.wanted o (yielded ops a.tmps) = true)
    (hv : ∀ w, S w → (execOp a.eval o).run P w = .ok (.value v) w) (h : Hoisted P ops S r (a.put o.dst v) a') : Hoisted P ops S (i :: r) a a' := ⟨o, v, hi, .inl ⟨hw, hv⟩, h⟩
theorem Hoisted.no {i : Nat} {r : List Nat} {a a' : Act} {o : Oper} (hi : ops[i]? = some o) (hw : Region.wanted o (yielded ops a.tmps) = false)
    (h : Hoisted P ops S r (a.put o.dst undef) a') : Hoisted P ops S (i :: r) a a' := ⟨o, undef, hi, .inr ⟨hw, rfl⟩, h⟩
def HoistK (P : Program) (ops : Array Oper) (S : World → Prop) : List Nat → Act → (Act → Prop) → Prop
  | [], a, K => K a
  | i :: r, a, K => ∃ o v, ops[i]? = some o ∧ YieldsIf P ops S o v a ∧ HoistK P ops S r (a.put o.dst v) K
theorem HoistK.out : ∀ (r : List Nat) (a : Act) (K : Act → Prop), HoistK P ops S r a K → ∃ a', Hoisted P ops S r a a' ∧ K a'
  | [], a, _, h => ⟨a, rfl, h⟩
  | _ :: r, _, K, ⟨o, v, hi, hy, h⟩ => let ⟨a', h1, h2⟩ := HoistK.out r _ K h; ⟨a', ⟨o, v, hi, hy, h1⟩, h2⟩
theorem HoistK.nil_ {a : Act} {K : Act → Prop} (h : K a) : HoistK P ops S [] a K := h
theorem HoistK.yes {i : Nat} {r : List Nat} {a : Act} {K : Act → Prop} {o : Oper} (hi : ops[i]? = some o) (hw : Region.wanted o (yielded ops a.tmps) = true)
    (h : ∃ v, (∀ w, S w → (execOp a.eval o).run P w = .ok (.value v) w) ∧ HoistK P ops S r (a.put o.dst v) K) : HoistK P ops S (i :: r) a K :=
  let ⟨v, hv, h⟩ := h; ⟨o, v, hi, .inl ⟨hw, hv⟩, h⟩
theorem HoistK.no {i : Nat} {r : List Nat} {a : Act} {K : Act → Prop} {o : Oper} (hi : ops[i]? = some o) (hw : Region.wanted o (yielded ops a.tmps) = false)
    (h : HoistK P ops S r (a.put o.dst undef) K) : HoistK P ops S (i :: r) a K := ⟨o, undef, hi, .inr ⟨hw, rfl⟩, h⟩
def hoistOk (ops : Array Oper) (late : List Nat) : List Nat → Array Bool → Bool
  | [], _ => true
  | i :: r, listed => Region.free .any ops listed i && (Region.ready .any ops listed).contains i && late.all (waits ops i ops.size) && hoistOk ops late r (listed.setIfInBounds i true)
def listedBy (r : List Nat) (listed : Array Bool) : Array Bool := r.foldl (fun l i => l.setIfInBounds i true) listed
theorem AnyS.hoist (hsel : Region.noSelect ops = true) {a' : Act} {w : World} (hS : S w) : ∀ (r : List Nat) (n : Nat) (listed : Array Bool) (a : Act), Closed ops listed → hoistOk ops late r listed = true →
    Hoisted P ops S r a a' → AnyS P ops (NoPanic Q) S late n (listedBy r listed) a' w → AnyS P ops (NoPanic Q) S late (r.length + n) listed a w
  | [], n, listed, a, _, _, hh, h => by
    have e : a = a' := hh
    subst e
    simpa [listedBy] using h
  | i :: r, n, listed, a, hcl, hok, hh, h => by
    obtain ⟨o, v, hi, hy, hh⟩ := hh
    simp only [hoistOk, Bool.and_eq_true] at hok
    obtain ⟨⟨⟨hf, hr⟩, hl⟩, hok⟩ := hok
    have := AnyS.first (Q := NoPanic Q) hi hsel (fun c a w h => h.elim) hl (r.length + n) listed a w hcl hf (by simpa using hr) hy hS (AnyS.hoist hsel hS r n _ _ (hcl.more (by simpa using hr)) hok hh h)
    rw [show (i :: r).length + n = r.length + n + 1 from by simp; omega]
    exact this
def Effects (P : Program) (ops : Array Oper) (Q : Exit → Act → World → Prop) (S : World → Prop) : List Oper → List Oper → Act → World → Prop
  | [], T, a, w => wpList P ops Q T a w
  | o :: r, T, a, w => wpList P ops (Exit.then (fun a' w' => S w' ∧ Effects P ops Q S r T a' w') Q) [o] a w
theorem Effects.nil_ {T : List Oper} {a : Act} {w : World} (h : ∀ Q' : Exit → Act → World → Prop, (∀ a w, Q .normal a w → Q' .normal a w) → wpList P ops Q' T a w) : Effects P ops (NoPanic Q) S [] T a w :=
  h _ fun _ _ h => h
theorem Effects.cons_ {o : Oper} {r T : List Oper} {a : Act} {w : World} (h : ∀ Q' : Exit → Act → World → Prop, (∀ a w, S w → Effects P ops Q S r T a w → Q' .normal a w) → wpList P ops Q' [o] a w) : Effects P ops Q S (o :: r) T a w :=
  h _ fun _ _ hs he => ⟨hs, he⟩
def chainOk (ops : Array Oper) : List Nat → Array Bool → Bool
  | [], listed => (Region.ready .any ops listed).isEmpty
  | i :: r, listed => (Region.ready .any ops listed == [i]) && chainOk ops r (listed.setIfInBounds i true)
def opsAt (ops : Array Oper) (r : List Nat) : List Oper := r.filterMap (ops[·]?)
theorem wpList_one {o : Oper} {K : Act → World → Prop} {a : Act} {w : World} {i : Nat} (hi : ops[i]? = some o) (h : wpList P ops (Exit.then K Q) [o] a w) (hout : LetsOut (Exit.then K Q) → LetsOut Q)
    (hp : ∀ c a w, Exit.then K Q (.panic c) a w → Q (.panic c) a w) : wpOp P ops Q i K a w := by
  unfold wpOp
  simp only [hi]
  unfold wpList at h
  split at h
  · rename_i hw
    rw [if_pos hw]
    rcases h with h | ⟨h1, h2⟩
    · refine .inl ?_
      unfold Oper.wp at h ⊢
      generalize (execOp a.eval o).run P w = r at h
      cases r with
      | ok nx w' =>
        cases nx <;> simp only [Oper.upon] at h ⊢
        case value v => exact h
        case skip => exact h
        case defer d => exact h
        case enter f args =>
          refine Calls.mono h fun e w'' he => ?_
          cases e with
          | returned v => exact he
          | panicked c => exact hp _ _ _ he
          | outgrown => exact hout he
        case row row args => exact Rows.mono h fun v w'' he => he
      | halt x w' =>
        cases x <;> simp only [Oper.upon] at h ⊢
        case panic v => exact hp _ _ _ h
    · exact .inr ⟨h1, hout h2⟩
  · rename_i hw
    rw [if_neg hw]
    exact h
theorem AnyS.chain (T : List Nat) (hT : T.all (fun i => decide (i ∈ late)) = true) : ∀ (E : List Nat) (listed : Array Bool) (a : Act) (w : World), chainOk ops (E ++ T) listed = true → (E ++ T).all (fun i => (ops[i]?).isSome) = true →
    Effects P ops (NoPanic Q) S (opsAt ops E) (opsAt ops T) a w → AnyS P ops (NoPanic Q) S late (E ++ T).length listed a w := by
  have tail : ∀ (T : List Nat), T.all (fun i => decide (i ∈ late)) = true → ∀ (listed : Array Bool) (a : Act) (w : World), chainOk ops T listed = true → T.all (fun i => (ops[i]?).isSome) = true →
      wpList P ops (NoPanic Q) (opsAt ops T) a w → AnyS P ops (NoPanic Q) S late T.length listed a w := by
    intro T
    induction T with
    | nil =>
      intro _ listed a w hc _ h
      exact ⟨by simpa [chainOk] using hc, h⟩
    | cons i r ih =>
      intro hl listed a w hc hs h
      simp only [List.all_cons, Bool.and_eq_true, decide_eq_true_eq] at hl hs
      simp only [chainOk, Bool.and_eq_true, beq_iff_eq] at hc
      obtain ⟨o, ho⟩ := Option.isSome_iff_exists.1 hs.1
      refine ⟨fun h0 => (by rw [hc.1] at h0; cases h0), fun j hj => ?_⟩
      rw [hc.1] at hj
      obtain rfl : j = i := by simpa using hj
      have hops : opsAt ops (j :: r) = o :: opsAt ops r := by simp [opsAt, ho]
      rw [hops] at h
      unfold wpOp
      simp only [ho]
      unfold wpList at h
      have go : ∀ a w, wpList P ops (NoPanic Q) (opsAt ops r) a w → (late.contains j = false → S w) ∧ AnyS P ops (NoPanic Q) S late r.length (listed.setIfInBounds j true) a w :=
        fun a w h => ⟨fun hn => (by rw [List.contains_iff_mem.2 hl.1] at hn; cases hn), ih hl.2 _ _ _ hc.2 hs.2 h⟩
      split at h
      · rename_i hw
        rw [if_pos hw]
        exact h.imp (Oper.wp_mono go) id
      · rename_i hw
        rw [if_neg hw]
        exact go _ _ h
  intro E
  induction E with
  | nil =>
    intro listed a w hc hs h
    simpa using tail T hT listed a w (by simpa using hc) (by simpa using hs) h
  | cons i r ih =>
    intro listed a w hc hs h
    simp only [List.cons_append, List.all_cons, Bool.and_eq_true] at hs
    simp only [List.cons_append, chainOk, Bool.and_eq_true, beq_iff_eq] at hc
    obtain ⟨o, ho⟩ := Option.isSome_iff_exists.1 hs.1
    refine ⟨fun h0 => (by rw [hc.1] at h0; cases h0), fun j hj => ?_⟩
    rw [hc.1] at hj
    obtain rfl : j = i := by simpa using hj
    have hops : opsAt ops (j :: r) = o :: opsAt ops r := by simp [opsAt, ho]
    rw [hops] at h
    refine wpOp_mono (fun a' w' h' => ⟨fun _ => h'.1, ih _ _ _ hc.2 hs.2 h'.2⟩) (wpList_one ho h (fun h => h) (fun _ _ _ h => h))
theorem wp_region_hoist {id : Nat} {a : Act} {w : World} (H E T : List Nat) (S : World → Prop) (hm : P.follows .mixedOrders = true)
    (hsel : Region.noSelect ops = true) (hall : (H ++ (E ++ T)).length = ops.size) (hok : hoistOk ops T H (Array.replicate ops.size false) = true)
    (hch : chainOk ops (E ++ T) (listedBy H (Array.replicate ops.size false)) = true) (hsome : (E ++ T).all (fun i => (ops[i]?).isSome) = true)
    (hS : S w.drew) (hH : HoistK P ops S H a fun a' => Effects P ops (NoPanic Q) S (opsAt ops E) (opsAt ops T) a' w.drew) : (Code.region id ops true).wp P Q a w := by
  obtain ⟨a', hH, h⟩ := HoistK.out _ _ _ hH
  have hfin := AnyS.hoist (Q := Q) (late := T) hsel hS H _ _ a (Closed.start _) hok hH (AnyS.chain T (List.all_eq_true.2 fun i hi => by simpa using hi) E _ _ _ hch hsome h)
  rw [← List.length_append, hall] at hfin
  exact wp_region_noPanic (wp_region_any hm (AnyS.any (S := S) (late := T) _ _ _ _ hfin))
end
end
section
open Go.RowKit
theorem HoistK.load {P : Program} {ops : Array Oper} {S : World → Prop} {i : Nat} {r : List Nat} {a : Act} {K : Act → Prop} {o : Oper} (hi : ops[i]? = some o) (hw : Region.wanted o (yielded ops a.tmps) = true)
    (ty : TypeId) (x : Operand) (ho : o.op = .load ty x) (b off : Nat) (hx : a.eval x = .pointer (some ⟨b, off, none⟩)) (cs : List Value) (d : TypeDesc) (hS : ∀ w, S w → w.rangeAt b off cs)
    (hu : P.underlying ty = some d) (hd : d.isRow = true) (hinfo : (P.info? ty).map (·.size) = some cs.length) (h : HoistK P ops S r (a.put o.dst (.agg cs.toArray)) K) : HoistK P ops S (i :: r) a K :=
  ⟨o, _, hi, yieldsIf_load_mid hw ty x ho b off hx cs d hS hu hd hinfo, h⟩
theorem HoistK.build {P : Program} {ops : Array Oper} {S : World → Prop} {i : Nat} {r : List Nat} {a : Act} {K : Act → Prop} {o : Oper} (hi : ops[i]? = some o) (hw : Region.wanted o (yielded ops a.tmps) = true)
    (ty : TypeId) (parts : Array (Nat × Operand)) (ho : o.op = .build ty parts) (ps : Array (Nat × Value)) (hp : (parts.map fun (i, x) => (i, a.eval x)) = ps) (v : Value) (hb : ∀ w, (Instr.build ty ps).run P w = .ok v w) (h : HoistK P ops S r (a.put o.dst v) K) : HoistK P ops S (i :: r) a K :=
  ⟨o, v, hi, .inl ⟨hw, fun w _ => by
    unfold execOp
    simp only [ho, hp, Sem.run_bind, hb, Sem.run_pure, Result.andThen_ok]⟩, h⟩
def Lies (w : World) (g : Nat) : Nat → List (List Value) → Prop
  | _, [] => True
  | o, c :: l => w.rangeAt g o c ∧ Lies w g (o + c.length) l
theorem Blk.lies {w : World} {g : Nat} {t : TypeId} {C : List Value} (h : Blk w g t C.toArray) : ∀ (l : List (List Value)) (pre : List Value), C = pre ++ l.flatten → Lies w g pre.length l
  | [], _, _ => trivial
  | c :: l, pre, hC => by
    refine ⟨fun j v hv => ?_, ?_⟩
    · rw [h.cell, hC]
      rw [getElem?_toArray, List.getElem?_append_right (by omega), Nat.add_sub_cancel_left, List.flatten_cons, List.getElem?_append_left (List.getElem?_eq_some_iff.1 hv).1]
      exact hv
    · have := Blk.lies h l (pre ++ c) (by rw [hC]; simp)
      rwa [List.length_append] at this
theorem Lies.one {w : World} {g o : Nat} {v : Value} (h : w.rangeAt g o [v]) : w.cell? ⟨g, o, none⟩ = some v := h 0 v rfl
end
section
open Go.RowKit Go.Maps
theorem fill_one1 {place : Nat → Option (Nat × Nat)} {cells : Array Value} {i : Nat} {v : Value} {rest : List (Nat × Value)} (hp : place i = some (i, 1)) (hs : v.cells = #[v]) (hb : i < cells.size) :
    Instr.fill place cells ((i, v) :: rest) = Instr.fill place (cells.setIfInBounds i v) rest := by
  have hb' : ¬ cells.size < i + 1 := by omega
  rw [Instr.fill, hp]
  simp [hs, hb']
theorem fill_row {place : Nat → Option (Nat × Nat)} (hpl : ∀ i, place i = some (i, 1)) : ∀ (vs old pre : List Value), old.length = vs.length → (∀ v ∈ vs, v.cells = #[v]) → Instr.fill place (pre ++ old).toArray ((vs.zipIdx pre.length).map fun x => (x.2, x.1)) = some (pre ++ vs).toArray
  | [], [], pre, _, _ => rfl
  | [], _ :: _, _, h, _ => by cases h
  | _ :: _, [], _, h, _ => by cases h
  | v :: vs, o :: old, pre, h, hc => by
    rw [List.zipIdx_cons, List.map_cons, fill_one1 (hpl _) (hc v (by simp)) (by simp)]
    have := fill_row hpl vs old (pre ++ [v]) (by simpa using h) fun u hu => hc u (by simp [hu])
    rw [List.length_append, List.length_singleton] at this
    rw [show ((pre ++ o :: old).toArray.setIfInBounds pre.length v) = ((pre ++ [v]) ++ old).toArray by simp, this]
    simp
theorem info_row : (Tryz.prog.info? 22).map (fun i => (i.zero, i.size, i.bytes)) = some (some (.slice none 0 0), 1, 24) := by kernel_rfl
theorem wpList_rows {ops : Array Oper} {rest : List Oper} {o : Oper} {a : Act} {w : World} {Q : Exit → Act → World → Prop} (hg : o.guard = none) (n : Nat) (parts : Array (Nat × Operand)) (ho : o.op = .buildSlice 121 n parts)
    (vs : List Value) (hvs : vs.length = n) (h0 : 0 < n) (hn : n ≤ 1000) (hc : ∀ v ∈ vs, v.cells = #[v]) (hp : (parts.map fun (i, x) => (i, a.eval x)).toList = (vs.zipIdx 0).map fun x => (x.2, x.1))
    (h : wpList Tryz.prog ops Q rest (a.put o.dst (.slice (some ⟨w.heap.size, 0, none⟩) n n)) (w.alloc (.cells vs.toArray 22))) : wpList Tryz.prog ops Q (o :: rest) a w := by
  obtain ⟨i0, hi, hz0, hz1, hz2⟩ := info_parts info_row
  refine wpList_buildSlice hg 121 22 n parts ho vs.toArray i0 _ Tryz.underlying121 hi hz0 (by rw [hz1]; omega) (by rw [hz1]; omega) ?_ h
  rw [hp]
  have := fill_row (place := fun i => some (i * i0.size, i0.size)) (fun i => by rw [hz1, Nat.mul_one]) vs ((Array.range (n * i0.size)).map ((Value.slice none 0 0).cells[· % (Value.slice none 0 0).cells.size]!)).toList [] (by rw [hz1]; simp [hvs]) hc
  rw [List.nil_append, Array.toArray_toList] at this
  exact this
def Got (w0 w : World) (vs : List Value) (rows : List (List UInt8)) : Prop := Below w0.heap.size w0 w ∧ Two (fun v x => Bs w (fun _ => True) v x) vs rows
theorem Got.start {w0 w : World} (h : Below w0.heap.size w0 w) : Got w0 w [] [] := ⟨h, .nil⟩
theorem Got.step {w0 w w' : World} {vs : List Value} {rows : List (List UInt8)} {v : Value} {x : List UInt8} (h : Got w0 w vs rows) (f : Fresh w w' v x) : Got w0 w' (vs ++ [v]) (rows ++ [x]) :=
  ⟨h.1.trans (f.2.mono h.1.size), (h.2.map fun _ _ k => k.below f.2).append (.cons (f.1.sub fun _ _ _ => trivial) .nil)⟩
theorem Got.old {w0 w : World} {S : Nat → Prop} {vs : List Value} {rows : List (List UInt8)} {v : Value} {x : List UInt8} (h : Got w0 w vs rows) (f : Bs w0 S v x) : Got w0 w (vs ++ [v]) (rows ++ [x]) :=
  ⟨h.1, h.2.append (.cons ((f.below h.1).sub fun _ _ _ => trivial) .nil)⟩
theorem Got.row {w0 w : World} {vs : List Value} {rows : List (List UInt8)} (h : Got w0 w vs rows) (hn : rows.length ≤ maxLen) (t : TypeId) :
    Bsr (w.alloc (.cells vs.toArray t)) (fun b => b < w.heap.size + 1) (.slice (some ⟨w.heap.size, 0, none⟩) rows.length rows.length) rows := by
  have hl : vs.length = rows.length := h.2.length
  have hb := (Below.refl w.heap.size w).alloc (Nat.le_refl _) (.cells vs.toArray t)
  refine ⟨vs, (Cs.of_new w t (size := 1) rows.length (cs := vs) (by omega) hn).sub fun b hb _ => by omega, fun i x u h1 h2 => ?_⟩
  have hi := (List.getElem?_eq_some_iff.1 h2).1
  obtain ⟨y, hy, hr⟩ := h.2.get i hi
  rw [h1] at hy
  injection hy with hy
  rw [List.getElem?_eq_getElem hi] at h2
  injection h2 with h2
  subst hy
  subst h2
  exact (hr.below hb).sub fun b _ hlt => by simpa using hlt
theorem nk_t : nk true = .i64 := rfl
theorem nk_f : nk false = .u64 := rfl
end
section
open Go.RowKit Go.Maps
theorem flatten_get {m : Nat} : ∀ (css : List (List Value)) (k : Nat) (c : List Value), (∀ c ∈ css, c.length = m) → css[k]? = some c → ∀ j, j < m → css.flatten[k * m + j]? = c[j]?
  | [], k, c, _, h, j, _ => by simp at h
  | d :: css, 0, c, hm, h, j, hj => by
    have hd : d = c := by simpa using h
    subst hd
    rw [List.flatten_cons, Nat.zero_mul, Nat.zero_add, List.getElem?_append_left (by rw [hm d (by simp)]; exact hj)]
  | d :: css, k + 1, c, hm, h, j, hj => by
    have hd := hm d (by simp)
    have := flatten_get css k c (fun c hc => hm c (by simp [hc])) (by simpa using h) j hj
    rw [List.flatten_cons, List.getElem?_append_right (by rw [hd, Nat.succ_mul]; omega), hd, ← this]
    congr 1
    rw [Nat.succ_mul]; omega
theorem Two.right {α β : Type} {R : α → β → Prop} {l : List α} {m : List β} (h : Two R l m) : ∀ b ∈ m, ∃ a, R a b := by
  induction h with
  | nil => intro b hb; cases hb
  | cons h _ ih => intro b hb; rcases List.mem_cons.1 hb with rfl | hb; exact ⟨_, h⟩; exact ih b hb
theorem list_at {w : World} {S : Nat → Prop} {s : Sh} {l : List s.El} {v : Value} (h : (Sh.list s).rep w S l [v]) : ∃ A cap, v = .slice A l.length cap ∧ l.length ≤ 9223372036854775807 ∧
    ∀ (k : Nat) (hk : k < l.length), ∃ b off c, A = some ⟨b, off, none⟩ ∧ w.rangeAt b (off + k * s.cells) c ∧ s.rep w S l[k] c ∧ c.length = s.cells ∧ b < w.heap.size ∧ S b := by
  obtain ⟨v', css, e, h1, h2⟩ := h
  have e : v = v' := by simpa using e
  subst e
  obtain ⟨hl, A, cap, rfl, hn, hc, hp⟩ := h1
  refine ⟨A, cap, rfl, by simp only [maxLen] at hc; exact Nat.le_trans hn hc, fun k hk => ?_⟩
  obtain ⟨b, off, rfl, hS, hlt, hcell⟩ := hp (Nat.lt_of_le_of_lt (Nat.zero_le _) hk)
  obtain ⟨c, hc1, hr⟩ := h2.get k hk
  have hcl := Sh.rep_size s _ _ hr
  refine ⟨b, off, c, rfl, fun j u hj => ?_, hr, hcl, hlt, hS⟩
  have hjl := (List.getElem?_eq_some_iff.1 hj).1
  have hf := flatten_get css k c (fun c hc => by obtain ⟨a, ha⟩ := h2.right c hc; exact Sh.rep_size s _ _ ha) hc1 j (by omega)
  rw [Nat.add_assoc]
  exact hcell _ u (by rw [hf]; exact hj)
end
section
open Go.RowKit Go.Maps
theorem Cs.sub' {w w' : World} {S T : Nat → Prop} {size n : Nat} {v : Value} {xs : List Value} (h : Cs w' S size v n xs) (h0 : Cs w S size v n xs) (hs : ∀ b, S b → b < w.heap.size → T b) : Cs w' T size v n xs := by
  obtain ⟨h1, A, cap, rfl, hn, hc, hp⟩ := h
  obtain ⟨_, A0, cap0, e, _, _, hp0⟩ := h0
  injection e with e
  subst e
  refine ⟨h1, A, cap, rfl, hn, hc, fun hpos => ?_⟩
  obtain ⟨b, off, rfl, hS, hlt, hcell⟩ := hp hpos
  obtain ⟨b0, off0, e0, hS0, hlt0, _⟩ := hp0 hpos
  injection e0 with e0
  injection e0 with e1 e2
  subst e1
  exact ⟨b, off, rfl, hs b hS0 hlt0, hlt, hcell⟩
def Bss (w : World) (S T : Nat → Prop) (v : Value) (rows : List (List UInt8)) : Prop := ∃ vs : List Value, Own w 22 1 v rows.length vs ∧ (∀ k, v.ownBlock = some k → S k) ∧
  ∀ (i : Nat) (x : List UInt8) (u : Value), rows[i]? = some x → vs[i]? = some u → Cs w (fun b => T b ∧ v.ownBlock ≠ some b) 1 u x.length (u8s x)
theorem Bss.nil_ (w : World) (S T : Nat → Prop) : Bss w S T (.slice none 0 0) [] := ⟨[], Own.nil_ _ _ _, fun k h => by simp [Value.ownBlock] at h, fun i x u h => by simp at h⟩
theorem Bss.form {w : World} {S T : Nat → Prop} {v : Value} {rows : List (List UInt8)} (h : Bss w S T v rows) : ∃ A cap, v = .slice A rows.length cap := by
  obtain ⟨vs, ho, _⟩ := h
  exact ho.form
theorem Bss.below {w w' : World} {S T : Nat → Prop} {v : Value} {rows : List (List UInt8)} (h : Bss w S T v rows) (hb : Below w.heap.size w w') : Bss w' S T v rows := by
  obtain ⟨vs, ho, hS, hr⟩ := h
  exact ⟨vs, own_keep ho fun k hk => hb.block k (own_lt ho hk), hS, fun i x u h1 h2 => (hr i x u h1 h2).below hb⟩
theorem Bss.push {w w' : World} {S T : Nat → Prop} {v v' : Value} {rows : List (List UInt8)} {vs : List Value} (ho : Own w 22 1 v rows.length vs) (hS : ∀ k, v.ownBlock = some k → S k)
    (hr : ∀ (i : Nat) (x : List UInt8) (u : Value), rows[i]? = some x → vs[i]? = some u → Cs w (fun b => T b ∧ v.ownBlock ≠ some b) 1 u x.length (u8s x)) {x : List UInt8} {u : Value} (hu : Cs w (fun b => T b ∧ v.ownBlock ≠ some b) 1 u x.length (u8s x))
    (ho' : Own w' 22 1 v' (rows.length + 1) (vs ++ [u])) (hc : Chg (fun b => v.ownBlock = some b) w w') (hat : v'.ownBlock = v.ownBlock ∨ v'.ownBlock = some w.heap.size) (hnew : S w.heap.size) : Bss w' S T v' (rows ++ [x]) := by
  have hl : vs.length = rows.length := by have := ho.1; omega
  have key : ∀ {y : List UInt8} {z : Value}, Cs w (fun b => T b ∧ v.ownBlock ≠ some b) 1 z y.length (u8s y) → Cs w' (fun b => T b ∧ v'.ownBlock ≠ some b) 1 z y.length (u8s y) := fun {y z} h => by
    refine (h.chg hc fun b hb e => hb.2 e).sub' h fun b hb hlt => ⟨hb.1, fun e => ?_⟩
    rcases hat with h1 | h1
    · exact hb.2 (h1 ▸ e)
    · rw [h1] at e; injection e with e; omega
  refine ⟨vs ++ [u], by rw [List.length_append]; exact ho', fun k hk => ?_, fun i y z h1 h2 => ?_⟩
  · rcases hat with h1 | h1
    · exact hS k (h1 ▸ hk)
    · rw [h1] at hk; injection hk with hk; exact hk ▸ hnew
  · rcases Nat.lt_trichotomy i rows.length with h | h | h
    · rw [List.getElem?_append_left h] at h1
      rw [List.getElem?_append_left (by omega)] at h2
      exact key (hr i y z h1 h2)
    · subst h
      rw [List.getElem?_append_right (Nat.le_refl _), Nat.sub_self] at h1
      rw [List.getElem?_append_right (by omega), hl, Nat.sub_self] at h2
      injection h1 with h1
      injection h2 with h2
      subst h1 h2
      exact key hu
    · rw [List.getElem?_append_right (by omega)] at h1
      rw [List.getElem?_eq_none (by simp; omega)] at h1
      cases h1
theorem Bss.read {w : World} {S T : Nat → Prop} {v : Value} {rows : List (List UInt8)} (h : Bss w S T v rows) (hl : ∀ x ∈ rows, x.length ≤ 140737488355328) : Bsr w (fun b => S b ∨ T b) v rows := by
  obtain ⟨vs, ho, hS, hr⟩ := h
  exact ⟨vs, Cs.of_own ho fun k hk => .inl (hS k hk), fun i x u h1 h2 => ⟨(hr i x u h1 h2).sub fun b hb _ => .inr hb.1, hl x (List.mem_of_getElem? h1)⟩⟩
theorem Bsr.lt_ {w : World} {S T : Nat → Prop} {v : Value} {rows : List (List UInt8)} (h : Bsr w S v rows) (hs : ∀ b, S b → T b) : Bsr w (fun b => T b ∧ b < w.heap.size) v rows := by
  obtain ⟨vs, h1, h2⟩ := h
  exact ⟨vs, h1.sub fun b hb hlt => ⟨hs b hb, hlt⟩, fun i x u a b => (h2 i x u a b).sub fun b hb hlt => ⟨hs b hb, hlt⟩⟩
mutual
theorem Sh.rep_one {w : World} {S : Nat → Prop} : ∀ (s : Sh) (x : s.El) (cs : List Value), s.rep w S x cs → ∀ v ∈ cs, v.oneCell' = true
  | .num _, _, _, h => by obtain ⟨rfl, _⟩ := h; intro v hv; obtain rfl := List.mem_singleton.1 hv; rfl
  | .dig, l, _, h => by obtain ⟨rfl, _⟩ := h; exact u8s_one l
  | .byt, _, _, h => by obtain ⟨u, rfl, h⟩ := h; obtain ⟨A, c, rfl⟩ := h.form; intro v hv; obtain rfl := List.mem_singleton.1 hv; rfl
  | .bool, b, cs, h => by have h : cs = [.bool b] := h; subst h; intro v hv; obtain rfl := List.mem_singleton.1 hv; rfl
  | .list _, _, _, h => by obtain ⟨u, css, rfl, h, _⟩ := h; obtain ⟨A, c, rfl⟩ := h.form; intro v hv; obtain rfl := List.mem_singleton.1 hv; rfl
  | .tup fs, x, cs, h => Fs.rep_one fs x cs h
theorem Fs.rep_one {w : World} {S : Nat → Prop} : ∀ (fs : Fs) (x : fs.El) (cs : List Value), fs.rep w S x cs → ∀ v ∈ cs, v.oneCell' = true
  | .nil, _, cs, h => by have h : cs = [] := h; subst h; intro v hv; cases hv
  | .cons s fs, (a, b), cs, h => by
    obtain ⟨c1, c2, rfl, h1, h2⟩ := h
    intro v hv
    rcases List.mem_append.1 hv with hv | hv
    · exact Sh.rep_one s a c1 h1 v hv
    · exact Fs.rep_one fs b c2 h2 v hv
end
end
section
open Go.RowKit Go.Maps
inductive Chain (w : World) (S : Nat → Prop) (sent : Value) : Value → Prop
  | last {g : Nat} {what : Value} : S g → g < w.heap.size → Blk w g 158 #[what, sent] → Chain w S sent (.iface 154 (.pointer (some ⟨g, 0, none⟩)))
  | more {g : Nat} {what v : Value} : S g → g < w.heap.size → Blk w g 158 #[what, v] → Chain w S sent v → Chain w S sent (.iface 154 (.pointer (some ⟨g, 0, none⟩)))
theorem Chain.to {w w' : World} {S S' : Nat → Prop} {sent v : Value} (h : Chain w S sent v) (hk : ∀ b, S b → b < w.heap.size → b < w'.heap.size ∧ w'.heap[b]? = w.heap[b]?) (hs : ∀ b, S b → b < w.heap.size → S' b) : Chain w' S' sent v := by
  induction h with
  | last h1 h2 h3 => exact .last (hs _ h1 h2) (hk _ h1 h2).1 ((hk _ h1 h2).2.trans h3)
  | more h1 h2 h3 _ ih => exact .more (hs _ h1 h2) (hk _ h1 h2).1 ((hk _ h1 h2).2.trans h3) ih
theorem Chain.low {w w' : World} {S : Nat → Prop} {sent v : Value} (h : Chain w S sent v) (hb : Below w.heap.size w w') : Chain w' S sent v :=
  h.to (fun b _ hlt => ⟨ltle hlt hb.size, hb.block b hlt⟩) fun _ h _ => h
theorem Chain.chg {w w' : World} {S M : Nat → Prop} {sent v : Value} (h : Chain w S sent v) (hc : Chg M w w') (hd : ∀ b, S b → ¬ M b) : Chain w' S sent v :=
  h.to (fun b hS hlt => ⟨ltle hlt hc.size, hc.block b hlt (hd b hS)⟩) fun _ h _ => h
theorem Chain.sub {w : World} {S S' : Nat → Prop} {sent v : Value} (h : Chain w S sent v) (hs : ∀ b, S b → b < w.heap.size → S' b) : Chain w S' sent v :=
  h.to (fun _ _ hlt => ⟨hlt, rfl⟩) hs
theorem Chain.form {w : World} {S : Nat → Prop} {sent v : Value} (h : Chain w S sent v) : ∃ g, v = .iface 154 (.pointer (some ⟨g, 0, none⟩)) := by
  cases h <;> exact ⟨_, rfl⟩
def Err (w : World) (S : Nat → Prop) (sent : Value) (bad : Bool) (e : Value) : Prop := (bad = false ∧ e = .nilIface) ∨ (bad = true ∧ Chain w S sent e)
abbrev gF : Nat := 1
def Gl (w : World) (sent : Value) : Prop := (∃ a, sent = .iface 237 (.pointer (some a))) ∧ w.cell? ⟨gF, 0, none⟩ = some sent
theorem Gl.lt {w : World} {sent : Value} (h : Gl w sent) : gF < w.heap.size := by
  obtain ⟨_, h⟩ := h
  rcases Nat.lt_or_ge gF w.heap.size with hlt | hge
  · exact hlt
  · simp only [World.cell?] at h; rw [Array.getElem?_eq_none hge] at h; cases h
theorem Gl.chg {w w' : World} {M : Nat → Prop} {sent : Value} (h : Gl w sent) (hc : Chg M w w') (hd : ¬ M gF) : Gl w' sent := ⟨h.1, (World.cell?_of_block (a := ⟨gF, 0, none⟩) (hc.block gF h.lt hd)).trans h.2⟩
theorem Gl.below {w w' : World} {sent : Value} (h : Gl w sent) (hb : Below w.heap.size w w') : Gl w' sent := ⟨h.1, (World.cell?_of_block (a := ⟨gF, 0, none⟩) (hb.block gF h.lt)).trans h.2⟩
def Pt (w : World) (X : Nat → Prop) (E g : Nat) (sent : Value) (rows : List (List UInt8)) (bad : Bool) : Prop :=
  Gl w sent ∧ ¬ X gF ∧ X g ∧ (∀ b, X b → b < w.heap.size) ∧ E ≤ w.heap.size ∧ ∃ v e, Blk w g 168 #[v, e] ∧ Bsr w (fun b => ¬ X b) v rows ∧ Err w (fun b => ¬ X b ∧ E ≤ b) sent bad e
theorem Err.to {w w' : World} {S S' : Nat → Prop} {sent v : Value} {bad : Bool} (h : Err w S sent bad v) (hk : ∀ b, S b → b < w.heap.size → b < w'.heap.size ∧ w'.heap[b]? = w.heap[b]?) (hs : ∀ b, S b → b < w.heap.size → S' b) : Err w' S' sent bad v :=
  h.elim .inl fun h => .inr ⟨h.1, h.2.to hk hs⟩
theorem Err.below {w w' : World} {S : Nat → Prop} {sent v : Value} {bad : Bool} (h : Err w S sent bad v) (hb : Below w.heap.size w w') : Err w' S sent bad v :=
  h.to (fun b _ hlt => ⟨ltle hlt hb.size, hb.block b hlt⟩) fun _ h _ => h
theorem Pt.lt {w : World} {X : Nat → Prop} {E g : Nat} {sent : Value} {rows : List (List UInt8)} {bad : Bool} (h : Pt w X E g sent rows bad) : g < w.heap.size := by
  obtain ⟨_, _, hX, hl, _⟩ := h
  exact hl g hX
theorem Pt.below {w w' : World} {X : Nat → Prop} {E g : Nat} {sent : Value} {rows : List (List UInt8)} {bad : Bool} (h : Pt w X E g sent rows bad) (hb : Below w.heap.size w w') : Pt w' X E g sent rows bad := by
  obtain ⟨hg, hn, hx, hl, hE, v, e, h1, h2, h3⟩ := h
  exact ⟨hg.below hb, hn, hx, fun b h => ltle (hl b h) hb.size, Nat.le_trans hE hb.size, v, e, h1.below hb h1.lt, h2.below hb, h3.below hb⟩
theorem Pt.chg {w w' : World} {X M : Nat → Prop} {E g : Nat} {sent : Value} {rows : List (List UInt8)} {bad : Bool} (h : Pt w X E g sent rows bad) (hc : Chg M w w') (hM : ∀ b, M b → X b ∧ b ≠ g) : Pt w' X E g sent rows bad := by
  obtain ⟨hg, hn, hx, hl, hE, v, e, h1, h2, h3⟩ := h
  exact ⟨hg.chg hc fun h => hn (hM _ h).1, hn, hx, fun b h => ltle (hl b h) hc.size, Nat.le_trans hE hc.size, v, e, h1.chg hc fun h => (hM _ h).2 rfl, h2.chg hc fun b hb h => hb (hM _ h).1, h3.to (fun b hb hlt => ⟨ltle hlt hc.size, hc.block b hlt fun h => hb.1 (hM _ h).1⟩) fun _ h _ => h⟩
theorem Bsr.subs {w : World} {S T : Nat → Prop} {v : Value} {rows : List (List UInt8)} (h : Bsr w S v rows) (hs : ∀ b, S b → b < w.heap.size → T b) : Bsr w T v rows := by
  obtain ⟨vs, h1, h2⟩ := h
  exact ⟨vs, h1.sub hs, fun i x u a b => (h2 i x u a b).sub hs⟩
theorem Pt.more {w w' : World} {X : Nat → Prop} {E g : Nat} {sent : Value} {rows : List (List UInt8)} {bad : Bool} (h : Pt w X E g sent rows bad) (hb : Below w.heap.size w w') (Y : Nat → Prop) (hY : ∀ b, Y b → w.heap.size ≤ b ∧ b < w'.heap.size) : Pt w' (fun b => X b ∨ Y b) E g sent rows bad := by
  obtain ⟨hg, hn, hx, hl, hE, v, e, h1, h2, h3⟩ := h
  have hs : ∀ b, ¬ X b → b < w.heap.size → ¬ (X b ∨ Y b) := fun b h hlt hh => hh.elim h fun hy => by have := (hY b hy).1; omega
  exact ⟨hg.below hb, hs _ hn hg.lt, .inl hx, fun b h => h.elim (fun h => ltle (hl b h) hb.size) fun h => (hY b h).2, Nat.le_trans hE hb.size, v, e, h1.below hb h1.lt, (h2.subs hs).below hb, h3.to (fun b _ hlt => ⟨ltle hlt hb.size, hb.block b hlt⟩) fun b hb hlt => ⟨hs b hb.1 hlt, hb.2⟩⟩
theorem Pt.less {w : World} {X Y : Nat → Prop} {E g : Nat} {sent : Value} {rows : List (List UInt8)} {bad : Bool} (h : Pt w X E g sent rows bad) (hY : ∀ b, Y b → X b) (hg : Y g) : Pt w Y E g sent rows bad := by
  obtain ⟨hg', hn, hx, hl, hE, v, e, h1, h2, h3⟩ := h
  exact ⟨hg', fun h => hn (hY _ h), hg, fun b h => hl b (hY b h), hE, v, e, h1, h2.subs fun b hb _ h => hb (hY b h), h3.to (fun b _ hlt => ⟨hlt, rfl⟩) fun b hb _ => ⟨fun h => hb.1 (hY b h), hb.2⟩⟩
def Sh.val : Sh → List Value → Value
  | .dig, cs => .agg cs.toArray
  | .tup _, cs => .agg cs.toArray
  | _, cs => cs.headD undef
def Fs.len : Fs → Nat
  | .nil => 0
  | .cons _ fs => fs.len + 1
theorem Fs.decs_len : ∀ (fs : Fs) (l : List (List UInt8)) (x : fs.El), fs.decs l = some x → l.length = fs.len
  | .nil, [], _, _ => rfl
  | .nil, _ :: _, _, h => by cases h
  | .cons _ _, [], _, h => by cases h
  | .cons s fs, b :: l, x, h => by
    have h : (match s.dec b, fs.decs l with | some a, some r => some (a, r) | _, _ => none) = some x := h
    split at h
    · rename_i a r h1 h2
      rw [List.length_cons, Fs.decs_len fs l r h2]
      rfl
    · cases h
def SOut (s : Sh) (w : World) (S : Nat → Prop) (b : List UInt8) (cs : List Value) (bad bad' : Bool) : Prop :=
  cs.length = s.cells ∧ (∀ v ∈ cs, v.oneCell' = true) ∧ ((∃ x, s.dec b = some x ∧ bad' = bad ∧ s.rep w S x cs) ∨ (s.dec b = none ∧ bad' = true))
def Fs.Out (fs : Fs) (w : World) (S : Nat → Prop) (l : List (List UInt8)) (cs : List Value) (bad bad' : Bool) : Prop :=
  cs.length = fs.cells ∧ (∀ v ∈ cs, v.oneCell' = true) ∧ ((∃ x, fs.decs l = some x ∧ bad' = bad ∧ fs.rep w S x cs) ∨ (fs.decs l = none ∧ bad' = true))
theorem SOut.to {s : Sh} {w w' : World} {S S' : Nat → Prop} {b : List UInt8} {cs : List Value} {bad bad' : Bool} (h : SOut s w S b cs bad bad') (hk : ∀ b, S b → b < w.heap.size → b < w'.heap.size ∧ w'.heap[b]? = w.heap[b]?) (hs : ∀ b, S b → b < w.heap.size → S' b) : SOut s w' S' b cs bad bad' :=
  ⟨h.1, h.2.1, h.2.2.elim (fun ⟨x, h1, h2, h3⟩ => .inl ⟨x, h1, h2, Sh.rep_to hk hs s x cs h3⟩) .inr⟩
theorem Fs.Out.to {fs : Fs} {w w' : World} {S S' : Nat → Prop} {l : List (List UInt8)} {cs : List Value} {bad bad' : Bool} (h : fs.Out w S l cs bad bad') (hk : ∀ b, S b → b < w.heap.size → b < w'.heap.size ∧ w'.heap[b]? = w.heap[b]?) (hs : ∀ b, S b → b < w.heap.size → S' b) : fs.Out w' S' l cs bad bad' :=
  ⟨h.1, h.2.1, h.2.2.elim (fun ⟨x, h1, h2, h3⟩ => .inl ⟨x, h1, h2, Fs.rep_to hk hs fs x cs h3⟩) .inr⟩
theorem Fs.Out.nil_ (w : World) (S : Nat → Prop) (bad : Bool) : Fs.Out .nil w S [] [] bad bad := ⟨rfl, by simp, .inl ⟨(), rfl, rfl, rfl⟩⟩
theorem Fs.Out.cons_ {s : Sh} {fs : Fs} {w w' : World} {S S' : Nat → Prop} {b : List UInt8} {l : List (List UInt8)} {c1 c2 : List Value} {bad b1 b2 : Bool} (h : SOut s w S b c1 bad b1) (k : fs.Out w' S' l c2 b1 b2)
    (hk : ∀ b, S b → b < w.heap.size → b < w'.heap.size ∧ w'.heap[b]? = w.heap[b]?) (hs : ∀ b, S b → b < w.heap.size → S' b) : Fs.Out (.cons s fs) w' S' (b :: l) (c1 ++ c2) bad b2 := by
  obtain ⟨h1, h2, h3⟩ := h
  obtain ⟨k1, k2, k3⟩ := k
  refine ⟨by rw [List.length_append, h1, k1]; rfl, fun v hv => (List.mem_append.1 hv).elim (h2 v) (k2 v), ?_⟩
  have hd : Fs.decs (.cons s fs) (b :: l) = (match s.dec b, fs.decs l with | some a, some r => some (a, r) | _, _ => none) := rfl
  rw [hd]
  rcases h3 with ⟨x, e1, e2, e3⟩ | ⟨e1, e2⟩ <;> rcases k3 with ⟨y, f1, f2, f3⟩ | ⟨f1, f2⟩ <;> rw [e1, f1]
  · exact .inl ⟨(x, y), rfl, by rw [f2, e2], c1, c2, rfl, Sh.rep_to hk hs s x c1 e3, f3⟩
  · exact .inr ⟨rfl, f2⟩
  · exact .inr ⟨rfl, by rw [f2, e2]⟩
  · exact .inr ⟨rfl, f2⟩
def Nw (k : Nat) (w : World) (b : Nat) : Prop := k ≤ b ∧ Th w b
theorem Nw.to {k k' b : Nat} {w w' : World} (h : Nw k w b) (hk : k' ≤ k) (hb : w'.heap[b]? = w.heap[b]?) : Nw k' w' b := by
  obtain ⟨h1, cs, t, h2⟩ := h
  exact ⟨Nat.le_trans hk h1, cs, t, hb.trans h2⟩
theorem own_th {w : World} {e : TypeId} {size n k : Nat} {v : Value} {xs : List Value} (h : Own w e size v n xs) (hk : v.ownBlock = some k) : Th w k := by
  rcases h.2 with ⟨rfl, _⟩ | ⟨g, cap, cur, rfl, _, hh, _⟩
  · simp [Value.ownBlock] at hk
  · simp only [Value.ownBlock, Option.some.injEq] at hk
    subst hk
    exact ⟨_, _, hh⟩
theorem SOut.nw {s : Sh} {w w' : World} {k k' : Nat} {b : List UInt8} {cs : List Value} {bad bad' : Bool} (h : SOut s w (Nw k w) b cs bad bad') (hk : ∀ b, k ≤ b → b < w.heap.size → b < w'.heap.size ∧ w'.heap[b]? = w.heap[b]?) (hs : k' ≤ k) : SOut s w' (Nw k' w') b cs bad bad' :=
  h.to (fun b hb hlt => hk b hb.1 hlt) fun b hb hlt => hb.to hs (hk b hb.1 hlt).2
theorem Fs.Out.step {s : Sh} {fs : Fs} {w0 w1 w2 : World} {W g : Nat} {b : List UInt8} {l : List (List UInt8)} {c1 c2 : List Value} {bad b1 b2 : Bool} (h : SOut s w1 (Nw w0.heap.size w1) b c1 bad b1) (k : fs.Out w2 (Nw W w2) l c2 b1 b2)
    (hc : Chg (fun k => k = g) w1 w2) (hg : g < w0.heap.size) (hW : W ≤ w0.heap.size) : Fs.Out (.cons s fs) w2 (Nw W w2) (b :: l) (c1 ++ c2) bad b2 :=
  Fs.Out.cons_ h k (fun b hb hlt => ⟨ltle hlt hc.size, hc.block b hlt fun e => by have := hb.1; omega⟩) fun b hb hlt => hb.to hW (hc.block b hlt fun e => by have := hb.1; omega)
theorem Fs.Out.tup {fs : Fs} {w : World} {S : Nat → Prop} {b : List UInt8} {rows : List (List UInt8)} {cs : List Value} {bad bad' : Bool} {n : Nat} (h : fs.Out w S rows cs bad bad') (hs : (bad = false ∧ splitB b = some rows) ∨ (bad = true ∧ ∀ l, splitB b = some l → l.length ≠ n))
    (hn : ∀ l x, fs.decs l = some x → l.length = n) : SOut (.tup fs) w S b cs false bad' := by
  obtain ⟨h1, h2, h3⟩ := h
  have hd : (Sh.tup fs).dec b = (match splitB b with | none => none | some l => fs.decs l) := rfl
  refine ⟨h1, h2, ?_⟩
  rw [hd]
  rcases hs with ⟨e1, e2⟩ | ⟨e1, e2⟩
  · rw [e2]
    exact h3.elim (fun ⟨x, f1, f2, f3⟩ => .inl ⟨x, f1, by rw [f2, e1], f3⟩) .inr
  · refine .inr ⟨?_, h3.elim (fun ⟨_, _, f2, _⟩ => by rw [f2, e1]) fun h => h.2⟩
    cases hsp : splitB b with
    | none => rfl
    | some l =>
      cases hx : fs.decs l with
      | none => exact hx
      | some x => exact absurd (hn l x hx) (e2 l hsp)
def Took (s : Sh) (w : World) (X : Nat → Prop) (E g : Nat) (sent : Value) (b : List UInt8) (rest : List (List UInt8)) (bad : Bool) (e : Ending) (w' : World) : Prop :=
  ∃ cs bad', e = .returned (s.val cs) ∧ Chg (fun k => k = g) w w' ∧ Pt w' X E g sent rest bad' ∧ SOut s w' (Nw w.heap.size w') b cs bad bad'
def ReadOut (s : Sh) (w : World) (sent : Value) (b : List UInt8) (e : Ending) (w' : World) : Prop :=
  ∃ cs err bad, e = .returned (.tuple #[s.val cs, err]) ∧ Below w.heap.size w w' ∧ Err w' (fun b => w.heap.size ≤ b) sent bad err ∧ SOut s w' (Nw w.heap.size w') b cs false bad
end
section
open Go.RowKit Go.Extern.Stop Go.Stop Go.Extern
abbrev tW : TypeId := 154
abbrev tE : TypeId := 237
noncomputable def nG : Nat := Tryz.prog.globals.size
theorem isTypeOfE (v : Value) (w : World) : (Extern.ReflectliteType.typeOf #[.iface 237 v]).run Tryz.prog w = .ok (.iface 222 (.agg #[.pointer (some ⟨nG, 237, none⟩)])) w := by kernel_rfl
theorem isComparableE (w : World) : ((Extern.ReflectliteType.method fun t => do Extern.Rtype.noPackHeld "Comparable" t; (fun a => Value.bool a.comparable) <$> typeInfo t) #[.agg #[.pointer (some ⟨nG, 237, none⟩)]]).run Tryz.prog w = .ok (.bool true) w := by kernel_rfl
theorem methodComparable (n : Nat) (v : Value) (w : World) : (Go.method (n + 1) 222 v "Comparable").run Tryz.prog w = .ok (138, v) w := by kernel_rfl
theorem isCompE : (Tryz.prog.info? 237).map (·.comparable) = some true := by kernel_rfl
theorem isSizeE : (Tryz.prog.info? 258).map (·.size) = some 1 := by kernel_rfl
theorem noIsE (v : Value) (xT : TypeId) (w : World) : (Instr.typeAssert (.iface 237 v) xT 224 true).run Tryz.prog w = .ok (.tuple #[.nilIface, .bool false]) w := run_typeAssert_lacksB Tryz.underlying224 (by kernel_rfl) (by kernel_rfl) v xT w
theorem noUnwrapE (v : Value) (xT : TypeId) (w : World) : (Instr.typeAssert (.iface 237 v) xT 227 true).run Tryz.prog w = .ok (.tuple #[.nilIface, .bool false]) w := run_typeAssert_lacksB Tryz.underlying227 (by kernel_rfl) (by kernel_rfl) v xT w
theorem noUnwrapsE (v : Value) (xT : TypeId) (w : World) : (Instr.typeAssert (.iface 237 v) xT 229 true).run Tryz.prog w = .ok (.tuple #[.nilIface, .bool false]) w := run_typeAssert_lacksB Tryz.underlying229 (by kernel_rfl) (by kernel_rfl) v xT w
theorem noIsW (v : Value) (xT : TypeId) (w : World) : (Instr.typeAssert (.iface 154 v) xT 224 true).run Tryz.prog w = .ok (.tuple #[.nilIface, .bool false]) w := run_typeAssert_lacksB Tryz.underlying224 (by kernel_rfl) (by kernel_rfl) v xT w
theorem hasUnwrapW (v : Value) (xT : TypeId) (w : World) : (Instr.typeAssert (.iface 154 v) xT 227 true).run Tryz.prog w = .ok (.tuple #[.iface 154 v, .bool true]) w := run_typeAssert_hasB Tryz.underlying227 (by kernel_rfl) v xT w
theorem methodUnwrap (n : Nat) (v : Value) (w : World) : (Go.method (n + 1) 154 v "Unwrap").run Tryz.prog w = .ok (132, v) w := by kernel_rfl
inductive Links (w : World) (sent : Value) : Value → Nat → Prop
  | last : Links w sent sent 0
  | more {g : Nat} {what v : Value} {n : Nat} : Blk w g 158 #[what, v] → Links w sent v n → Links w sent (.iface 154 (.pointer (some ⟨g, 0, none⟩))) (n + 1)
theorem Links.of_chain {w : World} {S : Nat → Prop} {sent e : Value} (h : Chain w S sent e) : ∃ n, Links w sent e (n + 1) := by
  induction h with
  | last h1 h2 h3 => exact ⟨0, .more h3 .last⟩
  | more h1 h2 h3 _ ih => obtain ⟨n, h⟩ := ih; exact ⟨n + 1, .more h3 h⟩
open Classical in
noncomputable def linksLeft (w : World) (sent : Value) (e : Value) : Nat := if h : ∃ n, Links w sent e n then h.choose else 0
theorem Links.same {w : World} {a : Addr} {e : Value} {n m : Nat} (h : Links w (.iface 237 (.pointer (some a))) e n) (k : Links w (.iface 237 (.pointer (some a))) e m) : n = m := by
  generalize hs : (Value.iface 237 (.pointer (some a))) = sent at h k
  induction h generalizing m with
  | last =>
    cases k with
    | last => rfl
    | more _ _ => injection hs with h1; exact absurd h1 (by decide)
  | @more g what v n hb h ih =>
    cases k with
    | last => injection hs with h1; exact absurd h1 (by decide)
    | @more _ what' v' n' hb' h' =>
      unfold Blk at hb hb'
      rw [hb] at hb'
      injection hb' with hb'
      injection hb' with hb'
      injection hb' with hb'
      injection hb' with h1 h2
      injection h2 with h2
      subst h2
      rw [ih h']
theorem linksLeft_eq {w : World} {a : Addr} {e : Value} {n : Nat} (h : Links w (.iface 237 (.pointer (some a))) e n) : linksLeft w (.iface 237 (.pointer (some a))) e = n := by
  unfold linksLeft
  rw [dif_pos ⟨n, h⟩]
  exact (Exists.choose_spec (⟨n, h⟩ : ∃ n, Links w _ e n)).same h
set_option maxRecDepth 1000000 in
theorem is_chain {w : World} (a b : Addr) (ca cb : Array Value) (ta tb : TypeId) (ha : w.heap[a.block]? = some (.cells ca ta (0, 0))) (hb : w.heap[b.block]? = some (.cells cb tb (0, 0))) {e : Value} {n : Nat} (h : Links w (.iface 237 (.pointer (some a))) e n) (r : Bool) (hr : r = decide (a = b)) :
    Calls Tryz.prog 107 #[e, .iface 237 (.pointer (some b)), .bool true] w fun en w' => en = .returned (.bool r) ∧ w' = w := by
  obtain ⟨i, hi, hcmp⟩ := Option.map_eq_some_iff.1 isCompE
  obtain ⟨j, hj, hjs⟩ := Option.map_eq_some_iff.1 isSizeE
  have nE := noIsE
  have uE := noUnwrapE
  have vE := noUnwrapsE
  have nW := noIsW
  have uW := hasUnwrapW
  have mU := methodUnwrap
  have HR := Lib.hid hr; clear hr
  have HA := Lib.hid ha; clear ha
  have HB := Lib.hid hb; clear hb
  go_enter Tryz.func107, Tryz.ntmps107
  go_wp2
  go_loopw [0] (fun e wl => wl = w ∧ ∃ n, Links w (.iface 237 (.pointer (some a))) e n) (fun e _ => linksLeft w (.iface 237 (.pointer (some a))) e)
  case atStart => exact ⟨rfl, n, h⟩
  case round =>
    obtain ⟨hw, n', hn⟩ := hrel
    subst hw
    cases hn with
    | last =>
      by_cases hab : a = b
      · subst hab
        have heq := run_eql_iface_ptr_same (P := Tryz.prog) wr a Tryz.underlying156 Tryz.underlying237 hi hcmp hj
        have HR2 := Lib.hid (HR.out.trans (decide_eq_true rfl))
        go_wp2
        go_ret
        exact ⟨by rw [HR2.out]; rfl, rfl⟩
      · have heq := run_eql_iface_ptr_other (P := Tryz.prog) wr Tryz.underlying156 Tryz.underlying237 hi hcmp hj (by rw [hjs]; decide) hab HA.out HB.out
        have HR2 := Lib.hid (HR.out.trans (decide_eq_false hab))
        go_wp2
        go_ret
        exact ⟨by rw [HR2.out]; rfl, rfl⟩
    | @more g what v m hblk hl =>
      have hty := run_eql_iface_types (P := Tryz.prog) 154 237 (.pointer (some ⟨g, 0, none⟩)) (.pointer (some b)) Tryz.underlying156 (by decide) wr
      have HL1 := Lib.hid (linksLeft_eq hl)
      have HL0 := Lib.hid (linksLeft_eq (Links.more hblk hl))
      have hne : ∃ u z, v = .iface u z := by cases hl <;> exact ⟨_, _, rfl⟩
      obtain ⟨u1, z1, rfl⟩ := hne
      have HL := Lib.hid hl
      have hcell := hblk.cell
      clear hl hblk
      go_wp2
      go_roundw
      case rel => exact ⟨trivial, m, HL.out⟩
      case measure =>
        rw [HL0.out]
        show linksLeft wr _ (Value.iface u1 z1) < m + 1
        rw [HL1.out]; omega
set_option maxRecDepth 1000000 in
theorem is_any {w : World} (a b : Addr) (ca cb : Array Value) (ta tb : TypeId) (ha : w.heap[a.block]? = some (.cells ca ta (0, 0))) (hb : w.heap[b.block]? = some (.cells cb tb (0, 0))) {g n : Nat} (h : Links w (.iface 237 (.pointer (some a))) (.iface 154 (.pointer (some ⟨g, 0, none⟩))) n) (r : Bool) (hr : r = decide (a = b)) :
    Calls Tryz.prog 99 #[.iface 154 (.pointer (some ⟨g, 0, none⟩)), .iface 237 (.pointer (some b))] w fun en w' => en = .returned (.bool r) ∧ w' = w := by
  have HI := Lib.hid (is_chain a b ca cb ta tb ha hb h r hr); clear ha hb h hr
  have h8 := @run_callFunc_extern Tryz.prog 106 _ Extern.ReflectliteType.typeOf Tryz.func106 (by kernel_rfl) (by kernel_rfl) (by kernel_rfl) (by kernel_rfl)
  have h32 := @run_callFunc_extern Tryz.prog 138 _ (Extern.ReflectliteType.method fun t => do Extern.Rtype.noPackHeld "Comparable" t; pure (.bool (← typeInfo t).comparable)) Tryz.func138 (by kernel_rfl) (by kernel_rfl) (by kernel_rfl) (by kernel_rfl)
  have tT := isTypeOfE
  have cT := isComparableE
  have mR := methodComparable
  go_enter Tryz.func99, Tryz.ntmps99
  go_wp2_with (go_at_call 107; refine HI.out.mono ?_; rintro e w' ⟨rfl, rfl⟩)
  go_ret
  exact ⟨rfl, rfl⟩
end
section
open Go.RowKit Go.Extern.Stop Go.Stop Go.Extern
theorem as_valueOf27 (t : Addr) (w : World) : (ReflectliteValue.unpack (.iface 201 (.pointer (some t)))).run Tryz.prog w
    = .ok (.agg #[.pointer (some ⟨nG, 201, none⟩), .pointer (some ⟨w.heap.size, 0, none⟩), .int .u64 150]) (w.alloc (.cells #[.pointer (some t)] 201)) := by kernel_rfl
theorem as_type27 (a : Addr) (w : World) : (ReflectliteValue.methodAny (ReflectliteValue.valueError "reflectlite.Value.Type" 0) (fun t _ _ _ => ReflectliteType.toType t) #[.agg #[.pointer (some ⟨nG, 201, none⟩), .pointer (some a), .int .u64 150]]).run Tryz.prog w
    = .ok (.iface 222 (.agg #[.pointer (some ⟨nG, 201, none⟩)])) w := by kernel_rfl
theorem as_methodKind (n : Nat) (h : Value) (w : World) : (Go.method (n + 1) 222 (.agg #[h]) "Kind").run Tryz.prog w = .ok (128, h) w := by kernel_rfl
theorem as_kind27 (w : World) : ((ReflectliteType.abiMethod fun t => (fun a : Nat => Value.int IntKind.u8 (a : Int)) <$> Rtype.kind t) #[.pointer (some ⟨nG, 201, none⟩)]).run Tryz.prog w = .ok (.int .u8 22) w := by kernel_rfl
theorem as_kind25 (w : World) : ((ReflectliteType.abiMethod fun t => (fun a : Nat => Value.int IntKind.u8 (a : Int)) <$> Rtype.kind t) #[.pointer (some ⟨nG, 154, none⟩)]).run Tryz.prog w = .ok (.int .u8 22) w := by kernel_rfl
theorem rlm (z : Sem Value) (f : TypeId → Addr → Nat → Nat → Sem Value) (v : Value) :
    ReflectliteValue.method z f #[v] = (do match ← ReflectliteValue.parts v with | none => z | some (t, a, fl) => f t a fl (fl % 32)) := rfl
theorem as_parts27 (a : Addr) (w : World) : (ReflectliteValue.parts (.agg #[.pointer (some ⟨nG, 201, none⟩), .pointer (some a), .int .u64 150])).run Tryz.prog w = .ok (some (201, a, 150)) w := by kernel_rfl
theorem as_isNil27 (a p : Addr) (W : World) (ha : W.cell? a = some (.pointer (some p))) :
    (ReflectliteValue.method (ReflectliteValue.valueError "reflectlite.Value.IsNil" 0) ReflectliteValue.isNil #[.agg #[.pointer (some ⟨nG, 201, none⟩), .pointer (some a), .int .u64 150]]).run Tryz.prog W = .ok (.bool false) W := by
  rw [rlm]
  simp only [Sem.run_bind, as_parts27, Result.andThen]
  simp [ReflectliteValue.isNil, loadVar, isAgg, underlying, Tryz.underlying201, ha, Result.andThen]
theorem as_methodElem (n : Nat) (h : Value) (w : World) : (Go.method (n + 1) 222 (.agg #[h]) "Elem").run Tryz.prog w = .ok (139, .agg #[h]) w := by kernel_rfl
theorem as_methodImplements (n : Nat) (h : Value) (w : World) : (Go.method (n + 1) 222 (.agg #[h]) "Implements").run Tryz.prog w = .ok (140, .agg #[h]) w := by kernel_rfl
theorem as_methodAssignableTo (n : Nat) (h : Value) (w : World) : (Go.method (n + 1) 222 (.agg #[h]) "AssignableTo").run Tryz.prog w = .ok (137, .agg #[h]) w := by kernel_rfl
theorem as_elem27 (w : World) : (ReflectliteType.method ReflectliteType.elem #[.agg #[.pointer (some ⟨nG, 201, none⟩)]]).run Tryz.prog w = .ok (.iface 222 (.agg #[.pointer (some ⟨nG, 154, none⟩)])) w := by kernel_rfl
theorem as_implements25 (w : World) : (ReflectliteType.relation "Implements" ReflectliteType.implements_ #[.agg #[.pointer (some ⟨nG, 154, none⟩)], .iface 222 (.agg #[.pointer (some ⟨nG, 156, none⟩)])]).run Tryz.prog w = .ok (.bool true) w := by kernel_rfl
theorem as_typeOf25 (v : Value) (w : World) : (ReflectliteType.typeOf #[.iface 154 v]).run Tryz.prog w = .ok (.iface 222 (.agg #[.pointer (some ⟨nG, 154, none⟩)])) w := by kernel_rfl
theorem as_assignable25 (w : World) : (ReflectliteType.relation "AssignableTo" ReflectliteType.assignableTo #[.agg #[.pointer (some ⟨nG, 154, none⟩)], .iface 222 (.agg #[.pointer (some ⟨nG, 154, none⟩)])]).run Tryz.prog w = .ok (.bool true) w := by kernel_rfl
theorem as_valueOf25 (e : Addr) (w : World) : (ReflectliteValue.unpack (.iface 154 (.pointer (some e)))).run Tryz.prog w
    = .ok (.agg #[.pointer (some ⟨nG, 154, none⟩), .pointer (some ⟨w.heap.size, 0, none⟩), .int .u64 150]) (w.alloc (.cells #[.pointer (some e)] 154)) := by kernel_rfl
theorem as_elemOf27 (w : World) : (Rtype.elem? 201).run Tryz.prog w = .ok (some 154) w := by kernel_rfl
theorem as_mk25 (p : Addr) (w : World) : (ReflectliteValue.mk 154 p ReflectliteValue.flagAddr).run Tryz.prog w = .ok (.agg #[.pointer (some ⟨nG, 154, none⟩), .pointer (some p), .int .u64 406]) w := by kernel_rfl
theorem as_elemV27 (a p : Addr) (W : World) (ha : W.cell? a = some (.pointer (some p))) :
    (ReflectliteValue.method (ReflectliteValue.valueError "reflectlite.Value.Elem" 0) ReflectliteValue.elem #[.agg #[.pointer (some ⟨nG, 201, none⟩), .pointer (some a), .int .u64 150]]).run Tryz.prog W
      = .ok (.agg #[.pointer (some ⟨nG, 154, none⟩), .pointer (some p), .int .u64 406]) W := by
  rw [rlm]
  simp only [Sem.run_bind, as_parts27, Result.andThen]
  simp [ReflectliteValue.elem, loadVar, isAgg, underlying, Tryz.underlying201, ha, Result.andThen, as_elemOf27, as_mk25]
theorem rls (v x : Value) : ReflectliteValue.set #[v, x] = (do
    let (some (dst, a, fl), some (src, b, _)) := (← ReflectliteValue.parts v, ← ReflectliteValue.parts x)
      | unsupported (.noEntry "extern/(internal/reflectlite.Value).Set.zeroValue")
    if fl / ReflectliteValue.flagAddr % 2 == 0 then unsupported (.noEntry "extern/(internal/reflectlite.Value).Set.unaddressable")
    let val ← loadVar src b
    if ← Rtype.directlyAssignable dst src then storeVar dst a val
    else if ← Rtype.implements dst src then
      if (← Rtype.kind src) == 20 then
        match val with
        | .nilIface => unsupported (.noEntry "extern/reflectlite: a nil value of one interface type handed on as a value of another")
        | _ => storeVar dst a val
      else storeVar dst a (.iface src val)
    else panicString ("reflectlite.Set: value of type " ++ (← Rtype.spelt src) ++ " is not assignable to type " ++ (← Rtype.spelt dst))
    pure (.tuple #[])) := rfl
theorem as_parts25a (a : Addr) (w : World) : (ReflectliteValue.parts (.agg #[.pointer (some ⟨nG, 154, none⟩), .pointer (some a), .int .u64 406])).run Tryz.prog w = .ok (some (154, a, 406)) w := by kernel_rfl
theorem as_parts25 (a : Addr) (w : World) : (ReflectliteValue.parts (.agg #[.pointer (some ⟨nG, 154, none⟩), .pointer (some a), .int .u64 150])).run Tryz.prog w = .ok (some (154, a, 150)) w := by kernel_rfl
theorem as_direct25 (w : World) : (Rtype.directlyAssignable 154 154).run Tryz.prog w = .ok true w := by kernel_rfl
theorem as_size25 (w : World) : (sizeOf 154).run Tryz.prog w = .ok 1 w := by kernel_rfl
theorem as_set25 (ta b e : Addr) (old : Value) (W : World) (hb : W.cell? b = some (.pointer (some e))) (ht : W.cell? ta = some old) (hf : W.frozen? ta = false) :
    (ReflectliteValue.set #[.agg #[.pointer (some ⟨nG, 154, none⟩), .pointer (some ta), .int .u64 406], .agg #[.pointer (some ⟨nG, 154, none⟩), .pointer (some b), .int .u64 150]]).run Tryz.prog W
      = .ok (.tuple #[]) (W.setCell ta (.pointer (some e))) := by
  rw [rls]
  simp only [Sem.run_bind, as_parts25a, as_parts25, Result.andThen]
  simp [ReflectliteValue.flagAddr, loadVar, isAgg, underlying, Tryz.underlying154, hb, Result.andThen, as_direct25, storeVar, Value.cells, storeCells, Addr.add]
  rw [run_store Tryz.prog W ta _ _ (by rfl)]
  simp [ht, hf]
set_option maxHeartbeats 4000000 in
theorem as_hit (e t : Addr) (old : Value) (w : World) (hg : w.cell? ⟨2, 0, none⟩ = some (.iface 222 (.agg #[.pointer (some ⟨nG, 156, none⟩)]))) (ht0 : w.cell? t = some old) (hf0 : w.frozen? t = false) :
    Calls Tryz.prog 100 #[.iface 154 (.pointer (some e)), .iface 201 (.pointer (some t))] w fun ev w' => ev = .returned (.bool true) ∧ w' = ((((w.alloc (.cells #[.pointer (some t)] 201)).alloc (.cells #[.pointer (some ⟨nG, 201, none⟩), .pointer (some ⟨w.heap.size, 0, none⟩), .int .u64 150] 214)).alloc (.cells #[.pointer (some ⟨nG, 201, none⟩), .pointer (some ⟨w.heap.size, 0, none⟩), .int .u64 150] 214)).alloc (.cells #[.pointer (some e)] 154)).setCell t (.pointer (some e)) := by
  have h6 := @run_callFunc_extern Tryz.prog 108 _ (fun args => ReflectliteValue.unpack (args.getD 0 (.tuple #[]))) Tryz.func108 (by kernel_rfl) (by kernel_rfl) (by kernel_rfl) (by kernel_rfl)
  have h7 := @run_callFunc_extern Tryz.prog 109 _ (ReflectliteValue.methodAny (ReflectliteValue.valueError "reflectlite.Value.Type" 0) (fun t _ _ _ => ReflectliteType.toType t)) Tryz.func109 (by kernel_rfl) (by kernel_rfl) (by kernel_rfl) (by kernel_rfl)
  have h8 := @run_callFunc_extern Tryz.prog 110 _ (ReflectliteValue.method (ReflectliteValue.valueError "reflectlite.Value.IsNil" 0) ReflectliteValue.isNil) Tryz.func110 (by kernel_rfl) (by kernel_rfl) (by kernel_rfl) (by kernel_rfl)
  have h27 := @run_callFunc_extern Tryz.prog 128 _ (ReflectliteType.abiMethod fun t => do pure (.int .u8 (← Rtype.kind t))) Tryz.func128 (by kernel_rfl) (by kernel_rfl) (by kernel_rfl) (by kernel_rfl)
  have h37 := @run_callFunc_extern Tryz.prog 139 _ (ReflectliteType.method ReflectliteType.elem) Tryz.func139 (by kernel_rfl) (by kernel_rfl) (by kernel_rfl) (by kernel_rfl)
  have h38 := @run_callFunc_extern Tryz.prog 140 _ (ReflectliteType.relation "Implements" ReflectliteType.implements_) Tryz.func140 (by kernel_rfl) (by kernel_rfl) (by kernel_rfl) (by kernel_rfl)
  have h10 := @run_callFunc_extern Tryz.prog 106 _ ReflectliteType.typeOf Tryz.func106 (by kernel_rfl) (by kernel_rfl) (by kernel_rfl) (by kernel_rfl)
  have h35 := @run_callFunc_extern Tryz.prog 137 _ (ReflectliteType.relation "AssignableTo" ReflectliteType.assignableTo) Tryz.func137 (by kernel_rfl) (by kernel_rfl) (by kernel_rfl) (by kernel_rfl)
  have h11 := @run_callFunc_extern Tryz.prog 112 _ (ReflectliteValue.method (ReflectliteValue.valueError "reflectlite.Value.Elem" 0) ReflectliteValue.elem) Tryz.func112 (by kernel_rfl) (by kernel_rfl) (by kernel_rfl) (by kernel_rfl)
  have h12 := @run_callFunc_extern Tryz.prog 113 _ ReflectliteValue.set Tryz.func113 (by kernel_rfl) (by kernel_rfl) (by kernel_rfl) (by kernel_rfl)
  have tO := as_typeOf25
  have mA := as_methodAssignableTo
  have a25 := as_assignable25
  have v25 := as_valueOf25
  have f6 := as_valueOf27
  have f7 := as_type27
  have mK := as_methodKind
  have mE := as_methodElem
  have mI := as_methodImplements
  have k27 := as_kind27
  have k25 := as_kind25
  have e27 := as_elem27
  have i25 := as_implements25
  have n8 := as_isNil27 ⟨w.heap.size, 0, none⟩ t ((w.alloc (.cells #[.pointer (some t)] 201)).alloc (.cells #[.pointer (some ⟨nG, 201, none⟩), .pointer (some ⟨w.heap.size, 0, none⟩), .int .u64 150] 214)) (by simp)
  have hlt : 2 < w.heap.size := by
    rcases Nat.lt_or_ge 2 w.heap.size with h | h0
    · exact h
    · simp only [World.cell?] at hg; rw [Array.getElem?_eq_none h0] at hg; cases hg
  have hg2 : ((w.alloc (.cells #[.pointer (some t)] 201)).alloc (.cells #[.pointer (some ⟨nG, 201, none⟩), .pointer (some ⟨w.heap.size, 0, none⟩), .int .u64 150] 214)).cell? ⟨2, 0, none⟩ = some (.iface 222 (.agg #[.pointer (some ⟨nG, 156, none⟩)])) := by
    rw [World.cell?_alloc_lt _ _ ⟨2, 0, none⟩ (by simp; omega), World.cell?_alloc_lt _ _ ⟨2, 0, none⟩ hlt]; exact hg
  have htl : t.block < w.heap.size := by
    rcases Nat.lt_or_ge t.block w.heap.size with h | h
    · exact h
    · simp [World.cell?, Array.getElem?_eq_none h] at ht0
  have el := as_elemV27 ⟨w.heap.size, 0, none⟩ t (((w.alloc (.cells #[.pointer (some t)] 201)).alloc (.cells #[.pointer (some ⟨nG, 201, none⟩), .pointer (some ⟨w.heap.size, 0, none⟩), .int .u64 150] 214)).alloc (.cells #[.pointer (some ⟨nG, 201, none⟩), .pointer (some ⟨w.heap.size, 0, none⟩), .int .u64 150] 214)) (by rw [World.cell?_alloc_lt _ _ ⟨w.heap.size, 0, none⟩ (by simp; omega)]; simp)
  have st := as_set25 t ⟨w.heap.size + 1 + 1 + 1, 0, none⟩ e old ((((w.alloc (.cells #[.pointer (some t)] 201)).alloc (.cells #[.pointer (some ⟨nG, 201, none⟩), .pointer (some ⟨w.heap.size, 0, none⟩), .int .u64 150] 214)).alloc (.cells #[.pointer (some ⟨nG, 201, none⟩), .pointer (some ⟨w.heap.size, 0, none⟩), .int .u64 150] 214)).alloc (.cells #[.pointer (some e)] 154))
    (by rw [World.cell?_alloc_at _ _ _ _ (by simp)]; rfl)
    (by rw [World.cell?_alloc_lt _ _ t (by simp; omega), World.cell?_alloc_lt _ _ t (by simp; omega), World.cell?_alloc_lt _ _ t (by simp; omega), World.cell?_alloc_lt _ _ t htl]; exact ht0)
    (by rw [World.frozen?_alloc_old _ _ t (by simp; omega), World.frozen?_alloc_old _ _ t (by simp; omega), World.frozen?_alloc_old _ _ t (by simp; omega), World.frozen?_alloc_old _ _ t (Nat.ne_of_lt htl)]; exact hf0)
  go_enter Tryz.func100, Tryz.ntmps100
  go_wp2
  refine wp_loop_rounds 1 ?_
  rw [rounds_succ]
  go_wp2
  go_ret
  exact ⟨rfl, rfl⟩
end
section
open Go.RowKit
theorem Blk.range {w : World} {b : Nat} {t : TypeId} {l : List Value} (h : Blk w b t l.toArray) : w.rangeAt b 0 l := fun j v hv => by
  rw [Nat.zero_add, h.cell j]; simpa using hv
theorem Chg.setCells {M : Nat → Prop} {w : World} {b : Nat} (hb : M b ∨ w.heap.size ≤ b) : ∀ (vs : List Value) (o : Nat) (w' : World), Chg M w w' → Chg M w (w'.setCells b o vs)
  | [], _, _, h => h
  | v :: r, o, _, h => Chg.setCells hb r (o + 1) _ (h.setCell (p := ⟨b, o, none⟩) hb v)
theorem Blk.setCells {b : Nat} {t : TypeId} : ∀ (xs : List Value) (o : Nat) (w : World) (cs : List Value), Blk w b t cs.toArray → o + xs.length ≤ cs.length → Blk (w.setCells b o xs) b t (cs.take o ++ xs ++ cs.drop (o + xs.length)).toArray
  | [], o, w, cs, h, _ => by simpa [World.setCells] using h
  | v :: r, o, w, cs, h, hl => by
    simp only [List.length_cons] at hl
    have h1 := h.set_ o v
    rw [setIfInBounds_toArray] at h1
    have := Blk.setCells r (o + 1) _ _ h1 (by simp; omega)
    rw [World.setCells]
    rw [list_seg_step cs o v r (by omega)] at this
    exact this
section
variable {P : Program} {ops : Array Oper} {rest : List Oper} {op : Oper} {a : Act} {w : World} {Q : Exit → Act → World → Prop}
theorem wpList_store_blk (hgd : op.guard = none) (ty : TypeId) (x y : Operand) (ho : op.op = .store ty x y) {X : Nat} {t : TypeId} {cs0 cs : List Value} (hb : Blk w X t cs0.toArray) (hx : a.eval x = .pointer (some ⟨X, 0, none⟩)) (hy : a.eval y = .agg cs.toArray)
    (hl : cs0.length = cs.length) (hi : (P.info? ty).map (·.size) = some cs.length) (h1 : ∀ v ∈ cs, v.oneCell' = true) (h : ∀ w', Blk w' X t cs.toArray → Chg (fun b => b = X) w w' → wpList P ops Q rest (a.put op.dst undef) w') : wpList P ops Q (op :: rest) a w := by
  refine wpList_store_mid hgd ty x y ho X 0 cs.toArray hx hy (fun j hj => ?_) (by simpa using hi) (all_oneCell_toArray h1) ?_
  · rw [Nat.zero_add, hb.cell]
    simp only [List.size_toArray] at hj
    exact ⟨by simp [hl, hj], hb.frozen _⟩
  · refine h _ ?_ (Chg.setCells (M := fun b => b = X) (.inl rfl) _ _ _ (Chg.refl _ w))
    have := Blk.setCells cs 0 w cs0 hb (by omega)
    simpa [hl, List.drop_of_length_le] using this
theorem wpList_load_blk' (hgd : op.guard = none) (ty : TypeId) (x : Operand) (ho : op.op = .load ty x) {X : Nat} {t : TypeId} {cs : List Value} (hb : Blk w X t cs.toArray) (hx : a.eval x = .pointer (some ⟨X, 0, none⟩)) {d : TypeDesc} (hu : P.underlying ty = some d) (hd : d.isRow = true)
    (hi : (P.info? ty).map (·.size) = some cs.length) (h : wpList P ops Q rest (a.put op.dst (.agg cs.toArray)) w) : wpList P ops Q (op :: rest) a w :=
  wpList_load_mid hgd ty x ho X 0 hx cs _ hb.range hu hd hi h
end
end
section
open Go.RowKit Go.Maps
theorem Bsr.tail {w : World} {S : Nat → Prop} {b off cap : Nat} {x : List UInt8} {rows : List (List UInt8)} (h : Bsr w S (.slice (some ⟨b, off, none⟩) (rows.length + 1) cap) (x :: rows)) : Bsr w S (.slice (some ⟨b, off + 1, none⟩) rows.length (cap - 1)) rows := by
  obtain ⟨vs, ⟨hl, A, c, e, hn, hc, hp⟩, h2⟩ := h
  injection e with e1 e2 e3
  subst e1 e3
  obtain ⟨b', off', e', hS, hlt, hcell⟩ := hp (by simp)
  injection e' with e'
  injection e' with e1 e2
  subst e1 e2
  obtain ⟨u, vs, rfl⟩ : ∃ u l, vs = u :: l := by
    cases vs with
    | nil => simp at hl
    | cons u l => exact ⟨u, l, rfl⟩
  simp only [List.length_cons] at hl hn
  refine ⟨vs, ⟨by omega, _, _, rfl, by omega, by omega, fun _ => ⟨b, off + 1, rfl, hS, hlt, fun j v hj => ?_⟩⟩, fun i y v h3 h4 => h2 (i + 1) y v h3 h4⟩
  have := hcell (j + 1) v hj
  rwa [show off + (j + 1) = off + 1 + j by omega] at this
theorem Bsr.none_ (w : World) (S : Nat → Prop) (A : Option Addr) {c : Nat} (hc : c ≤ maxLen) : Bsr w S (.slice A 0 c) [] :=
  ⟨[], ⟨by simp, A, c, rfl, Nat.zero_le _, hc, fun h => absurd h (Nat.lt_irrefl 0)⟩, fun i x u h => by simp at h⟩
theorem Bsr.cap_ {w : World} {S : Nat → Prop} {A : Option Addr} {n cap : Nat} {rows : List (List UInt8)} (h : Bsr w S (.slice A n cap) rows) : n ≤ cap ∧ cap ≤ maxLen := by
  obtain ⟨vs, ⟨_, _, _, e, hn, hc, _⟩, _⟩ := h
  injection e with e1 e2 e3
  subst e2 e3
  exact ⟨hn, hc⟩
theorem bad_any (w : World) {X : Nat → Prop} {E g : Nat} {sent e : Value} {rows : List (List UInt8)} {bad : Bool} (h : Pt w X E g sent rows bad) (hc : Chain w (fun b => ¬ X b ∧ E ≤ b) sent e) :
    Calls Tryz.prog 103 #[.pointer (some ⟨g, 0, none⟩), e] w fun en w' => en = .returned (.tuple #[]) ∧ Chg (fun k => k = g) w w' ∧ Pt w' X E g sent rows true := by
  obtain ⟨hg, hn, hx, hl, hE, v, e0, hb, hr, he⟩ := h
  obtain ⟨g', rfl⟩ := hc.form
  have HG := Lib.hid hg; clear hg
  have HR := Lib.hid hr; clear hr
  have HC := Lib.hid hc; clear hc
  obtain ⟨hcell, hfr⟩ := hb.rules
  have HB := Lib.hid hb; clear hb
  rcases he with ⟨rfl, rfl⟩ | ⟨rfl, he⟩
  · go_enter Tryz.func103, Tryz.ntmps103
    go_wp2
    go_end0
    have hch : Chg (fun k => k = g) w (w.setCell ⟨g, 1, none⟩ (.iface 154 (.pointer (some ⟨g', 0, none⟩)))) := (Chg.refl _ w).setIn 1 _
    exact ⟨rfl, hch, HG.out.chg hch fun h => hn (h ▸ hx), hn, hx, fun b h => by simpa using hl b h, by simpa using hE, v, _, HB.out.set_ 1 _, HR.out.chg hch fun b hb h => hb (h ▸ hx), .inr ⟨rfl, HC.out.chg hch fun b hb h => hb.1 (h ▸ hx)⟩⟩
  · obtain ⟨g'', rfl⟩ := he.form
    have HE := Lib.hid he; clear he
    go_enter Tryz.func103, Tryz.ntmps103
    go_wp2
    go_end0
    exact ⟨rfl, Chg.refl _ _, HG.out, hn, hx, hl, hE, v, _, HB.out, HR.out, .inr ⟨rfl, HE.out⟩⟩
theorem next_any (w : World) {X : Nat → Prop} {E g : Nat} {sent : Value} {x : List UInt8} {rows : List (List UInt8)} {bad : Bool} (h : Pt w X E g sent (x :: rows) bad) :
    Calls Tryz.prog 102 #[.pointer (some ⟨g, 0, none⟩)] w fun en w' => ∃ v, en = .returned v ∧ Bs w' (fun b => ¬ X b) v x ∧ Chg (fun k => k = g) w w' ∧ Pt w' X E g sent rows bad := by
  obtain ⟨hg, hn, hx, hl, hE, v, e0, hb, hr, he⟩ := h
  have HG := Lib.hid hg; clear hg
  have HE := Lib.hid he; clear he
  obtain ⟨hcell, hfr⟩ := hb.rules
  have HB := Lib.hid hb; clear hb
  obtain ⟨A, cap, rfl⟩ := hr.form
  obtain ⟨b, off, u, rfl, hu, hbs, hlt, hne⟩ := hr.at_ (k := 0) (by simp)
  have hu : w.cell? ⟨b, off, none⟩ = some u := hu
  have HBS := Lib.hid hbs; clear hbs
  have hcap := hr.cap_
  simp only [List.length_cons] at hcap
  obtain ⟨hc1, hc2⟩ := hcap
  have HR := Lib.hid hr; clear hr
  have HC2 := Lib.hid hc2; clear hc2
  have hch : ∀ z, Chg (fun k => k = g) w (w.setCell ⟨g, 0, none⟩ z) := fun z => (Chg.refl _ w).setIn 0 z
  have HCH := Lib.hid hch; clear hch
  have hfin : ∀ z, Bsr w (fun b => ¬ X b) z rows → (fun (en : Ending) w' => ∃ v, en = .returned v ∧ Bs w' (fun b => ¬ X b) v x ∧ Chg (fun k => k = g) w w' ∧ Pt w' X E g sent rows bad) (.returned u) (w.setCell ⟨g, 0, none⟩ z) := fun z hz =>
    ⟨u, rfl, HBS.out.chg (HCH.out z) fun b hb h => hb (h ▸ hx), HCH.out z, HG.out.chg (HCH.out z) fun h => hn (h ▸ hx), hn, hx, fun b h => by simpa using hl b h, by simpa using hE, z, e0, HB.out.set_ 0 z, hz.chg (HCH.out z) fun b hb h => hb (h ▸ hx), HE.out.to (fun b hb hl => ⟨by simpa using hl, (HCH.out z).block b hl fun h => hb.1 (h ▸ hx)⟩) fun _ h _ => h⟩
  have HF := Lib.hid hfin; clear hfin
  go_enter Tryz.func102, Tryz.ntmps102
  go_wp2
  · go_ret
    have h0 : rows = [] := List.eq_nil_of_length_eq_zero (by omega)
    subst h0
    exact HF.out _ (Bsr.none_ _ _ _ (Nat.zero_le _))
  · go_ret
    exact HF.out _ HR.out.tail
theorem Chain.fresh {w : World} {S : Nat → Prop} {sent : Value} (what : Value) (hS : S w.heap.size) : Chain (w.alloc (.cells #[what, sent] 158)) S sent (.iface 154 (.pointer (some ⟨w.heap.size, 0, none⟩))) :=
  .last hS (by simp) (Blk.new w _ _)
theorem Chain.freshMore {w : World} {S : Nat → Prop} {sent v : Value} (h : Chain w S sent v) (what : Value) (hS : S w.heap.size) : Chain (w.alloc (.cells #[what, v] 158)) S sent (.iface 154 (.pointer (some ⟨w.heap.size, 0, none⟩))) :=
  .more hS (by simp) (Blk.new w _ _) (h.low ((Below.refl _ w).alloc (Nat.le_refl _) _))
theorem run_make_bytes (n : Nat) (hn : n ≤ 1048576) (u : World) : (Instr.makeSlice 22 (.int .i64 n) (.int .i64 n)).run Tryz.prog u =
    .ok (.slice (some ⟨u.heap.size, 0, none⟩) n n) (u.alloc (.cells (u8s (List.replicate n 0)).toArray 5)) := by
  obtain ⟨i0, hi, hz0, hz1, hz2⟩ := info_parts info_u8
  have h := run_make (P := Tryz.prog) u 22 5 i0 (.int .u8 0) Tryz.underlying22 hi hz0 .i64 .i64 (n : Int) (n : Int) (by omega) (Int.le_refl _) (by rw [hz2]; omega) (by omega)
  simp only [Int.toNat_natCast] at h
  have e : madeCells (Value.int .u8 0).cells (n * i0.size) = (u8s (List.replicate n 0)).toArray := by
    apply Array.toList_inj.1
    rw [hz1, Nat.mul_one]
    exact (toList_madeCells_one _ _).trans (by simp [u8s])
  rw [h, e]
def Sized (w : World) (X : Nat → Prop) (E g : Nat) (sent : Value) (n : Nat) (x : List UInt8) (rows : List (List UInt8)) (bad : Bool) (en : Ending) (w' : World) : Prop :=
  ∃ v y bad', en = .returned v ∧ Bs w' (fun b => ¬ X b) v y ∧ y.length = n ∧ Chg (fun k => k = g) w w' ∧ Pt w' X E g sent rows bad' ∧ ((x.length = n ∧ y = x ∧ bad' = bad) ∨ (x.length ≠ n ∧ bad' = true))
theorem sized_any (w : World) {X : Nat → Prop} {E g : Nat} {sent : Value} {x : List UInt8} {rows : List (List UInt8)} {bad : Bool} (h : Pt w X E g sent (x :: rows) bad) (n : Nat) (hn : n ≤ 1000) :
    Calls Tryz.prog 104 #[.pointer (some ⟨g, 0, none⟩), .int .i64 n] w (Sized w X E g sent n x rows bad) := by
  have H := Lib.hid h; clear h
  by_cases hl : x.length = n
  · have HL := Lib.hid hl
    have hd : (((x.length : Nat) : Int) != (n : Int)) = false := by simp [hl]
    clear hl
    go_enter Tryz.func104, Tryz.ntmps104
    go_wp2_with fail
    refine (next_any _ H.out).mono ?_
    rintro e w1 ⟨v1, rfl, hb1, hc1, hp1⟩
    obtain ⟨A1, c1, rfl⟩ := hb1.form
    have HB1 := Lib.hid hb1
    have HP1 := Lib.hid hp1
    clear hb1 hp1
    go_wp2
    go_ret
    exact ⟨_, x, bad, rfl, HB1.out, HL.out, hc1, HP1.out, .inl ⟨HL.out, rfl, rfl⟩⟩
  · have HL := Lib.hid hl
    have hd : (((x.length : Nat) : Int) != (n : Int)) = true := by simp; omega
    clear hl
    go_enter Tryz.func104, Tryz.ntmps104
    go_wp2_with fail
    refine (next_any _ H.out).mono ?_
    rintro e w1 ⟨v1, rfl, hb1, hc1, hp1⟩
    obtain ⟨A1, c1, rfl⟩ := hb1.form
    have HB1 := Lib.hid hb1
    have HP1 := Lib.hid hp1
    obtain ⟨⟨sa, rfl⟩, hgl⟩ := hp1.1
    have hxl := hp1.2.2.2.1
    have hxE := hp1.2.2.2.2.1
    have hgl : w1.cell? ⟨gF, 0, none⟩ = some _ := hgl
    unfold gF at hgl
    clear hb1 hp1
    have hgs := HP1.out.lt
    have hp2 := HP1.out.below ((Below.refl w1.heap.size w1).alloc (Nat.le_refl _) (.cells #[.string ⟨#[97, 32, 112, 97, 114, 116]⟩, .iface 237 (.pointer (some sa))] 158))
    have hch : Chain (w1.alloc (.cells #[.string ⟨#[97, 32, 112, 97, 114, 116]⟩, .iface 237 (.pointer (some sa))] 158)) (fun b => ¬ X b ∧ E ≤ b) _ _ := Chain.fresh _ ⟨fun h => absurd (hxl _ h) (Nat.lt_irrefl _), hxE⟩
    have HB := Lib.hid (bad_any _ hp2 hch)
    clear hp2 hch hgs hxl hxE HP1 HB1 H
    have HMK := Lib.hid (run_make_bytes n (by omega))
    go_wp2_with fail
    refine HB.out.mono ?_
    rintro e w2 ⟨rfl, hc2, hp2⟩
    have HP2 := Lib.hid hp2; clear hp2
    have hmk := HMK.out w2
    go_wp2_with fail
    go_ret
    have hc3 := ((hc1.alloc _).trans hc2 fun b h => .inl h).alloc (.cells (u8s (List.replicate n 0)).toArray 5)
    have hb3 := Bs.of_new w2 5 (List.replicate n 0) (by rw [List.length_replicate]; omega) (0, 0)
    rw [List.length_replicate] at hb3
    have hlt := HP2.out.lt
    exact ⟨_, _, true, rfl, hb3.sub fun b hb _ h => by have := HP2.out.2.2.2.1 b h; omega, by simp, hc3, HP2.out.below ((Below.refl _ w2).alloc (Nat.le_refl _) _), .inr ⟨HL.out, rfl⟩⟩
def Uout (w : World) (X : Nat → Prop) (E g : Nat) (sent : Value) (x : List UInt8) (rows : List (List UInt8)) (bad : Bool) (en : Ending) (w' : World) : Prop :=
  ∃ (m : Nat) (bad' : Bool), en = .returned (.int .u64 m) ∧ m < 18446744073709551616 ∧ Chg (fun k => k = g) w w' ∧ Pt w' X E g sent rows bad' ∧ ((x.length = 8 ∧ m = Lib.beNat x ∧ bad' = bad) ∨ (x.length ≠ 8 ∧ bad' = true))
theorem u_any (w : World) {X : Nat → Prop} {E g : Nat} {sent : Value} {x : List UInt8} {rows : List (List UInt8)} {bad : Bool} (h : Pt w X E g sent (x :: rows) bad) :
    Calls Tryz.prog 90 #[.pointer (some ⟨g, 0, none⟩)] w (Uout w X E g sent x rows bad) := by
  have H := Lib.hid (sized_any w h 8 (by omega)); clear h
  go_enter Tryz.func90, Tryz.ntmps90
  go_wp2_with fail
  refine H.out.mono ?_
  rintro e w1 ⟨v, y, bad', rfl, hb1, hl1, hc1, hp1, hx⟩
  have hu := u64_any w1 hb1.1 (by omega)
  rw [List.take_of_length_le (by omega)] at hu
  have HU := Lib.hid hu
  have HP := Lib.hid hp1
  have HL := Lib.hid hl1
  have HX := Lib.hid hx
  clear hu hp1 hb1 hl1 hx
  go_wp2_with fail
  refine HU.out.mono ?_
  rintro e w2 ⟨rfl, rfl⟩
  go_wp2_with fail
  go_ret
  exact ⟨_, bad', rfl, beNat_lt8 _ HL.out, hc1, HP.out, HX.out.imp (fun ⟨h1, h2, h3⟩ => ⟨h1, by rw [h2], h3⟩) id⟩
theorem beTook (sg : Bool) {w : World} {X : Nat → Prop} {E g : Nat} {sent : Value} {x : List UInt8} {rows : List (List UInt8)} {bad : Bool} {w' : World} {m : Nat} {bad' : Bool} (hc : Chg (fun k => k = g) w w') (hp : Pt w' X E g sent rows bad')
    (hx : (x.length = 8 ∧ m = Lib.beNat x ∧ bad' = bad) ∨ (x.length ≠ 8 ∧ bad' = true)) : Took (.num sg) w X E g sent x rows bad (.returned (.int (nk sg) ((nk sg).wrap m))) w' := by
  refine ⟨[.int (nk sg) ((nk sg).wrap m)], bad', rfl, hc, hp, rfl, fun v hv => by obtain rfl := List.mem_singleton.1 hv; rfl, ?_⟩
  have hd : (Sh.num sg).dec x = if x.length = 8 then some ((nk sg).wrap (Lib.beNat x)) else none := rfl
  rw [hd]
  rcases hx with ⟨h1, h2, h3⟩ | ⟨h1, h2⟩
  · exact .inl ⟨_, if_pos h1, h3, by rw [h2], nk_wrap_wrap _ _⟩
  · exact .inr ⟨if_neg h1, h2⟩
theorem uTook_any (w : World) {X : Nat → Prop} {E g : Nat} {sent : Value} {x : List UInt8} {rows : List (List UInt8)} {bad : Bool} (h : Pt w X E g sent (x :: rows) bad) :
    Calls Tryz.prog 90 #[.pointer (some ⟨g, 0, none⟩)] w (Took u64 w X E g sent x rows bad) := by
  refine (u_any w h).mono ?_
  rintro e w' ⟨m, bad', rfl, hm, hc, hp, hx⟩
  have := beTook false hc hp hx
  rw [wrap_u, show (m : Int) % 18446744073709551616 = m by omega] at this
  exact this
theorem n_any (w : World) {X : Nat → Prop} {E g : Nat} {sent : Value} {x : List UInt8} {rows : List (List UInt8)} {bad : Bool} (h : Pt w X E g sent (x :: rows) bad) :
    Calls Tryz.prog 79 #[.pointer (some ⟨g, 0, none⟩)] w (Took i64 w X E g sent x rows bad) := by
  have H := Lib.hid (u_any w h); clear h
  go_enter Tryz.func79, Tryz.ntmps79
  go_wp2_with fail
  refine H.out.mono ?_
  rintro e w1 ⟨m, bad', rfl, hm, hc, hp, hx⟩
  have HX := Lib.hid (beTook true hc hp hx)
  clear hc hp hx
  go_wp2_with fail
  go_ret
  have := HX.out
  rw [nk_t, IntWalk.i64_left] at this
  exact this
theorem int_any (w : World) {X : Nat → Prop} {E g : Nat} {sent : Value} {x : List UInt8} {rows : List (List UInt8)} {bad : Bool} (h : Pt w X E g sent (x :: rows) bad) :
    Calls Tryz.prog 74 #[.pointer (some ⟨g, 0, none⟩)] w (Took i64 w X E g sent x rows bad) := by
  have H := Lib.hid (u_any w h); clear h
  go_enter Tryz.func74, Tryz.ntmps74
  go_wp2_with fail
  refine H.out.mono ?_
  rintro e w1 ⟨m, bad', rfl, hm, hc, hp, hx⟩
  have HX := Lib.hid (beTook true hc hp hx)
  clear hc hp hx
  go_wp2_with fail
  go_ret
  have := HX.out
  rw [nk_t, IntWalk.i64_left] at this
  exact this
attribute [-simp] Tryz.isAgg36 Tryz.typeInfo36
set_option maxRecDepth 100000 in
theorem pdigest_any (w : World) {X : Nat → Prop} {E g : Nat} {sent : Value} {x : List UInt8} {rows : List (List UInt8)} {bad : Bool} (h : Pt w X E g sent (x :: rows) bad) :
    Calls Tryz.prog 80 #[.pointer (some ⟨g, 0, none⟩)] w (Took .dig w X E g sent x rows bad) := by
  have hlx := h.2.2.2.1
  have hgx := h.2.2.1
  have hgw := h.lt
  have hp0 := h.more ((Below.refl w.heap.size w).alloc (Nat.le_refl _) (.cells (u8s (List.replicate 32 0)).toArray 36)) (fun b => b = w.heap.size) (fun b hb => ⟨Nat.le_of_eq hb.symm, by rw [hb]; simp⟩)
  have H := Lib.hid (sized_any _ hp0 32 (by omega)); clear h hp0
  go_enter Tryz.func80, Tryz.ntmps80
  go_wp2_with fail
  refine H.out.mono ?_
  rintro e w1 ⟨v, y, bad', rfl, hb1, hl1, hc1, hp1, hx⟩
  obtain ⟨A, cap, rfl⟩ := hb1.form
  obtain ⟨⟨_, A', cap', e', hn, hcap, hp⟩, _⟩ := hb1
  injection e' with e1 e2 e3
  subst e1 e3
  obtain ⟨b, off, rfl, hS, hlt, hcell⟩ := hp (by omega)
  have hr : w1.rangeAt b off (u8s y) := fun j u hu => hcell j u hu
  have HR := Lib.hid hr
  have HP := Lib.hid hp1
  have HX := Lib.hid hx
  have HL := Lib.hid hl1
  have hl2 : 32 ≤ y.length := by omega
  have hat : (Instr.arrayAt 36 (.slice (some ⟨b, off, none⟩) y.length cap)).run Tryz.prog w1 = .ok (.pointer (some ⟨b, off, none⟩)) w1 := run_arrayAt w1 _ 5 32 _ _ _ Tryz.underlying36 hl2
  have hb0 : Blk w1 w.heap.size 36 (u8s (List.replicate 32 0)).toArray := (Blk.new w _ _).chg hc1 fun h => by omega
  have HLX := Lib.hid hlx; clear hlx
  clear hcell hr hp1 hx hl1 hp
  go_wp2_with (first | (refine wpList_load_mid rfl 36 _ rfl b off rfl (u8s y) _ HR.out Tryz.underlying36 rfl (by rw [u8s_length, HL.out]; kernel_rfl) ?_) | (refine wpList_store_blk (cs0 := u8s (List.replicate 32 0)) (cs := u8s y) rfl 36 _ _ rfl hb0 rfl rfl (by rw [u8s_length, u8s_length, HL.out]; rfl) (by rw [u8s_length, HL.out]; kernel_rfl) (u8s_one _) ?_; intro w4 hb4 hc4; have HB4 := Lib.hid hb4; have HC4 := Lib.hid hc4; clear hb4 hc4))
  have hld := run_loadVar_mid (P := Tryz.prog) w4 w.heap.size 0 36 (u8s y) _ HB4.out.range Tryz.underlying36 rfl (by rw [u8s_length, HL.out]; kernel_rfl)
  have hch : Chg (fun k => k = g) w w4 := (((Chg.refl (fun k => k = g) w).alloc _).trans hc1 fun b h => .inl h).trans HC4.out fun b h => .inr (Nat.le_of_eq h.symm)
  have hng : g ≠ w.heap.size := by omega
  exact bodyPost_ret (v := .agg (u8s y).toArray) (by simp [results, Tryz.results80, asAddr, hld, Act.put]) rfl ⟨u8s y, bad', rfl, hch, (HP.out.chg HC4.out fun b h => ⟨.inr h, fun e => hng (e.symm.trans h)⟩).less (fun b h => .inl h) hgx,
    by rw [u8s_length, HL.out]; rfl, u8s_one _, HX.out.imp (fun ⟨h1, h2, h3⟩ => ⟨y, by rw [← h2]; exact if_pos HL.out, h3, rfl, HL.out⟩) fun ⟨h1, h2⟩ => ⟨if_neg h1, h2⟩⟩
end
section
open Go.RowKit Go.Maps
theorem Cs.cut {w : World} {S : Nat → Prop} {A : Option Addr} {m cap : Nat} {xs : List Value} (h : Cs w S 1 (.slice A m cap) m xs) (lo hi : Nat) (h1 : lo ≤ hi) (h2 : hi ≤ m) (hm : 0 < m) :
    ∃ A', (∀ w' : World, (Instr.sliceAt 22 (.slice A m cap) (some (.int .i64 lo)) (some (.int .i64 hi)) none).run Tryz.prog w' = .ok (.slice A' (hi - lo) (cap - lo)) w') ∧ Cs w S 1 (.slice A' (hi - lo) (cap - lo)) (hi - lo) ((xs.drop lo).take (hi - lo)) := by
  obtain ⟨hl, A0, cap0, e, hn, hc, hp⟩ := h
  injection e with e0 _ e2
  subst e0 e2
  obtain ⟨b, off, rfl, hS, hlt, hcell⟩ := hp hm
  refine ⟨if cap = lo then some ⟨b, off, none⟩ else some ⟨b, off + lo, none⟩, fun w' => ?_, ?_, _, _, rfl, by omega, by simp only [maxLen] at hc ⊢; omega, fun h0 => ?_⟩
  · have h3 : (lo : Int) ≤ (hi : Int) := by omega
    have h4 : (hi : Int) ≤ (cap : Int) := by omega
    go_simp
  · rw [List.length_take, List.length_drop, hl]; omega
  · rw [if_neg (by omega)]
    refine ⟨b, off + lo, rfl, hS, hlt, fun j u hu => ?_⟩
    rw [List.getElem?_take] at hu
    split at hu
    · rw [List.getElem?_drop] at hu
      rw [Nat.add_assoc]
      exact hcell _ u hu
    · cases hu
theorem Cs.tail {w : World} {S : Nat → Prop} {A : Option Addr} {m cap : Nat} {xs : List Value} (h : Cs w S 1 (.slice A m cap) m xs) (lo : Nat) (h1 : lo ≤ m) (hm : 0 < m) :
    ∃ A', (∀ w' : World, (Instr.sliceAt 22 (.slice A m cap) (some (.int .i64 lo)) none none).run Tryz.prog w' = .ok (.slice A' (m - lo) (cap - lo)) w') ∧ Cs w S 1 (.slice A' (m - lo) (cap - lo)) (m - lo) (xs.drop lo) := by
  obtain ⟨hl, A0, cap0, e, hn, hc, hp⟩ := h
  injection e with e0 _ e2
  subst e0 e2
  obtain ⟨b, off, rfl, hS, hlt, hcell⟩ := hp hm
  refine ⟨if cap = lo then some ⟨b, off, none⟩ else some ⟨b, off + lo, none⟩, fun w' => ?_, ?_, _, _, rfl, by omega, by simp only [maxLen] at hc ⊢; omega, fun h0 => ?_⟩
  · have h3 : (lo : Int) ≤ (m : Int) := by omega
    have h4 : (m : Int) ≤ (cap : Int) := by omega
    go_simp
  · rw [List.length_drop, hl]; omega
  · rw [if_neg (by omega)]
    refine ⟨b, off + lo, rfl, hS, hlt, fun j u hu => ?_⟩
    rw [List.getElem?_drop] at hu
    rw [Nat.add_assoc]
    exact hcell _ u hu
theorem Cs.pre {w : World} {S : Nat → Prop} {A : Option Addr} {m cap : Nat} {xs : List Value} (h : Cs w S 1 (.slice A m cap) m xs) (k : Nat) (hk : k ≤ m) : Cs w S 1 (.slice A k k) k (xs.take k) := by
  obtain ⟨hl, A0, cap0, e, hn, hc, hp⟩ := h
  injection e with e0 _ e2
  subst e0 e2
  refine ⟨by rw [List.length_take, hl]; omega, _, _, rfl, Nat.le_refl _, by omega, fun h0 => ?_⟩
  obtain ⟨b, off, e, hS, hlt, hcell⟩ := hp (by omega)
  refine ⟨b, off, e, hS, hlt, fun j u hu => ?_⟩
  rw [List.getElem?_take] at hu
  split at hu
  · exact hcell j u hu
  · cases hu
end
section
open Go.RowKit Go.Maps
def SplitOut (w : World) (bs : List UInt8) (e : Ending) (w' : World) : Prop :=
  Below w.heap.size w w' ∧ ((splitB bs = none ∧ e = .returned (.tuple #[.slice none 0 0, .bool false])) ∨ (∃ v' rows, splitB bs = some rows ∧ e = .returned (.tuple #[v', .bool true]) ∧ Bss w' (New w) (New w) v' rows))
theorem SplitOut.no {w w' : World} {bs : List UInt8} (hb : Below w.heap.size w w') (h : splitB bs = none) : SplitOut w bs (.returned (.tuple #[.slice none 0 0, .bool false])) w' := ⟨hb, .inl ⟨h, rfl⟩⟩
theorem cutB_zero (r : List UInt8) (h : 0 < r.length) : cutB 0 r = none := by
  unfold cutB
  rw [if_neg (fun e => by rw [e] at h; simp at h)]
theorem cutB_no (n : Nat) (r : List UInt8) (h : r.length < 8 ∨ r.length - 8 < Lib.beNat (r.take 8)) : cutB (n + 1) r = none := by
  unfold cutB
  rw [if_pos h]
theorem cutB_step (n : Nat) (r : List UInt8) (h : ¬ (r.length < 8 ∨ r.length - 8 < Lib.beNat (r.take 8))) : cutB (n + 1) r = (cutB n (r.drop (8 + Lib.beNat (r.take 8)))).map fun l => (r.drop 8).take (Lib.beNat (r.take 8)) :: l := by
  rw [cutB]
  rw [if_neg h]
theorem wrapI (n : Int) (h0 : -9223372036854775808 ≤ n) (h1 : n ≤ 9223372036854775807) : IntKind.i64.wrap n = n := by
  rw [show IntKind.i64 = nk true from rfl, wrap_s]; split <;> omega
theorem wrapU (n : Int) (h0 : 0 ≤ n) (h1 : n < 18446744073709551616) : IntKind.u64.wrap n = n := by
  rw [show IntKind.u64 = nk false from rfl, wrap_u]; omega
set_option maxHeartbeats 4000000 in
set_option maxRecDepth 100000 in
theorem split_any (w : World) {S : Nat → Prop} {v : Value} {bs : List UInt8} (h : Bs w S v bs) (hlen : bs.length ≤ 1099511627776) :
    Calls Tryz.prog 101 #[v] w (SplitOut w bs) := by
  replace h := h.sub (T := fun b => b < w.heap.size) (fun b _ hlt => hlt)
  obtain ⟨A, cap, rfl⟩ := h.form
  by_cases h8 : bs.length < 8
  · have hno : splitB bs = none := by unfold splitB; rw [if_pos (.inl h8)]
    have HNO := Lib.hid hno; clear hno h
    go_enter Tryz.func101, Tryz.ntmps101
    go_wp2
    go_ret2
    exact SplitOut.no (Below.refl _ _) HNO.out
  · have hu := u64_any w h.1 (by omega)
    obtain ⟨n, hn⟩ : ∃ n, n = Lib.beNat (bs.take 8) := ⟨_, rfl⟩
    rw [← hn] at hu
    obtain ⟨A1, hsl, hcs⟩ := h.1.tail 8 (by omega) (by omega)
    rw [show ((8 : Nat) : Int) = 8 from rfl] at hsl
    have hlt : n < 18446744073709551616 := by rw [hn]; exact beNat_lt8 _ (by rw [List.length_take]; omega)
    obtain ⟨m, hm⟩ : ∃ m, m = bs.length - 8 := ⟨_, rfl⟩
    rw [← hm] at hsl hcs
    obtain ⟨c1, hc1⟩ : ∃ c1, c1 = cap - 8 := ⟨_, rfl⟩
    rw [← hc1] at hsl hcs
    have hsp : splitB bs = if m / 8 < n then none else cutB n (bs.drop 8) := by
      unfold splitB
      rw [← hn, ← hm]
      by_cases h0 : m / 8 < n
      · rw [if_pos h0, if_pos (.inr h0)]
      · rw [if_neg h0, if_neg (by omega)]
    have hmb : m ≤ 1099511627776 := by omega
    have hml : (bs.drop 8).length = m := by rw [List.length_drop, hm]
    rw [show (u8s bs).drop 8 = u8s (bs.drop 8) by simp [u8s, List.map_drop]] at hcs
    have h8' : 8 ≤ bs.length := by omega
    have hbl : bs.length ≤ 1099511627776 := hlen
    obtain ⟨L, hL⟩ : ∃ L, L = bs.length := ⟨_, rfl⟩
    rw [← hL] at hsl hu h8' hbl ⊢
    have HU := Lib.hid hu
    have HN := Lib.hid hn
    have HM := Lib.hid hm
    have HL := Lib.hid hL
    have HML := Lib.hid hml
    have HCS := Lib.hid hcs
    have HSP := Lib.hid hsp
    have hwu := wrapU (m : Int) (by omega) (by omega)
    clear hu hn hm hml hcs hsp hc1 hL h hlen h8
    by_cases hbig : m / 8 < n
    · have hbI : ((m : Int) / 8) < (n : Int) := by omega
      have HSP2 := Lib.hid (HSP.out.trans (if_pos hbig))
      go_enter Tryz.func101, Tryz.ntmps101
      go_wp2_with fail
      refine HU.out.mono ?_
      rintro e w1 ⟨rfl, hw1⟩
      obtain rfl := hw1.symm
      go_wp2_with fail
      go_ret2
      exact SplitOut.no (Below.refl _ _) HSP2.out
    · have hbI : ¬ ((m : Int) / 8) < (n : Int) := by omega
      have HSP2 := Lib.hid (HSP.out.trans (if_neg hbig))
      go_enter Tryz.func101, Tryz.ntmps101
      go_wp2_with fail
      refine HU.out.mono ?_
      rintro e w1 ⟨rfl, hw1⟩
      obtain rfl := hw1.symm
      go_wp2_with fail
      have hnm8 : n ≤ m / 8 := by omega
      go_loopw [0, 5, 21] (fun v o i wr => ∃ (k : Nat) (done : List (List UInt8)) (r : List UInt8), k ≤ n ∧ i = .int .u64 k ∧ Cs wr (fun b => b < w.heap.size) 1 v r.length (u8s r) ∧ r.length ≤ m ∧ Bss wr (New w) (New w) o done ∧ done.length = k ∧ Below w.heap.size w wr ∧ splitB bs = (cutB (n - k) r).map (fun l => done ++ l)) (fun _ _ i _ => n - (intOf i).toNat)
      case atStart => exact ⟨0, [], bs.drop 8, Nat.zero_le _, rfl, by rw [HML.out]; exact HCS.out, Nat.le_of_eq HML.out, Bss.nil_ _ _ _, rfl, Below.refl _ _, by rw [HSP2.out, Nat.sub_zero]; simp⟩
      case round =>
        obtain ⟨k, done, r, hk, rfl, hcr, hrm, hbss, hdk, hbl2, hps⟩ := hrel
        obtain ⟨Ar, cr, rfl⟩ := hcr.form
        obtain ⟨q, hq⟩ : ∃ q, q = r.length := ⟨_, rfl⟩
        rw [← hq] at hcr hrm ⊢
        have HPS := Lib.hid hps; clear hps
        have HDK := Lib.hid hdk; clear hdk
        have HQ := Lib.hid hq; clear hq
        obtain ⟨Ao, co, rfl⟩ := hbss.form
        by_cases hkn : k < n
        · have hnk : n - k = (n - k - 1) + 1 := by omega
          have HNK := Lib.hid hnk; clear hnk
          by_cases hr8 : q < 8
          · have hno := Lib.hid (cutB_no (n - k - 1) r (.inl (by rw [← HQ.out]; exact hr8)))
            clear hbss hcr
            go_wp2
            go_ret2
            exact SplitOut.no hbl2 (by rw [HPS.out, HNK.out, hno.out]; rfl)
          · have hu := u64_any wr (bs := r) (by rw [← HQ.out]; exact hcr) (by rw [← HQ.out]; omega)
            obtain ⟨y, hy⟩ : ∃ y, y = Lib.beNat (r.take 8) := ⟨_, rfl⟩
            rw [← hy] at hu
            have HU := Lib.hid hu; clear hu
            have HY := Lib.hid hy; clear hy
            have hylt : y < 18446744073709551616 := by rw [HY.out]; exact beNat_lt8 _ (by rw [List.length_take, ← HQ.out]; omega)
            have e1 : IntKind.u64.wrap ((q : Int) - 8) = (q : Int) - 8 := wrapU _ (by omega) (by omega)
            by_cases hby : q - 8 < y
            · have hbyI : (q : Int) - 8 < (y : Int) := by omega
              have hno := Lib.hid (cutB_no (n - k - 1) r (.inr (by rw [← HQ.out, ← HY.out]; exact hby)))
              clear hbss hcr
              go_wp2_with fail
              refine HU.out.mono ?_
              rintro e w2 ⟨rfl, rfl⟩
              go_wp2_with fail
              go_ret2
              exact SplitOut.no hbl2 (by rw [HPS.out, HNK.out, hno.out]; rfl)
            · have hbyI : ¬ (q : Int) - 8 < (y : Int) := by omega
              have hst := Lib.hid (cutB_step (n - k - 1) r (by rw [← HQ.out, ← HY.out]; omega))
              go_wp2_with fail
              refine HU.out.mono ?_
              rintro e w2 ⟨rfl, hw2⟩
              obtain rfl := hw2.symm
              have e2 : IntKind.i64.wrap (y : Int) = y := wrapI _ (by omega) (by omega)
              have e3 : IntKind.i64.wrap (8 + (y : Int)) = 8 + (y : Int) := wrapI _ (by omega) (by omega)
              have hnm2 : 8 + y ≤ q := by omega
              obtain ⟨A4, hr4, hc4⟩ := hcr.cut 8 (8 + y) (by omega) hnm2 (by omega)
              obtain ⟨A5, hr5, hc5⟩ := hcr.tail (8 + y) hnm2 (by omega)
              have ec : ((8 + y : Nat) : Int) = 8 + (y : Int) := by push_cast; rfl
              rw [ec] at hr4 hr5
              rw [show ((8 : Nat) : Int) = 8 from rfl] at hr4
              rw [show 8 + y - 8 = y by omega] at hr4 hc4
              have HC4 := Lib.hid hc4; clear hc4
              have HC5 := Lib.hid hc5; clear hc5 ec
              obtain ⟨x, hx⟩ : ∃ x, x = (r.drop 8).take y := ⟨_, rfl⟩
              have hxl : x.length = y := by rw [hx, List.length_take, List.length_drop, ← HQ.out]; omega
              have hxc : ((u8s r).drop 8).take y = u8s x := by rw [hx]; simp [u8s, List.map_take, List.map_drop]
              rw [hxc] at HC4
              have HX := Lib.hid hx; clear hx
              have HXL := Lib.hid hxl; clear hxl hxc
              have HBSS := Lib.hid hbss
              obtain ⟨vs, hoo, hoS, hoR⟩ := hbss
              have hdl : done.length ≤ 274877906944 := by rw [HDK.out]; omega
              have h63 : 0 + y ≤ maxLen := by simp only [maxLen]; omega
              have hby1 : (0 + y) * 1 ≤ 140737488355328 := by omega
              have h63b : done.length + 1 ≤ maxLen := by simp only [maxLen]; omega
              have hby2 : (done.length + 1) * 24 ≤ 140737488355328 := by omega
              have H63 := Lib.hid (And.intro h63 (And.intro hby1 (And.intro h63b hby2))); clear h63 hby1 h63b hby2
              have HOO := Lib.hid hoo; clear hoo
              have HOR := Lib.hid hoR; clear hoR
              have HOS := Lib.hid hoS; clear hoS
              go_wp2_with fail
              refine HU.out.mono ?_
              rintro x1 w3 ⟨rfl, hw3⟩
              obtain rfl := hw3.symm
              clear e1
              go_wp2_with (first
                | (at_builtin; refine wpList_app _ rfl _ _ _ rfl Tryz.underlying22 info_u8 rfl (by decide) (Own.nil_ _ _ _) rfl HC4.out rfl (u8s_one _) H63.out.1 H63.out.2.1 ?_; intro v1 w5 ho5 hc5 hnil5 hat5; clear hnil5
                   have hb5 : Below wr.heap.size wr w5 := hc5.below (Nat.le_refl _) fun b hb => by simp [Value.ownBlock] at hb
                   rw [Nat.zero_add, List.nil_append] at ho5
                   have ho5' : Own w5 5 1 v1 y (u8s x) := ho5
                   clear ho5 hc5
                   obtain ⟨A6, cap6, rfl⟩ := ho5'.form
                   have HO5 := Lib.hid ho5'; clear ho5'
                   have HAT5 := Lib.hid hat5; clear hat5
                   have HO2 := Lib.hid (show ∀ ob, Own (w5.alloc ob) 22 1 (.slice Ao done.length co) done.length vs from fun ob => own_keep HOO.out fun k hk => (Below.heap_alloc w5 ob k (ltle (own_lt HOO.out hk) hb5.size)).trans (hb5.block k (own_lt HOO.out hk)))
                   have HS2 := Lib.hid (Cs.of_new w5 22 (size := 1) 1 (cs := [.slice A6 y cap6]) rfl (by simp only [maxLen]; decide))
                   have HB5 := Lib.hid hb5; clear hb5)
                | (at_builtin; refine wpList_app _ rfl _ _ _ rfl Tryz.underlying121 info_row rfl (by decide) (HO2.out _) rfl HS2.out rfl (by simp [Value.oneCell']) H63.out.2.2.1 H63.out.2.2.2 ?_; intro v2 w6 ho6 hc6 hnil6 hat6; clear hnil6
                   obtain ⟨A7, cap7, rfl⟩ := ho6.form
                   have HO6 := Lib.hid ho6; clear ho6
                   have HC6 := Lib.hid hc6; clear hc6
                   have HAT6 := Lib.hid hat6; clear hat6))
              have hs5 := HB5.out.size
              have hsM := hbl2.size
              have hown5 : ∀ k, (Value.slice A6 y cap6).ownBlock = some k → k = wr.heap.size := fun k hk => by
                rcases HAT5.out with e | e
                · rw [e] at hk; simp [Value.ownBlock] at hk
                · rw [e] at hk; injection hk with hk; exact hk.symm
              have hox : ∀ k, (Value.slice Ao done.length co).ownBlock = some k → k < wr.heap.size := fun k hk => own_lt HOO.out hk
              have hal : w5.heap.size ≤ (w5.alloc (.cells #[.slice A6 y cap6] 22)).heap.size := by simp
              have hbX : Below wr.heap.size wr (w5.alloc (.cells #[.slice A6 y cap6] 22)) := HB5.out.alloc hs5 _
              have hxv : Cs (w5.alloc (.cells #[.slice A6 y cap6] 22)) (fun b => New w b ∧ (Value.slice Ao done.length co).ownBlock ≠ some b) 1 (.slice A6 y cap6) x.length (u8s x) := by
                rw [HXL.out]
                exact (Cs.of_own HO5.out (S := fun b => New w b ∧ (Value.slice Ao done.length co).ownBlock ≠ some b) fun k hk => by
                  have := hown5 k hk
                  subst this
                  exact ⟨hsM, fun e => by have := hox _ e; omega⟩).below ((Below.refl _ w5).alloc (Nat.le_refl _) _)
              have hpush := Bss.push (S := New w) (T := New w) (HO2.out _) HOS.out (fun i y u h1 h2 => (HOR.out i y u h1 h2).below hbX) hxv HO6.out HC6.out HAT6.out (Nat.le_trans hsM (Nat.le_trans hs5 hal))
              have hrl : (r.drop (8 + y)).length = q - (8 + y) := by rw [List.length_drop, ← HQ.out]
              have h1 : Below w.heap.size w (w5.alloc (.cells #[.slice A6 y cap6] 22)) := hbl2.trans (hbX.mono hsM)
              refine ⟨⟨k + 1, done ++ [x], r.drop (8 + y), by omega, by push_cast; rfl, ?_, by rw [hrl]; omega, hpush, by rw [List.length_append, HDK.out]; rfl, h1.trans (HC6.out.below h1.size fun k hk => HOS.out k hk), ?_⟩, ?_⟩
              · have := HC5.out
                rw [show (u8s r).drop (8 + y) = u8s (r.drop (8 + y)) by simp [u8s, List.map_drop]] at this
                rw [hrl]
                exact (this.below hbX).chg HC6.out fun b hb hk => by have := HOS.out b hk; omega
              · rw [HPS.out, HNK.out, hst.out, ← HY.out, ← HX.out, Option.map_map, show n - k - 1 = n - (k + 1) by omega]
                congr 1
                funext l
                simp
              · simp only [intOf]; omega
        · have hkn' : k = n := by omega
          by_cases hr0 : 0 < q
          · have hno := Lib.hid (cutB_zero r (by rw [← HQ.out]; exact hr0))
            clear hbss hcr
            go_wp2
            go_ret2
            exact SplitOut.no hbl2 (by rw [HPS.out, hkn', Nat.sub_self, hno.out]; rfl)
          · have hr : r = [] := List.eq_nil_of_length_eq_zero (by rw [← HQ.out]; omega)
            have HR := Lib.hid hr
            have HB := Lib.hid hbss
            have HKN := Lib.hid hkn'
            clear hbss hcr hr hkn'
            go_wp2
            go_ret2
            exact ⟨hbl2, .inr ⟨_, done, by rw [HPS.out, HKN.out, Nat.sub_self, HR.out]; simp [cutB], rfl, HB.out⟩⟩
end
section
open Go.RowKit Go.Maps
theorem pbytes_any (w : World) {X : Nat → Prop} {E g : Nat} {sent : Value} {x : List UInt8} {rows : List (List UInt8)} {bad : Bool} (h : Pt w X E g sent (x :: rows) bad) :
    Calls Tryz.prog 88 #[.pointer (some ⟨g, 0, none⟩)] w (Took .byt w X E g sent x rows bad) := by
  have H := Lib.hid (next_any w h); clear h
  go_enter Tryz.func88, Tryz.ntmps88
  go_wp2_with fail
  refine H.out.mono ?_
  rintro e w1 ⟨v, rfl, hb, hc, hp⟩
  have h63 : 0 + x.length ≤ maxLen := by have := hb.2; simp only [maxLen]; omega
  have hby : (0 + x.length) * 1 ≤ 140737488355328 := by have := hb.2; omega
  have HB := Lib.hid hb
  have HP := Lib.hid hp
  have HH := Lib.hid (And.intro h63 hby)
  clear hb hp h63 hby
  go_wp2_with (at_builtin; refine wpList_app _ rfl _ _ _ rfl Tryz.underlying22 info_u8 rfl (by decide) (Own.nil_ _ _ _) rfl HB.out.1 rfl (u8s_one _) HH.out.1 HH.out.2 ?_; intro v2 w2 ho2 hc2 hn2 hat2; clear hn2; have HO := Lib.hid ho2; clear ho2; have HC := Lib.hid hc2; clear hc2; have HAT := Lib.hid hat2; clear hat2)
  go_ret
  have hb2 : Below w1.heap.size w1 w2 := HC.out.below (Nat.le_refl _) fun b hb => by simp [Value.ownBlock] at hb
  have ho := HO.out
  rw [Nat.zero_add, List.nil_append] at ho
  have hown : ∀ k, v2.ownBlock = some k → w.heap.size ≤ k := fun k hk => by
    rcases HAT.out with e | e
    · rw [e] at hk; simp [Value.ownBlock] at hk
    · rw [e] at hk; injection hk with hk; have := hc.size; omega
  have hrow : Bs w2 (Nw w.heap.size w2) v2 x := ⟨Cs.of_own ho fun k hk => ⟨hown k hk, own_th ho hk⟩, HB.out.2⟩
  obtain ⟨A2, c2, rfl⟩ := hrow.form
  exact ⟨[.slice A2 x.length c2], bad, rfl, hc.trans (Chg.of_below hb2 fun k => k = g) fun b h => .inl h, HP.out.below hb2, rfl, fun v hv => by obtain rfl := List.mem_singleton.1 hv; rfl, .inl ⟨x, rfl, rfl, _, rfl, hrow⟩⟩
theorem ptruth_any (w : World) {X : Nat → Prop} {E g : Nat} {sent : Value} {x : List UInt8} {rows : List (List UInt8)} {bad : Bool} (h : Pt w X E g sent (x :: rows) bad) :
    Calls Tryz.prog 89 #[.pointer (some ⟨g, 0, none⟩)] w (Took .bool w X E g sent x rows bad) := by
  have H := Lib.hid (sized_any w h 1 (by omega)); clear h
  go_enter Tryz.func89, Tryz.ntmps89
  go_wp2_with fail
  refine H.out.mono ?_
  rintro e w1 ⟨v, y, bad', rfl, hb1, hl1, hc1, hp1, hx⟩
  obtain ⟨c, rfl⟩ : ∃ c, y = [c] := by
    cases y with
    | nil => simp at hl1
    | cons c l => cases l with
      | nil => exact ⟨c, rfl⟩
      | cons d l => simp at hl1
  obtain ⟨⟨_, A, cap, rfl, hn, hcap, hp⟩, _⟩ := hb1
  obtain ⟨b, off, rfl, hS, hlt, hcell⟩ := hp (by simp)
  have hc0 : w1.cell? ⟨b, off, none⟩ = some (.int .u8 c.toNat) := hcell 0 _ rfl
  have HP := Lib.hid hp1
  have HX := Lib.hid hx
  have hc256 := c.toNat_lt
  obtain ⟨m, hm⟩ : ∃ m, m = c.toNat := ⟨_, rfl⟩
  rw [← hm] at hc0 hc256
  have HM := Lib.hid hm
  clear hp1 hx hl1 hp hcell hm
  by_cases h1 : 1 < m
  · obtain ⟨⟨sa, rfl⟩, hgl⟩ := HP.out.1
    have hgl : w1.cell? ⟨gF, 0, none⟩ = some _ := hgl
    unfold gF at hgl
    have hxl := HP.out.2.2.2.1
    have hxE := HP.out.2.2.2.2.1
    have hp2 := HP.out.below ((Below.refl w1.heap.size w1).alloc (Nat.le_refl _) (.cells #[.string ⟨#[97, 32, 116, 114, 117, 116, 104, 32, 118, 97, 108, 117, 101]⟩, .iface 237 (.pointer (some sa))] 158))
    have hch : Chain (w1.alloc (.cells #[.string ⟨#[97, 32, 116, 114, 117, 116, 104, 32, 118, 97, 108, 117, 101]⟩, .iface 237 (.pointer (some sa))] 158)) (fun b => ¬ X b ∧ E ≤ b) _ _ := Chain.fresh _ ⟨fun h => absurd (hxl _ h) (Nat.lt_irrefl _), hxE⟩
    have HB := Lib.hid (bad_any _ hp2 hch)
    have hd : ((m : Int) == 1) = false := by simp; omega
    have h1I : (1 : Int) < m := by omega
    clear hp2 hch hxl hxE H
    go_wp2_with fail
    refine HB.out.mono ?_
    rintro e w2 ⟨rfl, hc2, hp2⟩
    have HP2 := Lib.hid hp2; clear hp2
    go_wp2_with fail
    go_ret
    refine ⟨[.bool false], true, rfl, (hc1.alloc _).trans hc2 fun b h => .inl h, HP2.out, rfl, fun v hv => by obtain rfl := List.mem_singleton.1 hv; rfl, .inr ⟨?_, rfl⟩⟩
    have hd : Sh.bool.dec x = if x = [0] then some false else if x = [1] then some true else none := rfl
    rw [hd]
    have hxx : ∀ k : UInt8, k.toNat ≤ 1 → x ≠ [k] := fun k hk e => by
      rcases HX.out with ⟨_, h2, _⟩ | ⟨h2, _⟩
      · rw [← h2] at e; injection e with e; rw [HM.out, e] at h1; omega
      · rw [e] at h2; exact h2 rfl
    rw [if_neg (hxx 0 (by decide)), if_neg (hxx 1 (by decide))]
  · have h1I : ¬ (1 : Int) < m := by omega
    go_wp2_with fail
    go_ret
    refine ⟨[.bool ((m : Int) == 1)], bad', rfl, hc1, HP.out, rfl, fun v hv => by obtain rfl := List.mem_singleton.1 hv; rfl, ?_⟩
    have hd : Sh.bool.dec x = if x = [0] then some false else if x = [1] then some true else none := rfl
    rw [hd]
    rcases HX.out with ⟨_, h2, h3⟩ | ⟨h2, h3⟩
    · have hm := HM.out
      rcases Nat.lt_or_ge m 1 with h0 | h0
      · have hm0 : m = 0 := by omega
        have hc : c = 0 := by rw [← UInt8.toNat_inj, ← hm, hm0]; rfl
        subst hc
        rw [if_pos h2.symm]
        refine .inl ⟨false, rfl, h3, ?_⟩
        rw [hm0]; rfl
      · have hm0 : m = 1 := by omega
        have hc : c = 1 := by rw [← UInt8.toNat_inj, ← hm, hm0]; rfl
        subst hc
        rw [if_neg (by rw [← h2]; decide), if_pos h2.symm]
        refine .inl ⟨true, rfl, h3, ?_⟩
        rw [hm0]; rfl
    · rw [if_neg (fun e => by rw [e] at h2; exact h2 rfl), if_neg (fun e => by rw [e] at h2; exact h2 rfl)]
      exact .inr ⟨rfl, h3⟩
theorem joinP_mem_le {l : List (List UInt8)} {b : List UInt8} (h : splitB b = some l) : ∀ x ∈ l, x.length ≤ b.length := fun x hx => by
  have h1 := splitB_back h
  have h2 := joinP_mem hx
  rw [← h1, joinB_length]; omega
def Start (w : World) (sent : Value) (b : List UInt8) (n : Nat) (en : Ending) (w' : World) : Prop :=
  ∃ g rows bad, en = .returned (.pointer (some ⟨g, 0, none⟩)) ∧ w.heap.size ≤ g ∧ Below w.heap.size w w' ∧ Pt w' (fun b => b = g) w.heap.size g sent rows bad ∧ rows.length = n ∧ (∀ x ∈ rows, x.length ≤ b.length) ∧ ((bad = false ∧ splitB b = some rows) ∨ (bad = true ∧ ∀ l, splitB b = some l → l.length ≠ n))
theorem run_make_rows (n : Nat) (hn : n ≤ 1048576) (u : World) : (Instr.makeSlice 121 (.int .i64 n) (.int .i64 n)).run Tryz.prog u =
    .ok (.slice (some ⟨u.heap.size, 0, none⟩) n n) (u.alloc (.cells (List.replicate n (.slice none 0 0)).toArray 22)) := by
  obtain ⟨i0, hi, hz0, hz1, hz2⟩ := info_parts info_row
  have h := run_make (P := Tryz.prog) u 121 22 i0 (.slice none 0 0) Tryz.underlying121 hi hz0 .i64 .i64 (n : Int) (n : Int) (by omega) (Int.le_refl _) (by rw [hz2]; omega) (by omega)
  simp only [Int.toNat_natCast] at h
  have e : madeCells (Value.slice none 0 0).cells (n * i0.size) = (List.replicate n (Value.slice none 0 0)).toArray := by
    apply Array.toList_inj.1
    rw [hz1, Nat.mul_one]
    exact toList_madeCells_one _ _
  rw [h, e]
theorem Bsr.empties (w : World) (n : Nat) (hn : n ≤ 1000) (S : Nat → Prop) (hS : S w.heap.size) : Bsr (w.alloc (.cells (List.replicate n (.slice none 0 0)).toArray 22)) S (.slice (some ⟨w.heap.size, 0, none⟩) n n) (List.replicate n []) := by
  have hc := Cs.of_new w 22 (size := 1) n (cs := List.replicate n (.slice none 0 0)) (by simp) (by simp only [maxLen]; omega)
  refine ⟨List.replicate n (.slice none 0 0), by rw [List.length_replicate]; exact hc.sub fun b hb _ => hb ▸ hS, fun i x u h1 h2 => ?_⟩
  rw [List.getElem?_replicate] at h1 h2
  split at h1
  · injection h1 with h1
    rw [if_pos (by assumption)] at h2
    injection h2 with h2
    subst h1 h2
    exact Bs.nil_ _ _
  · cases h1
theorem Start.mk {w W : World} {sent : Value} {bs : List UInt8} {n g : Nat} {v e : Value} {rows : List (List UInt8)} {bad : Bool} (hb : Below w.heap.size w W) (hgw : w.heap.size ≤ g) (hgl : Gl w sent) (hblk : Blk W g 168 #[v, e])
    (hr : Bsr W (fun b => ¬ b = g) v rows) (he : Err W (fun b => ¬ b = g ∧ w.heap.size ≤ b) sent bad e) (hn : rows.length = n) (hx : ∀ x ∈ rows, x.length ≤ bs.length) (hs : (bad = false ∧ splitB bs = some rows) ∨ (bad = true ∧ ∀ l, splitB bs = some l → l.length ≠ n)) :
    Start w sent bs n (.returned (.pointer (some ⟨g, 0, none⟩))) W :=
  ⟨g, rows, bad, rfl, hgw, hb, ⟨hgl.below hb, fun h => by have := hgl.lt; omega, rfl, fun b h => by rw [h]; exact hblk.lt, hb.size, v, e, hblk, hr, he⟩, hn, hx, hs⟩
theorem Bsr.empties' (w : World) (n : Nat) (hn : n ≤ 1000) (S : Nat → Prop) (hS : S w.heap.size) : Bsr (w.alloc (.cells (Array.replicate n (.slice none 0 0)) 22)) S (.slice (some ⟨w.heap.size, 0, none⟩) n n) (List.replicate n []) := by
  have := Bsr.empties w n hn S hS
  rwa [List.toArray_replicate] at this
theorem Start.bad1 {w w1 : World} {sent : Value} {bs : List UInt8} {n : Nat} (what : Value) (hb : Below w.heap.size w w1) (hg : Gl w sent) (hn : n ≤ 1000) (hs : ∀ l, splitB bs = some l → l.length ≠ n) :
    Start w sent bs n (.returned (.pointer (some ⟨w1.heap.size + 1 + 1, 0, none⟩))) (((w1.alloc (.cells (Array.replicate n (.slice none 0 0)) 22)).alloc (.cells #[what, sent] 158)).alloc (.cells #[.slice (some ⟨w1.heap.size, 0, none⟩) n n, .iface 154 (.pointer (some ⟨w1.heap.size + 1, 0, none⟩))] 168)) := by
  have h1 := Bsr.empties' w1 n hn (fun b => b = w1.heap.size) rfl
  obtain ⟨wa, hwa⟩ : ∃ wa, wa = w1.alloc (.cells (Array.replicate n (.slice none 0 0)) 22) := ⟨_, rfl⟩
  have hsa : wa.heap.size = w1.heap.size + 1 := by rw [hwa]; simp
  have hba : Below w.heap.size w wa := hwa ▸ hb.alloc hb.size _
  have h2 := Chain.fresh (w := wa) (sent := sent) (S := fun b => b = wa.heap.size) what rfl
  rw [← hwa] at h1 ⊢
  obtain ⟨wb, hwb⟩ : ∃ wb, wb = wa.alloc (.cells #[what, sent] 158) := ⟨_, rfl⟩
  have hsb : wb.heap.size = wa.heap.size + 1 := by rw [hwb]; simp
  have hbb : Below wa.heap.size wa wb := hwb ▸ (Below.refl _ wa).alloc (Nat.le_refl _) _
  rw [← hwb] at h2 ⊢
  have hbc : ∀ o, Below wb.heap.size wb (wb.alloc o) := fun o => (Below.refl _ wb).alloc (Nat.le_refl _) o
  have hk := Blk.new wb 168 #[.slice (some ⟨w1.heap.size, 0, none⟩) n n, .iface 154 (.pointer (some ⟨w1.heap.size + 1, 0, none⟩))]
  have := hb.size
  rw [hsb, hsa] at hk
  rw [hsa] at h2
  exact Start.mk ((hba.trans (hbb.mono hba.size)).alloc (Nat.le_trans hba.size hbb.size) _) (by omega) hg hk (((h1.below hbb).below (hbc _)).subs fun b hb _ h => by omega)
    (.inr ⟨rfl, (h2.low (hbc _)).sub fun b hb _ => ⟨fun h => by omega, by omega⟩⟩) (by simp) (fun x hx => by rw [List.eq_of_mem_replicate hx]; simp) (.inr ⟨rfl, hs⟩)
theorem Start.bad2 {w w1 : World} {sent : Value} {bs : List UInt8} {n : Nat} (what : Value) (hb : Below w.heap.size w w1) (hg : Gl w sent) (hn : n ≤ 1000) (hs : ∀ l, splitB bs = some l → l.length ≠ n) :
    Start w sent bs n (.returned (.pointer (some ⟨w1.heap.size + 1 + 1, 0, none⟩))) (((w1.alloc (.cells #[what, sent] 158)).alloc (.cells (Array.replicate n (.slice none 0 0)) 22)).alloc (.cells #[.slice (some ⟨w1.heap.size + 1, 0, none⟩) n n, .iface 154 (.pointer (some ⟨w1.heap.size, 0, none⟩))] 168)) := by
  have h2 := Chain.fresh (w := w1) (sent := sent) (S := fun b => b = w1.heap.size) what rfl
  obtain ⟨wa, hwa⟩ : ∃ wa, wa = w1.alloc (.cells #[what, sent] 158) := ⟨_, rfl⟩
  have hsa : wa.heap.size = w1.heap.size + 1 := by rw [hwa]; simp
  have hba : Below w.heap.size w wa := hwa ▸ hb.alloc hb.size _
  have h1 := Bsr.empties' wa n hn (fun b => b = wa.heap.size) rfl
  rw [← hwa] at h2 ⊢
  obtain ⟨wb, hwb⟩ : ∃ wb, wb = wa.alloc (.cells (Array.replicate n (.slice none 0 0)) 22) := ⟨_, rfl⟩
  have hsb : wb.heap.size = wa.heap.size + 1 := by rw [hwb]; simp
  have hbb : Below wa.heap.size wa wb := hwb ▸ (Below.refl _ wa).alloc (Nat.le_refl _) _
  rw [← hwb] at h1 ⊢
  have hbc : ∀ o, Below wb.heap.size wb (wb.alloc o) := fun o => (Below.refl _ wb).alloc (Nat.le_refl _) o
  have hk := Blk.new wb 168 #[.slice (some ⟨w1.heap.size + 1, 0, none⟩) n n, .iface 154 (.pointer (some ⟨w1.heap.size, 0, none⟩))]
  have := hb.size
  rw [hsb, hsa] at hk
  rw [hsa] at h1
  exact Start.mk ((hba.trans (hbb.mono hba.size)).alloc (Nat.le_trans hba.size hbb.size) _) (by omega) hg hk ((h1.below (hbc _)).subs fun b hb _ h => by omega)
    (.inr ⟨rfl, ((h2.low hbb).low (hbc _)).sub fun b hb _ => ⟨fun h => by omega, by omega⟩⟩) (by simp) (fun x hx => by rw [List.eq_of_mem_replicate hx]; simp) (.inr ⟨rfl, hs⟩)
theorem Start.drew {w W : World} {sent : Value} {bs : List UInt8} {n : Nat} {e : Ending} (h : Start w sent bs n e W) : Start w sent bs n e W.drew := by
  obtain ⟨g, rows, bad, h1, h2, h3, h4, h5⟩ := h
  exact ⟨g, rows, bad, h1, h2, h3.drew, h4.below (Below.refl _ W).drew, h5⟩
set_option maxRecDepth 100000 in
theorem psplit_any (w : World) {S : Nat → Prop} {v sent : Value} {bs : List UInt8} (h : Bs w S v bs) (hlen : bs.length ≤ 1099511627776) (hg : Gl w sent) (n : Nat) (hn : n ≤ 1000) (what : ByteArray) :
    Calls Tryz.prog 73 #[v, .int .i64 n, .string what] w (Start w sent bs n) := by
  have H := Lib.hid (split_any w h hlen)
  obtain ⟨A, cap, rfl⟩ := h.form
  have HG := Lib.hid hg
  clear h hg
  go_enter Tryz.func73, Tryz.ntmps73
  go_wp2_with fail
  refine H.out.mono ?_
  rintro e w1 ⟨hb1, ⟨hno, rfl⟩ | ⟨v1, rows, hsp, rfl, hbss⟩⟩
  · have HNO := Lib.hid hno; clear hno
    obtain ⟨⟨sa, rfl⟩, hgl⟩ := HG.out.below hb1
    have hgl : w1.cell? ⟨gF, 0, none⟩ = some _ := hgl
    unfold gF at hgl
    have hmk := run_make_rows n (by omega)
    have hg1 : 1 < w1.heap.size := (HG.out.below hb1).lt
    go_wp2_with fail
    go_region
    · go_wp2
      go_ret
      exact Start.drew <| Start.bad1 _ hb1 HG.out hn fun l hl => by rw [HNO.out] at hl; cases hl
    · go_wp2
      go_ret
      exact Start.drew <| Start.bad2 _ hb1 HG.out hn fun l hl => by rw [HNO.out] at hl; cases hl
  · have hlr : ∀ x ∈ rows, x.length ≤ 140737488355328 := fun x hx => by have := joinP_mem_le hsp x hx; omega
    have HSP := Lib.hid hsp; clear hsp
    obtain ⟨A1, c1, rfl⟩ := hbss.form
    have HB := Lib.hid (hbss.read hlr)
    clear hbss hlr
    by_cases hl : rows.length = n
    · have HL := Lib.hid hl
      have hd : (((rows.length : Nat) : Int) != (n : Int)) = false := by simp [hl]
      clear hl
      go_wp2_with fail
      go_ret
      have hal := (Below.refl w1.heap.size w1).alloc (Nat.le_refl _) (.cells #[.slice A1 rows.length c1, .nilIface] 168)
      have := hb1.size
      exact Start.mk (hb1.trans (hal.mono this)) this HG.out (Blk.new w1 _ _) ((HB.out.lt_ (T := fun _ => True) fun _ _ => trivial).below hal |>.subs fun b hb _ h => by omega) (.inl ⟨rfl, rfl⟩) HL.out (joinP_mem_le HSP.out) (.inl ⟨rfl, HSP.out⟩)
    · have HL := Lib.hid hl
      have hd : (((rows.length : Nat) : Int) != (n : Int)) = true := by simp; omega
      clear hl
      obtain ⟨⟨sa, rfl⟩, hgl⟩ := HG.out.below hb1
      have hgl : w1.cell? ⟨gF, 0, none⟩ = some _ := hgl
      unfold gF at hgl
      have hmk := run_make_rows n (by omega)
      have hg1 : 1 < w1.heap.size := (HG.out.below hb1).lt
      go_wp2_with fail
      go_region
      · go_wp2
        go_ret
        exact Start.drew <| Start.bad1 _ hb1 HG.out hn fun l hl => by rw [HSP.out] at hl; injection hl with hl; rw [← hl]; exact HL.out
      · go_wp2
        go_ret
        exact Start.drew <| Start.bad2 _ hb1 HG.out hn fun l hl => by rw [HSP.out] at hl; injection hl with hl; rw [← hl]; exact HL.out
end
end Go.Proofs.YtjjgmkfkmckkoaaGreatDoor
