/- The network and the reference's, side by side. -/
import Derived.Test.YthlebfhljmcedaaNetX
import Derived.Test.YthlebfhljmcedaaNetG
namespace Go.Proofs.Ythlebfhljmcedaa
open Go.RowKit

/-- Both lie in what is new since w0, apart from each other. -/
structure Two (w0 w : World) (p q : Nat) (S B S2 : Nat → Prop) (N M : NS) : Prop where
  net : NetI w p S B N
  ref : RefI w q S2 M
  below : Below w0.heap.size w0 w
  newS : ∀ b, S b → w0.heap.size ≤ b
  newB : ∀ b, B b → w0.heap.size ≤ b
  new2 : ∀ b, S2 b → w0.heap.size ≤ b
  apart : ∀ b, S2 b → ¬ S b ∧ ¬ B b

section
variable {w0 w w' : World} {p q : Nat} {S B S2 S' B' S2' : Nat → Prop} {N N' M M' : NS}
theorem Two.chg {X : Nat → Prop} (h : Two w0 w p q S B S2 N M) (hc : Chg X w w') (hX : ∀ b, X b → w0.heap.size ≤ b ∧ ¬ S b ∧ ¬ B b ∧ ¬ S2 b) : Two w0 w' p q S B S2 N M :=
  ⟨h.net.chg hc (fun b hb hx => hb.elim (hX b hx).2.1 (hX b hx).2.2.1), h.ref.chg hc (fun b hb hx => (hX b hx).2.2.2 hb), h.below.trans (hc.below h.below.size (fun b hb => (hX b hb).1)), h.newS, h.newB, h.new2, h.apart⟩
theorem Two.alloc (h : Two w0 w p q S B S2 N M) (o : Obj) : Two w0 (w.alloc o) p q S B S2 N M := h.chg (X := fun _ => False) ((Chg.refl _ w).alloc o) (fun _ h => h.elim)
theorem Two.next (h : Two w0 w p q S B S2 N M) (hb : Below w.heap.size w w') : Two w0 w' p q S B S2 N M := h.chg (X := fun _ => False) (Chg.of_below hb _) (fun _ h => h.elim)
theorem Two.netTo (h : Two w0 w p q S B S2 N M) (hn : NetI w' p S' B' N') (hu : Upd S B w w' S' B') : Two w0 w' p q S' B' S2 N' M :=
  have hlt : ∀ b, S2 b → b < w.heap.size := h.ref.2.1
  have hsz := h.below.size
  ⟨hn, h.ref.chg hu.1 (fun b hb => (h.apart b hb).1), h.below.trans (hu.1.below hsz h.newS), fun b hb => (hu.2.1 b hb).elim (h.newS b) (Nat.le_trans hsz), fun b hb => (hu.2.2 b hb).elim (h.newB b) (Nat.le_trans hsz), h.new2,
    fun b hb => ⟨fun hs => (hu.2.1 b hs).elim (h.apart b hb).1 (fun hh => by have := hlt b hb; omega), fun hs => (hu.2.2 b hs).elim (h.apart b hb).2 (fun hh => by have := hlt b hb; omega)⟩⟩
theorem Two.refTo (h : Two w0 w p q S B S2 N M) (hr : RefI w' q S2' M') (hu : Upd S2 Nil_ w w' S2' Nil_) : Two w0 w' p q S B S2' N M' :=
  have hlt := h.net.lt
  have hsz := h.below.size
  ⟨h.net.chg hu.1 (fun b hb h2 => hb.elim (h.apart b h2).1 (h.apart b h2).2), hr, h.below.trans (hu.1.below hsz h.new2), h.newS, h.newB, fun b hb => (hu.2.1 b hb).elim (h.new2 b) (Nat.le_trans hsz),
    fun b hb => (hu.2.1 b hb).elim (h.apart b) (fun hh => ⟨fun hs => by have := hlt b (.inl hs); omega, fun hs => by have := hlt b (.inr hs); omega⟩)⟩
theorem Two.p_ne (h : Two w0 w p q S B S2 N M) : w0.heap.size ≤ p := h.newS p h.net.1

theorem RefI.new (w : World) (m : Int) : RefI (w.alloc (.cells #[.slice none 0 0, .int .i64 m, .int .i64 0] 29)) w.heap.size (fun b => b = w.heap.size) ⟨m, 0, []⟩ :=
  ⟨rfl, fun b hb => by simp; omega, .slice none 0 0, Blk.new w _ _, Own.nil_ _ _ _, fun k hk => by simp [Value.ownBlock] at hk⟩

theorem rsend_to {i e fr rc : Int} {body : List UInt8} (h : RefI w q S N) (hN : N.add fr rc body = (N', i, e)) (hl1 : 0 ≤ N.last) (hl2 : N.last ≤ 1000000000000000) (hsz : (N.l.length + 1) * 40 ≤ 140737488355328) :
    Calls Try.prog 11 #[.pointer (some ⟨q, 0, none⟩), .int .i64 fr, .int .i64 rc, .string (str body)] w fun r w' => r = .returned (.tuple #[.int .i64 i, .int .i64 e]) ∧ ∃ S', RefI w' q S' N' ∧ Upd S Nil_ w w' S' Nil_ := by
  have := rsend_any q S N fr rc body w h hl1 hl2 hsz
  rw [hN] at this
  exact this
theorem rtake_to {k e : Int} {x : It} (h : RefI w q S N) (hN : N.take k = (N', x, e)) (hsz : N.l.length * 40 ≤ 140737488355328) :
    Calls Try.prog 13 #[.pointer (some ⟨q, 0, none⟩), .int .i64 k] w fun r w' => r = .returned (.tuple #[.agg #[.int .i64 x.id, .int .i64 x.fr, .int .i64 x.rc, .string (str x.body)], .int .i64 e]) ∧ ∃ S', RefI w' q S' N' ∧ Upd S Nil_ w w' S' Nil_ := by
  have := rtake_any q S N k w h hsz
  rw [hN] at this
  exact this
theorem rdouble_to {k i e : Int} (h : RefI w q S N) (hN : N.double k = (N', i, e)) (hl1 : 0 ≤ N.last) (hl2 : N.last ≤ 1000000000000000) (hsz : (N.l.length + 1) * 40 ≤ 140737488355328) :
    Calls Try.prog 17 #[.pointer (some ⟨q, 0, none⟩), .int .i64 k] w fun r w' => r = .returned (.tuple #[.int .i64 i, .int .i64 e]) ∧ ∃ S', RefI w' q S' N' ∧ Upd S Nil_ w w' S' Nil_ := by
  have := rdouble_any q S N k w h hl1 hl2 hsz
  rw [hN] at this
  exact this
end

/-- The numbers behind j steps. -/
def Few (j : Nat) (N : NS) : Prop := 0 ≤ N.last ∧ N.last ≤ j ∧ N.l.length ≤ j
theorem Few.next {j : Nat} {N : NS} (h : Few j N) : Few (j + 1) N := by obtain ⟨h1, h2, h3⟩ := h; exact ⟨h1, by omega, by omega⟩
theorem Few.add {j : Nat} {N N' : NS} {fr rc i e : Int} {body : List UInt8} (h : Few j N) (hN : N.add fr rc body = (N', i, e)) : Few (j + 1) N' := by
  obtain ⟨h1, h2, h3⟩ := h
  rcases N.add_cases fr rc body with ⟨_, e0⟩ | ⟨_, e0⟩ <;> rw [e0] at hN <;> injection hN with hN _ <;> subst hN
  · exact ⟨h1, by omega, by omega⟩
  · exact ⟨by simp; omega, by simp; omega, by simp; omega⟩
theorem Few.take {j : Nat} {N N' : NS} {k e : Int} {x : It} (h : Few j N) (hN : N.take k = (N', x, e)) : Few (j + 1) N' := by
  obtain ⟨h1, h2, h3⟩ := h
  rcases N.take_cases k with ⟨_, e0⟩ | ⟨i, x, _, _, _, e0⟩ <;> rw [e0] at hN <;> injection hN with hN _ <;> subst hN
  · exact ⟨h1, by omega, by omega⟩
  · have hl : (N.l.eraseIdx i).length ≤ N.l.length := List.length_eraseIdx_le N.l i
    exact ⟨h1, by simp; omega, by simp; omega⟩
theorem Few.double {j : Nat} {N N' : NS} {k i e : Int} (h : Few j N) (hN : N.double k = (N', i, e)) : Few (j + 1) N' := by
  rcases N.double_cases k with ⟨_, e0⟩ | ⟨i, x, _, _, _, e0⟩
  · rw [e0] at hN; injection hN with hN _; subst hN; exact h.next
  · rw [e0] at hN; exact h.add hN

end Go.Proofs.Ythlebfhljmcedaa
