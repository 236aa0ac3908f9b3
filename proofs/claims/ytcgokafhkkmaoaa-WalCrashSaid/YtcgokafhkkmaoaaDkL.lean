/- Disk: what stays true of a disk; its calls in one word each. -/
import Derived.Test.YtcgokafhkkmaoaaDkK
namespace Go.Proofs.Ytcgokafhkkmaoaa
open Go.RowKit Go.Maps

theorem DS.begins_fuse (D : DS) (h1 : -1 ≤ D.fuse) (h2 : D.fuse ≤ 9223372036854775807) : -1 ≤ D.begins.1.fuse ∧ D.begins.1.fuse ≤ 9223372036854775807 := by
  unfold DS.begins; split
  · exact ⟨h1, h2⟩
  · split
    · exact ⟨by simp, by simp⟩
    · split <;> simp only <;> omega

/-- B writes were made at most. -/
structure DS.Fine (D : DS) (B : Nat) : Prop where
  ok : D.Ok
  fuse1 : -1 ≤ D.fuse
  fuse2 : D.fuse ≤ 9223372036854775807
  names : ∀ x ∈ D.loose, (Lit.int .i64 x.1).wf = true
  size : D.entries + D.loose.length ≤ B

theorem DS.Fine.begins {D : DS} {B : Nat} (h : D.Fine B) : D.begins.1.Fine B := by
  obtain ⟨_, _, e1, e2, e3⟩ := D.begins_same
  obtain ⟨f1, f2⟩ := D.begins_fuse h.fuse1 h.fuse2
  exact ⟨⟨by rw [e2]; exact h.ok.1, by rw [e1]; exact h.ok.2⟩, f1, f2, by rw [e2]; exact h.names, by rw [e2, e3]; exact h.size⟩
theorem DS.Fine.more {D : DS} {B C : Nat} (h : D.Fine B) (hc : B ≤ C) : D.Fine C := ⟨h.ok, h.fuse1, h.fuse2, h.names, Nat.le_trans h.size hc⟩
theorem DS.Fine.write {D : DS} {B : Nat} (h : D.Fine B) {n : Int} (hn : (Lit.int .i64 n).wf = true) {l : List Int} (hl : l.length = 256) : (D.write n l).1.Fine (B + 1) := by
  have hb := h.begins
  unfold DS.write
  split
  · exact hb.more (by omega)
  · split
    · exact hb.more (by omega)
    · split
      · exact hb.more (by omega)
      · refine ⟨⟨fun x hx => ?_, hb.ok.2⟩, hb.fuse1, hb.fuse2, fun x hx => ?_, ?_⟩
        · rcases List.mem_append.1 hx with hx | hx
          · exact hb.ok.1 x hx
          · obtain rfl := List.mem_singleton.1 hx; exact hl
        · rcases List.mem_append.1 hx with hx | hx
          · exact hb.names x hx
          · obtain rfl := List.mem_singleton.1 hx; exact hn
        · have := hb.size
          simp only [List.length_append, List.length_singleton]
          omega
theorem OkF.puts : ∀ (l : List (Int × List Int)) (f : Int → Option (List Int)), OkF f → (∀ x ∈ l, x.2.length = 256) → OkF (l.foldl putF f)
  | [], _, h, _ => h
  | x :: r, _, h, hl => OkF.puts r _ (h.put (hl x (List.mem_cons_self ..))) fun y hy => hl y (List.mem_cons_of_mem _ hy)
theorem DS.Fine.sync {D : DS} {B : Nat} (h : D.Fine B) : D.sync.1.Fine B := by
  have hb := h.begins
  unfold DS.sync
  split
  · exact hb
  · exact ⟨⟨(fun x hx => by cases hx), OkF.puts _ _ hb.ok.2 hb.ok.1⟩, hb.fuse1, hb.fuse2, (fun x hx => by cases hx), hb.size⟩
theorem DS.Fine.room {D : DS} {B : Nat} (h : D.Fine B) (n : Int) : ({ D with room := n } : DS).Fine B := ⟨h.ok, h.fuse1, h.fuse2, h.names, h.size⟩
theorem DS.Fine.arm {D : DS} {B : Nat} (h : D.Fine B) {n : Int} (hn : (Lit.int .i64 n).wf = true) : ({ D with fuse := max n (-1) } : DS).Fine B := by
  have hn' : n ≤ 9223372036854775807 := by
    simp only [Lit.wf, IntKind.min, IntKind.max, IntKind.signed, IntKind.bits, Bool.and_eq_true] at hn
    simp at hn
    omega
  exact ⟨h.ok, by simp only; omega, by simp only; omega, h.names, h.size⟩
theorem DS.Fine.new (n : Int) : (DS.new n).Fine 0 := ⟨⟨(fun x hx => by cases hx), (fun i l h => by cases h)⟩, by simp [DS.new], by simp [DS.new], (fun x hx => by cases hx), by simp [DS.new]⟩
theorem DS.Fine.up {D : DS} {B : Nat} (h : D.Fine B) (keep : List Bool) (torn : Int) : (D.up keep torn).Fine B :=
  ⟨⟨(fun x hx => by cases hx), OkF.ups _ _ _ _ h.ok.2 (fun x hx => by
      obtain ⟨i, hi, e⟩ := List.getElem_of_mem hx
      rw [← e, List.getElem_zipIdx]
      exact h.ok.1 _ (keptOf_mem (List.getElem_mem _)))⟩, by simp [DS.up], by simp [DS.up], (fun x hx => by cases hx), h.size⟩

/-- A disk of this call's own (what it may write is new since w0), of at most B writes. -/
structure Dk (w0 w : World) (p : Nat) (S : Nat → Prop) (D : DS) (B : Nat) : Prop where
  is : DiskI w p S D
  new : ∀ b, S b → w0.heap.size ≤ b
  fine : D.Fine B

section
variable {w0 w w' : World} {p : Nat} {S T : Nat → Prop} {D : DS} {B : Nat}
theorem Dk.chg (h : Dk w0 w p S D B) (hc : Chg T w w') (hd : ∀ b, S b → ¬ T b) : Dk w0 w' p S D B := ⟨h.is.chg hc hd, h.new, h.fine⟩
theorem Dk.below (h : Dk w0 w p S D B) (hb : Below w.heap.size w w') : Dk w0 w' p S D B := ⟨h.is.below hb, h.new, h.fine⟩
theorem Dk.alloc (h : Dk w0 w p S D B) (o : Obj) : Dk w0 (w.alloc o) p S D B := ⟨h.is.alloc o, h.new, h.fine⟩
theorem Dk.drew (h : Dk w0 w p S D B) : Dk w0 w.drew p S D B := ⟨h.is.keep (Nat.le_refl _) (fun _ _ => rfl), h.new, h.fine⟩
theorem Dk.lt (h : Dk w0 w p S D B) : ∀ b, S b → b < w.heap.size := h.is.2.1
theorem Dk.more (h : Dk w0 w p S D B) {C : Nat} (hc : B ≤ C) : Dk w0 w p S D C := ⟨h.is, h.new, h.fine.more hc⟩
theorem Dk.out (h : Dk w0 w p S D B) (hc : Chg S w w') (hb : Below w0.heap.size w0 w) : Below w0.heap.size w0 w' := hb.trans (hc.below hb.size h.new)

theorem new_dk (n : Int) (h1 : 1 ≤ n) (h2 : n ≤ 4096) (w0 w : World) (hb : w0.heap.size ≤ w.heap.size) :
    Calls Try.prog 7 #[.int .i64 n] w fun e w' => ∃ p S, e = .returned (.pointer (some ⟨p, 0, none⟩)) ∧ Dk w0 w' p S (DS.new n) 0 ∧ Below w.heap.size w w' ∧ ∀ b, S b → w.heap.size ≤ b := by
  refine (dnew_any n h1 h2 w).mono ?_
  rintro e w' ⟨p, S, rfl, h, hbe, hS⟩
  exact ⟨p, S, rfl, ⟨h, fun b hb' => Nat.le_trans hb (hS b hb'), DS.Fine.new n⟩, hbe, hS⟩
set_option maxRecDepth 100000 in
theorem write_dk (h : Dk w0 w p S D B) (hb : w0.heap.size ≤ w.heap.size) {n : Int} (hn : (Lit.int .i64 n).wf = true) {l : List Int} (hl : l.length = 256) (hB : (B + 1) * 264 ≤ 140737488355328) :
    Calls Try.prog 14 #[.pointer (some ⟨p, 0, none⟩), .int .i64 n, .agg (cu8 l).toArray] w fun e w' => e = .returned (.int .i64 (D.write n l).2) ∧ ∃ S', Dk w0 w' p S' (D.write n l).1 (B + 1) ∧ Chg S w w' ∧ ∀ b, S' b → S b ∨ w.heap.size ≤ b := by
  have hs := h.fine.size
  have hf1 := h.fine.fuse1
  refine (write_any p S D n l hl w h.is (by omega) h.fine.fuse2 (by omega)).mono ?_
  rintro e w' ⟨rfl, S', h', hc, hS'⟩
  exact ⟨rfl, S', ⟨h', fun b hb' => (hS' b hb').elim (h.new b) (fun hk => Nat.le_trans hb hk), h.fine.write hn hl⟩, hc, hS'⟩
set_option maxRecDepth 100000 in
theorem sync_dk (h : Dk w0 w p S D B) (hB : (B + 1) * 264 ≤ 140737488355328) :
    Calls Try.prog 24 #[.pointer (some ⟨p, 0, none⟩)] w fun e w' => e = .returned (.int .i64 D.sync.2) ∧ Dk w0 w' p S D.sync.1 B ∧ Chg S w w' := by
  have hs := h.fine.size
  have hf1 := h.fine.fuse1
  refine (sync_any p S D w h.is h.fine.ok (by omega) h.fine.fuse2 h.fine.names (by simp only [maxLen]; omega) (by omega)).mono ?_
  rintro e w' ⟨rfl, h', hc⟩
  exact ⟨rfl, ⟨h', h.new, h.fine.sync⟩, hc⟩
theorem room_dk (h : Dk w0 w p S D B) (n : Int) :
    Calls Try.prog 12 #[.pointer (some ⟨p, 0, none⟩), .int .i64 n] w fun e w' => e = .returned (.tuple #[]) ∧ Dk w0 w' p S { D with room := max n 0 } B ∧ Chg S w w' := by
  refine (room_any p S D n w h.is).mono ?_
  rintro e w' ⟨rfl, h', hc⟩
  exact ⟨rfl, ⟨h', h.new, h.fine.room _⟩, hc⟩
theorem arm_dk (h : Dk w0 w p S D B) {n : Int} (hn : (Lit.int .i64 n).wf = true) :
    Calls Try.prog 17 #[.pointer (some ⟨p, 0, none⟩), .int .i64 n] w fun e w' => e = .returned (.tuple #[]) ∧ Dk w0 w' p S { D with fuse := max n (-1) } B ∧ Chg S w w' := by
  refine (arm_any p S D n w h.is).mono ?_
  rintro e w' ⟨rfl, h', hc⟩
  exact ⟨rfl, ⟨h', h.new, h.fine.arm hn⟩, hc⟩
set_option maxRecDepth 100000 in
theorem up_dk (h : Dk w0 w p S D B) {T : Nat → Prop} {keep : List Bool} {v : Value} (hk : Cs w T 1 v keep.length (bools keep)) (torn : Int) (hB : (B + 1) * 264 ≤ 140737488355328) :
    Calls Try.prog 19 #[.pointer (some ⟨p, 0, none⟩), v, .int .i64 torn] w fun e w' => e = .returned (.tuple #[]) ∧ Dk w0 w' p S (D.up keep torn) B ∧ Chg S w w' := by
  have hs := h.fine.size
  refine (up_any p S T D keep torn v w h.is h.fine.ok hk h.fine.names (by simp only [maxLen]; omega) (by omega)).mono ?_
  rintro e w' ⟨rfl, h', hc⟩
  exact ⟨rfl, ⟨h', h.new, h.fine.up _ _⟩, hc⟩
set_option maxRecDepth 100000 in
theorem read_dk (h : Dk w0 w p S D B) {n : Int} (hn : (Lit.int .i64 n).wf = true) (hB : (B + 1) * 264 ≤ 140737488355328) :
    Calls Try.prog 27 #[.pointer (some ⟨p, 0, none⟩), .int .i64 n] w fun e w' => e = .returned (.tuple #[.agg (cu8 (D.read n).1).toArray, .int .i64 (D.read n).2]) ∧ Below w.heap.size w w' := by
  have hs := h.fine.size
  exact read_any p S D n w h.is h.fine.ok hn (by omega)
set_option maxRecDepth 100000 in
theorem DS.Fine.read_length {D : DS} {B : Nat} (h : D.Fine B) (n : Int) : (D.read n).1.length = 256 := by
  unfold DS.read
  split
  · simp only [noughts, List.length_replicate]
  · split
    · simp only [noughts, List.length_replicate]
    · exact (OkF.puts _ _ h.ok.2 h.ok.1).got n
end

end Go.Proofs.Ytcgokafhkkmaoaa
