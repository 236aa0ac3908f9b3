/- DiskFirm: the plain law; wrote. -/
import Derived.Test.YthmjgcmaoniejaaDkP
namespace Go.Proofs.Ythmjgcmaoniejaa
open Go.RowKit Go.Maps

/-- wrote, a step further. -/
def wroteStep (n : Int) (out : Bool) (g : KSt) : Bool := if g.kind.tmod 3 = 0 ∧ g.n = n then true else if g.kind.tmod 3 = 2 then false else out
def wroteF (gs : List KSt) (n : Int) : Bool := gs.foldl (wroteStep n) false
theorem wroteF_succ (gs : List KSt) (n : Int) {j : Nat} (h : j < gs.length) : wroteF (gs.take (j + 1)) n = wroteStep n (wroteF (gs.take j) n) gs[j] := by
  unfold wroteF
  rw [List.take_succ_eq_append_getElem h, List.foldl_append]
  rfl

theorem wrote_any (A : Option Addr) (cap : Nat) (gs : List KSt) (n : Int) (w : World) {S : Nat → Prop} (h : Cs w S 4 (.slice A gs.length cap) gs.length (flatK gs)) (hsz : gs.length ≤ 1048576) :
    Calls Try.prog 21 #[.slice A gs.length cap, .int .i64 n] w fun e w' => e = .returned (.bool (wroteF gs n)) ∧ w' = w := by
  go_enter Try.func21, Try.ntmps21
  go_wp2
  go_loopw [5, 6] (fun o i wr => wr = w ∧ ∃ j : Nat, j ≤ gs.length ∧ i = .int .i64 j ∧ o = .bool (wroteF (gs.take j) n)) (fun _ i _ => gs.length - (intOf i).toNat)
  case atStart => exact ⟨rfl, 0, Nat.zero_le _, rfl, rfl⟩
  case round =>
    obtain ⟨rfl, j, hj, rfl, rfl⟩ := hrel
    by_cases hlt : j < gs.length
    · have hs := wroteF_succ gs n hlt
      obtain ⟨b, off, rfl, _, hbl, q0, q1, q2, q3⟩ := ksteps_at h hlt
      generalize hg : gs[j] = g at *
      clear hg
      generalize wroteF (gs.take j) n = o at *
      have hs := Lib.hid hs
      cases h0 : g.kind.tmod 3 == 0
      · cases h2 : g.kind.tmod 3 == 2
        · go_wp2
          refine ⟨⟨trivial, j + 1, by omega, by go_num, ?_⟩, by simp [intOf]; omega⟩
          rw [hs.out]; unfold wroteStep
          rw [if_neg (fun h => by simp [h.1] at h0), if_neg (by simpa using h2)]
        · go_wp2
          refine ⟨⟨trivial, j + 1, by omega, by go_num, ?_⟩, by simp [intOf]; omega⟩
          rw [hs.out]; unfold wroteStep
          rw [if_neg (fun h => by simp [h.1] at h0), if_pos (by simpa using h2)]
      · have h2 : (g.kind.tmod 3 == 2) = false := by simp at h0; simp [h0]
        cases h1 : g.n == n
        · go_wp2
          refine ⟨⟨trivial, j + 1, by omega, by go_num, ?_⟩, by simp [intOf]; omega⟩
          rw [hs.out]; unfold wroteStep
          rw [if_neg (fun h => by simp [h.2] at h1), if_neg (by simpa using h2)]
        · go_wp2
          refine ⟨⟨trivial, j + 1, by omega, by go_num, ?_⟩, by simp [intOf]; omega⟩
          rw [hs.out]; unfold wroteStep
          rw [if_pos ⟨by simpa using h0, by simpa using h1⟩]
    · obtain rfl : j = gs.length := by omega
      rw [List.take_length]
      go_wp2
      go_ret
      exact ⟨rfl, rfl⟩

/-- What DiskFirm's loop keeps: the disk, what was synced, what is written now. -/
structure FirI (gs : List KSt) (j : Nat) (D : DS) (sy now : List (List Int)) : Prop where
  free : DFree D
  blocks : D.blocks = 8
  room : D.room = 8
  syl : sy.length = 8
  nowl : now.length = 8
  sy : ∀ k : Nat, k < 8 → sy[k]? = some ((D.firm k).getD noughts)
  now : ∀ k : Nat, k < 8 → now[k]? = some (D.now k)
  wrote : ∀ k : Int, wroteF (gs.take j) k = false → ∀ x ∈ D.loose, x.1 ≠ k

theorem FirI.start (gs : List KSt) : FirI gs 0 (DS.new 8) (List.replicate 8 noughts) (List.replicate 8 noughts) :=
  ⟨⟨rfl, rfl⟩, rfl, rfl, by rw [List.length_replicate], by rw [List.length_replicate], fun k hk => by rw [List.getElem?_replicate, if_pos hk]; rfl, fun k hk => by rw [List.getElem?_replicate, if_pos hk]; rfl, fun k _ x hx => by cases hx⟩

section
variable {gs : List KSt} {j : Nat} {D : DS} {sy now : List (List Int)}
theorem FirI.write_e (h : FirI gs j D sy now) {n : Int} (h0 : 0 ≤ n) (h1 : n < 8) (l : List Int) : D.write n l = ({ D with loose := D.loose ++ [(n, l)] }, 0) := by
  unfold DS.write
  rw [h.free.begins]
  simp only [Bool.true_eq_false, if_false]
  rw [if_neg (by rw [h.blocks]; omega), if_neg (by rw [h.room]; omega)]
theorem FirI.sync_e (h : FirI gs j D sy now) : D.sync = ({ D with firm := D.loose.foldl putF D.firm, loose := [], entries := D.entries + D.loose.length }, 0) := by
  unfold DS.sync
  rw [h.free.begins]
  simp only [Bool.true_eq_false, if_false]
theorem FirI.write (h : FirI gs j D sy now) (hj : j < gs.length) (hk : gs[j].kind.tmod 3 = 0) (h0 : 0 ≤ gs[j].n) (h1 : gs[j].n < 8) : FirI gs (j + 1) (D.write gs[j].n (blk gs[j].b)).1 sy (now.set gs[j].n.toNat (blk gs[j].b)) := by
  rw [h.write_e h0 h1]
  refine ⟨⟨h.free.down, h.free.fuse⟩, h.blocks, h.room, h.syl, by rw [List.length_set]; exact h.nowl, h.sy, fun k hk => ?_, fun k hk x hx => ?_⟩
  · have e : ({ D with loose := D.loose ++ [(gs[j].n, blk gs[j].b)] } : DS).now k = if (k : Int) = gs[j].n then blk gs[j].b else D.now k := by
      unfold DS.now
      simp only [List.foldl_append, List.foldl_cons, List.foldl_nil, putF]
      split <;> rfl
    rw [e]
    by_cases hkn : (k : Int) = gs[j].n
    · rw [if_pos hkn, show gs[j].n.toNat = k by omega, List.getElem?_set_self (by rw [h.nowl]; exact hk)]
    · rw [if_neg hkn, List.getElem?_set_ne (by omega)]
      exact h.now k hk
  · rw [wroteF_succ gs k hj] at hk
    unfold wroteStep at hk
    split at hk
    · cases hk
    · rename_i hne
      rw [if_neg (by omega)] at hk
      rcases List.mem_append.1 hx with hx | hx
      · exact h.wrote k hk x hx
      · obtain rfl := List.mem_singleton.1 hx
        intro e
        exact hne ⟨by assumption, e⟩
theorem FirI.sync (h : FirI gs j D sy now) : FirI gs (j + 1) D.sync.1 now now := by
  rw [h.sync_e]
  exact ⟨⟨h.free.down, h.free.fuse⟩, h.blocks, h.room, h.nowl, h.nowl, h.now, h.now, fun k _ x hx => by cases hx⟩
theorem FirI.skip (h : FirI gs j D sy now) (hj : j < gs.length) (hk : gs[j].kind.tmod 3 ≠ 2) : FirI gs (j + 1) D sy now := by
  refine ⟨h.free, h.blocks, h.room, h.syl, h.nowl, h.sy, h.now, fun k hw x hx => ?_⟩
  rw [wroteF_succ gs k hj] at hw
  unfold wroteStep at hw
  split at hw
  · cases hw
  · first | exact h.wrote k hw x hx | (rw [if_neg hk] at hw; exact h.wrote k hw x hx)
end

end Go.Proofs.Ythmjgcmaoniejaa
