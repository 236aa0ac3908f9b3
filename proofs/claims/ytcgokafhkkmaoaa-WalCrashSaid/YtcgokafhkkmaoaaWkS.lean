/- Wal: Same, either; Append on a log over a disk. -/
import Derived.Test.YtcgokafhkkmaoaaWkM
import Derived.Test.YtcgokafhkkmaoaaWkR
namespace Go.Proofs.Ytcgokafhkkmaoaa
open Go.RowKit Go.Maps

/-- A row of rows of bytes that is read. -/
def Bsr (w : World) (S : Nat → Prop) (v : Value) (rows : List (List UInt8)) : Prop := ∃ vs : List Value, Cs w S 1 v rows.length vs ∧ ∀ (i : Nat) (x : List UInt8) (u : Value), rows[i]? = some x → vs[i]? = some u → Bs w S u x
theorem Bsr.form {w : World} {S : Nat → Prop} {v : Value} {rows : List (List UInt8)} (h : Bsr w S v rows) : ∃ A cap, v = .slice A rows.length cap := by
  obtain ⟨vs, h, _⟩ := h
  exact h.form
theorem Bsr.keep {w w' : World} {S : Nat → Prop} {v : Value} {rows : List (List UInt8)} (h : Bsr w S v rows) (hs : w.heap.size ≤ w'.heap.size) (hk : ∀ b, S b → b < w.heap.size → w'.heap[b]? = w.heap[b]?) : Bsr w' S v rows := by
  obtain ⟨vs, h1, h2⟩ := h
  exact ⟨vs, h1.keep hs hk, fun i x u a b => (h2 i x u a b).keep hs hk⟩
theorem Bsr.below {w w' : World} {S : Nat → Prop} {v : Value} {rows : List (List UInt8)} (h : Bsr w S v rows) (hb : Below w.heap.size w w') : Bsr w' S v rows := h.keep hb.size fun b _ hl => hb.block b hl
theorem Bsr.chg {w w' : World} {S M : Nat → Prop} {v : Value} {rows : List (List UInt8)} (h : Bsr w S v rows) (hc : Chg M w w') (hd : ∀ b, S b → ¬ M b) : Bsr w' S v rows := h.keep hc.size fun b hs hl => hc.block b hl (hd b hs)
theorem Bss.read {w : World} {S T : Nat → Prop} {v : Value} {rows : List (List UInt8)} (h : Bss w S T v rows) (hl : ∀ x ∈ rows, x.length ≤ 140737488355328) : Bsr w (fun b => S b ∨ T b) v rows := by
  obtain ⟨vs, ho, hS, hr⟩ := h
  exact ⟨vs, Cs.of_own ho fun k hk => .inl (hS k hk), fun i x u h1 h2 => ⟨(hr i x u h1 h2).sub fun b hb _ => .inr hb.1, hl x (List.mem_of_getElem? h1)⟩⟩
theorem Bsr.at_ {w : World} {S : Nat → Prop} {A : Option Addr} {cap : Nat} {rows : List (List UInt8)} (h : Bsr w S (.slice A rows.length cap) rows) {k : Nat} (hk : k < rows.length) :
    ∃ b off u, A = some ⟨b, off, none⟩ ∧ w.cell? ⟨b, off + k, none⟩ = some u ∧ Bs w S u rows[k] ∧ b < w.heap.size ∧ S b := by
  obtain ⟨vs, h1, h2⟩ := h
  have hl := h1.1
  obtain ⟨_, A', cap', e, _, _, hp⟩ := h1
  injection e with e
  subst e
  obtain ⟨b, off, rfl, hS, hlt, hc⟩ := hp (by omega)
  have hg : vs[k]? = some (vs[k]'(by omega)) := List.getElem?_eq_getElem _
  exact ⟨b, off, vs[k]'(by omega), rfl, hc k _ hg, h2 k _ _ (List.getElem?_eq_getElem hk) hg, hlt, hS⟩

def sameB (a b : List (List UInt8)) : Bool := decide (a = b)
set_option maxHeartbeats 1000000 in
set_option maxRecDepth 100000 in
theorem same_any (w : World) {S T : Nat → Prop} {va vb : Value} {a b : List (List UInt8)} (ha : Bsr w S va a) (hb : Bsr w T vb b) :
    Calls Try.prog 13 #[va, vb] w fun e w' => e = .returned (.bool (sameB a b)) ∧ Below w.heap.size w w' := by
  obtain ⟨A1, cap1, rfl⟩ := ha.form
  obtain ⟨A2, cap2, rfl⟩ := hb.form
  have HA := Lib.hid ha; clear ha
  have HB := Lib.hid hb; clear hb
  have hml : a.length ≤ 9223372036854775807 := by
    obtain ⟨_, ⟨_, _, _, e, h1, h2, _⟩, _⟩ := HA.out
    injection e with _ e1 _
    simp only [maxLen] at h2
    omega
  by_cases hl : a.length = b.length
  · go_enter Try.func13, Try.ntmps13
    have hne : ((a.length : Int) != (b.length : Int)) = false := by simp [hl]
    have HL := Lib.hid hl; clear hl
    go_wp2_with fail
    go_loopw [5] (fun i wr => ∃ k : Nat, k ≤ a.length ∧ i = .int .i64 k ∧ a.take k = b.take k ∧ Below w.heap.size w wr) (fun i _ => a.length - (intOf i).toNat)
    case atStart => exact ⟨0, Nat.zero_le _, rfl, rfl, Below.refl _ _⟩
    case round =>
      obtain ⟨k, hk, rfl, heq, hbl⟩ := hrel
      have HEQ := Lib.hid heq; clear heq
      by_cases hlt : k < a.length
      · have hlt2 : k < b.length := by have := HL.out; omega
        obtain ⟨ba, oa, ua, rfl, hca, hua, _, _⟩ := (HA.out.below hbl).at_ hlt
        obtain ⟨bb, ob, ub, rfl, hcb, hub, _, _⟩ := (HB.out.below hbl).at_ hlt2
        obtain ⟨x, hx⟩ : ∃ x, x = a[k] := ⟨_, rfl⟩
        obtain ⟨y, hy⟩ : ∃ y, y = b[k] := ⟨_, rfl⟩
        rw [← hx] at hua
        rw [← hy] at hub
        have HX := Lib.hid hx; clear hx
        have HY := Lib.hid hy; clear hy
        have hltI : (k : Int) < (a.length : Int) := by omega
        have hltI2 : (k : Int) < (b.length : Int) := by omega
        obtain ⟨A3, cap3, rfl⟩ := hua.form
        obtain ⟨A4, cap4, rfl⟩ := hub.form
        by_cases hxy : x = y
        · subst hxy
          go_wp2_with fail
          refine wp_region_hoist [0, 1, 2, 3, 4, 5, 6, 7, 8, 9, 10] [] [] (fun w' => w'.cell? ⟨ba, oa + k, none⟩ = some (.slice A3 x.length cap3) ∧ w'.cell? ⟨bb, ob + k, none⟩ = some (.slice A4 x.length cap4) ∧ Bs w' S (.slice A3 x.length cap3) x ∧ Bs w' T (.slice A4 x.length cap4) x)
            (by kernel_rfl) (by kernel_rfl) (by kernel_rfl) (by kernel_rfl) (by kernel_rfl) (by kernel_rfl) ⟨by rw [World.cell?_drew]; exact hca, by rw [World.cell?_drew]; exact hcb, hua.drew, hub.drew⟩ ?_
          (refine HoistK.yes (by rfl) (by kernel_rfl) ⟨?_, fun w hSw => ?_, ?_⟩; rotate_left; (· obtain ⟨s0, s1, hx1, hx2⟩ := hSw; go_simp; try with_reducible rfl); simp only [Act.put, List.setIfInBounds_toArray, List.getElem_toArray, List.getElem_cons_zero, List.set_cons_succ, List.set_cons_zero])
          (refine HoistK.yes (by rfl) (by kernel_rfl) ⟨?_, fun w hSw => ?_, ?_⟩; rotate_left; (· obtain ⟨s0, s1, hx1, hx2⟩ := hSw; go_simp; try with_reducible rfl); simp only [Act.put, List.setIfInBounds_toArray, List.getElem_toArray, List.getElem_cons_succ, List.getElem_cons_zero, List.set_cons_succ, List.set_cons_zero])
          (refine HoistK.yes (by rfl) (by kernel_rfl) ⟨?_, fun w hSw => ?_, ?_⟩; rotate_left; (· obtain ⟨s0, s1, hx1, hx2⟩ := hSw; go_simp; try with_reducible rfl); simp only [Act.put, List.setIfInBounds_toArray, List.getElem_toArray, List.getElem_cons_succ, List.getElem_cons_zero, List.set_cons_succ, List.set_cons_zero])
          (refine HoistK.yes (by rfl) (by kernel_rfl) ⟨?_, fun w hSw => ?_, ?_⟩; rotate_left; (· obtain ⟨s0, s1, hx1, hx2⟩ := hSw; go_simp; try with_reducible rfl); simp only [Act.put, List.setIfInBounds_toArray, List.getElem_toArray, List.getElem_cons_succ, List.getElem_cons_zero, List.set_cons_succ, List.set_cons_zero])
          (refine HoistK.yes (by rfl) (by kernel_rfl) ⟨?_, fun w hSw => ?_, ?_⟩; rotate_left; (· obtain ⟨s0, s1, hx1, hx2⟩ := hSw; have e1 := run_str hx1 Try.underlying32 Try.underlying5 Try.underlying9; go_simp; try with_reducible rfl); simp only [Act.put, List.setIfInBounds_toArray, List.getElem_toArray, List.getElem_cons_succ, List.getElem_cons_zero, List.set_cons_succ, List.set_cons_zero])
          (refine HoistK.yes (by rfl) (by kernel_rfl) ⟨?_, fun w hSw => ?_, ?_⟩; rotate_left; (· obtain ⟨s0, s1, hx1, hx2⟩ := hSw; go_simp; try with_reducible rfl); simp only [Act.put, List.setIfInBounds_toArray, List.getElem_toArray, List.getElem_cons_succ, List.getElem_cons_zero, List.set_cons_succ, List.set_cons_zero])
          (refine HoistK.yes (by rfl) (by kernel_rfl) ⟨?_, fun w hSw => ?_, ?_⟩; rotate_left; (· obtain ⟨s0, s1, hx1, hx2⟩ := hSw; go_simp; try with_reducible rfl); simp only [Act.put, List.setIfInBounds_toArray, List.getElem_toArray, List.getElem_cons_succ, List.getElem_cons_zero, List.set_cons_succ, List.set_cons_zero])
          (refine HoistK.yes (by rfl) (by kernel_rfl) ⟨?_, fun w hSw => ?_, ?_⟩; rotate_left; (· obtain ⟨s0, s1, hx1, hx2⟩ := hSw; go_simp; try with_reducible rfl); simp only [Act.put, List.setIfInBounds_toArray, List.getElem_toArray, List.getElem_cons_succ, List.getElem_cons_zero, List.set_cons_succ, List.set_cons_zero])
          (refine HoistK.yes (by rfl) (by kernel_rfl) ⟨?_, fun w hSw => ?_, ?_⟩; rotate_left; (· obtain ⟨s0, s1, hx1, hx2⟩ := hSw; go_simp; try with_reducible rfl); simp only [Act.put, List.setIfInBounds_toArray, List.getElem_toArray, List.getElem_cons_succ, List.getElem_cons_zero, List.set_cons_succ, List.set_cons_zero])
          (refine HoistK.yes (by rfl) (by kernel_rfl) ⟨?_, fun w hSw => ?_, ?_⟩; rotate_left; (· obtain ⟨s0, s1, hx1, hx2⟩ := hSw; have e1 := run_str hx2 Try.underlying32 Try.underlying5 Try.underlying9; go_simp; try with_reducible rfl); simp only [Act.put, List.setIfInBounds_toArray, List.getElem_toArray, List.getElem_cons_succ, List.getElem_cons_zero, List.set_cons_succ, List.set_cons_zero])
          (refine HoistK.yes (by rfl) (by kernel_rfl) ⟨?_, fun w hSw => ?_, ?_⟩; rotate_left; (· obtain ⟨s0, s1, hx1, hx2⟩ := hSw; go_simp; try with_reducible rfl); simp only [Act.put, List.setIfInBounds_toArray, List.getElem_toArray, List.getElem_cons_succ, List.getElem_cons_zero, List.set_cons_succ, List.set_cons_zero])
          refine HoistK.nil_ ?_
          simp only [opsAt, List.filterMap_cons, List.filterMap_nil, List.getElem?_toArray, List.getElem?_cons_succ, List.getElem?_cons_zero]
          refine Effects.nil_ fun _ hQ2 => ?_
          go_wp2_with fail
          refine ⟨⟨k + 1, by omega, by go_num, ?_, hbl.drew⟩, by simp only [intOf]; omega⟩
          rw [List.take_succ_eq_append_getElem hlt, List.take_succ_eq_append_getElem hlt2, HEQ.out, ← HX.out, ← HY.out]
        · have hse : ((str x).toList == (str y).toList) = false := by rw [str_tl, str_tl, beq_eq_false_iff_ne]; exact hxy
          have HXY := Lib.hid hxy; clear hxy
          go_wp2_with fail
          refine wp_region_hoist [0, 1, 2, 3, 4, 5, 6, 7, 8, 9, 10] [] [] (fun w' => w'.cell? ⟨ba, oa + k, none⟩ = some (.slice A3 x.length cap3) ∧ w'.cell? ⟨bb, ob + k, none⟩ = some (.slice A4 y.length cap4) ∧ Bs w' S (.slice A3 x.length cap3) x ∧ Bs w' T (.slice A4 y.length cap4) y)
            (by kernel_rfl) (by kernel_rfl) (by kernel_rfl) (by kernel_rfl) (by kernel_rfl) (by kernel_rfl) ⟨by rw [World.cell?_drew]; exact hca, by rw [World.cell?_drew]; exact hcb, hua.drew, hub.drew⟩ ?_
          (refine HoistK.yes (by rfl) (by kernel_rfl) ⟨?_, fun w hSw => ?_, ?_⟩; rotate_left; (· obtain ⟨s0, s1, hx1, hx2⟩ := hSw; go_simp; try with_reducible rfl); simp only [Act.put, List.setIfInBounds_toArray, List.getElem_toArray, List.getElem_cons_zero, List.set_cons_succ, List.set_cons_zero])
          (refine HoistK.yes (by rfl) (by kernel_rfl) ⟨?_, fun w hSw => ?_, ?_⟩; rotate_left; (· obtain ⟨s0, s1, hx1, hx2⟩ := hSw; go_simp; try with_reducible rfl); simp only [Act.put, List.setIfInBounds_toArray, List.getElem_toArray, List.getElem_cons_succ, List.getElem_cons_zero, List.set_cons_succ, List.set_cons_zero])
          (refine HoistK.yes (by rfl) (by kernel_rfl) ⟨?_, fun w hSw => ?_, ?_⟩; rotate_left; (· obtain ⟨s0, s1, hx1, hx2⟩ := hSw; go_simp; try with_reducible rfl); simp only [Act.put, List.setIfInBounds_toArray, List.getElem_toArray, List.getElem_cons_succ, List.getElem_cons_zero, List.set_cons_succ, List.set_cons_zero])
          (refine HoistK.yes (by rfl) (by kernel_rfl) ⟨?_, fun w hSw => ?_, ?_⟩; rotate_left; (· obtain ⟨s0, s1, hx1, hx2⟩ := hSw; go_simp; try with_reducible rfl); simp only [Act.put, List.setIfInBounds_toArray, List.getElem_toArray, List.getElem_cons_succ, List.getElem_cons_zero, List.set_cons_succ, List.set_cons_zero])
          (refine HoistK.yes (by rfl) (by kernel_rfl) ⟨?_, fun w hSw => ?_, ?_⟩; rotate_left; (· obtain ⟨s0, s1, hx1, hx2⟩ := hSw; have e1 := run_str hx1 Try.underlying32 Try.underlying5 Try.underlying9; go_simp; try with_reducible rfl); simp only [Act.put, List.setIfInBounds_toArray, List.getElem_toArray, List.getElem_cons_succ, List.getElem_cons_zero, List.set_cons_succ, List.set_cons_zero])
          (refine HoistK.yes (by rfl) (by kernel_rfl) ⟨?_, fun w hSw => ?_, ?_⟩; rotate_left; (· obtain ⟨s0, s1, hx1, hx2⟩ := hSw; go_simp; try with_reducible rfl); simp only [Act.put, List.setIfInBounds_toArray, List.getElem_toArray, List.getElem_cons_succ, List.getElem_cons_zero, List.set_cons_succ, List.set_cons_zero])
          (refine HoistK.yes (by rfl) (by kernel_rfl) ⟨?_, fun w hSw => ?_, ?_⟩; rotate_left; (· obtain ⟨s0, s1, hx1, hx2⟩ := hSw; go_simp; try with_reducible rfl); simp only [Act.put, List.setIfInBounds_toArray, List.getElem_toArray, List.getElem_cons_succ, List.getElem_cons_zero, List.set_cons_succ, List.set_cons_zero])
          (refine HoistK.yes (by rfl) (by kernel_rfl) ⟨?_, fun w hSw => ?_, ?_⟩; rotate_left; (· obtain ⟨s0, s1, hx1, hx2⟩ := hSw; go_simp; try with_reducible rfl); simp only [Act.put, List.setIfInBounds_toArray, List.getElem_toArray, List.getElem_cons_succ, List.getElem_cons_zero, List.set_cons_succ, List.set_cons_zero])
          (refine HoistK.yes (by rfl) (by kernel_rfl) ⟨?_, fun w hSw => ?_, ?_⟩; rotate_left; (· obtain ⟨s0, s1, hx1, hx2⟩ := hSw; go_simp; try with_reducible rfl); simp only [Act.put, List.setIfInBounds_toArray, List.getElem_toArray, List.getElem_cons_succ, List.getElem_cons_zero, List.set_cons_succ, List.set_cons_zero])
          (refine HoistK.yes (by rfl) (by kernel_rfl) ⟨?_, fun w hSw => ?_, ?_⟩; rotate_left; (· obtain ⟨s0, s1, hx1, hx2⟩ := hSw; have e1 := run_str hx2 Try.underlying32 Try.underlying5 Try.underlying9; go_simp; try with_reducible rfl); simp only [Act.put, List.setIfInBounds_toArray, List.getElem_toArray, List.getElem_cons_succ, List.getElem_cons_zero, List.set_cons_succ, List.set_cons_zero])
          (refine HoistK.yes (by rfl) (by kernel_rfl) ⟨?_, fun w hSw => ?_, ?_⟩; rotate_left; (· obtain ⟨s0, s1, hx1, hx2⟩ := hSw; go_simp; try with_reducible rfl); simp only [Act.put, List.setIfInBounds_toArray, List.getElem_toArray, List.getElem_cons_succ, List.getElem_cons_zero, List.set_cons_succ, List.set_cons_zero])
          refine HoistK.nil_ ?_
          simp only [opsAt, List.filterMap_cons, List.filterMap_nil, List.getElem?_toArray, List.getElem?_cons_succ, List.getElem?_cons_zero]
          refine Effects.nil_ fun _ hQ2 => ?_
          go_wp2_with fail
          go_ret
          refine ⟨?_, hbl.drew⟩
          have : sameB a b = false := by
            unfold sameB
            rw [decide_eq_false_iff_not]
            intro e
            exact HXY.out (by rw [HX.out, HY.out]; simp [e])
          rw [this]; rfl
      · have hka : k = a.length := by omega
        have hltI : ¬ (k : Int) < (a.length : Int) := by omega
        have HKA := Lib.hid hka; clear hka
        go_wp2_with fail
        go_ret
        refine ⟨?_, hbl⟩
        have : sameB a b = true := by
          unfold sameB
          rw [decide_eq_true_iff]
          have h := HEQ.out
          rw [List.take_of_length_le (by rw [HKA.out]; exact Nat.le_refl _), List.take_of_length_le (by rw [← HL.out, HKA.out]; exact Nat.le_refl _)] at h
          exact h
        rw [this]; rfl
  · have hne : ((a.length : Int) != (b.length : Int)) = true := by simp; omega
    have hs : sameB a b = false := by unfold sameB; rw [decide_eq_false_iff_not]; exact fun e => hl (by rw [e])
    have HS := Lib.hid hs; clear hs
    go_enter Try.func13, Try.ntmps13
    go_wp2_with fail
    go_ret
    exact ⟨by rw [HS.out]; rfl, Below.refl _ _⟩

set_option maxRecDepth 100000 in
theorem either_any (w : World) {R S T : Nat → Prop} {v va vb : Value} {r a b : List (List UInt8)} (hr : Bsr w R v r) (ha : Bsr w S va a) (hb : Bsr w T vb b) :
    Calls Try.prog 20 #[v, va, vb] w fun e w' => e = .returned (.bool (sameB r a || sameB r b)) ∧ Below w.heap.size w w' := by
  have h1 := Lib.hid (same_any w hr ha)
  have h2 := Lib.hid (show ∀ w', Below w.heap.size w w' → _ from fun w' hbl => same_any w' (hr.below hbl) (hb.below hbl))
  obtain ⟨A0, c0, rfl⟩ := hr.form
  obtain ⟨A1, c1, rfl⟩ := ha.form
  obtain ⟨A2, c2, rfl⟩ := hb.form
  obtain ⟨q, hq⟩ : ∃ q, q = sameB r a := ⟨_, rfl⟩
  rw [← hq] at h1 ⊢
  have HQ := Lib.hid hq
  clear hq hr ha hb
  cases q
  · go_enter Try.func20, Try.ntmps20
    go_wp2_with fail
    refine h1.out.mono ?_
    rintro x w1 ⟨rfl, hb1⟩
    go_wp2_with fail
    refine (h2.out w1 hb1).mono ?_
    rintro x w2 ⟨rfl, hb2⟩
    go_wp2_with fail
    go_ret
    exact ⟨by simp, hb1.trans (hb2.mono hb1.size)⟩
  · go_enter Try.func20, Try.ntmps20
    go_wp2_with fail
    refine h1.out.mono ?_
    rintro x w1 ⟨rfl, hb1⟩
    go_wp2_with fail
    go_ret
    exact ⟨by simp, hb1⟩

theorem LD.out {w0 w w' : World} {g p : Nat} {S T X : Nat → Prop} {L : LogS} {D : DS} {B : Nat} (h : LD w0 w g p S T L D B) (hm : Mv (Or2 S T) w w' X) (hb : Below w0.heap.size w0 w) : Below w0.heap.size w0 w' :=
  hb.trans (hm.1.below h.size fun b hb => hb.elim (h.new b) (h.dk.new b))
theorem append_ld {w0 w : World} {g p : Nat} {S T A : Nat → Prop} {L : LogS} {D : DS} {B : Nat} (h : LD w0 w g p S T L D B) (b : List UInt8) (v : Value) (hb : Cs w A 1 v b.length (u8s b)) (hA : ∀ k, S k → ¬ A k)
    (h1 : 0 ≤ L.size) (h2 : L.size ≤ 4096) (hB : L.bytes.length ≤ 140737488355328) (hM : L.more.length ≤ 1048576) (hb2 : b.length ≤ 140737488355328) :
    Calls Try.prog 10 #[.pointer (some ⟨g, 0, none⟩), v] w fun e w' => e = .returned (.int .i64 (L.append b).2) ∧ ∃ S', LD w0 w' g p S' T (L.append b).1 D B ∧ Mv (Or2 S T) w w' (Or2 S' T) := by
  refine (append_log w g p S A L b v h.log hb hA h1 h2 hB hM hb2).mono ?_
  rintro e w' ⟨rfl, S', hl, hc, hS⟩
  refine ⟨rfl, S', ⟨hl, h.dk.chg hc fun k hT hS => h.ap k hS hT, fun k hk hT => (hS k hk).elim (fun hS => h.ap k hS hT) fun hn => by have := h.dk.lt k hT; omega, fun k hk => (hS k hk).elim (h.new k) fun hn => Nat.le_trans h.size hn, Nat.le_trans h.size hc.size⟩, hc.mono fun k hk => .inl hk, fun k hk => hk.elim (fun hk => (hS k hk).imp .inl id) fun hk => .inl (.inr hk)⟩

/-- Open on a disk that holds a log. -/
theorem open_wal {w0 w : World} {p : Nat} {T : Nat → Prop} {D : DS} {B : Nat} {L : LogS} {rows : List (List UInt8)} (h : Dk w0 w p T D B) (hz : w0.heap.size ≤ w.heap.size) (hW : WalI D L) (hp : parse L.bytes.length L.bytes = some rows) (hB : (B + 4) * 264 ≤ 140737488355328) :
    Calls Try.prog 9 #[.pointer (some ⟨p, 0, none⟩), .int .i64 L.first, .int .i64 L.size] w fun e w' => ∃ (g : Nat) (S R : Nat → Prop) (v : Value), e = .returned (.tuple #[.pointer (some ⟨g, 0, none⟩), v, .int .i64 0]) ∧
      LD w0 w' g p S T { L with more := [] } D B ∧ Bss w' R R v rows ∧ (∀ b, S b → w.heap.size ≤ b) ∧ (∀ b, R b → w.heap.size ≤ b) ∧ (∀ b, S b → ¬ R b) ∧ Below w.heap.size w w' := by
  refine (open_dk h hz hW.byt hW.down hW.fit hW.blk hB).mono ?_
  intro e w' hO
  rw [hW.opens hp] at hO
  obtain ⟨g, S, R, v, rfl, hl, hr, hS, hR, hSR, hb⟩ := hO
  exact ⟨g, S, R, v, rfl, ⟨hl, h.below hb, fun b hb hT => by have := h.lt b hT; have := hS b hb; omega, fun b hb => Nat.le_trans hz (hS b hb), Nat.le_trans hz hb.size⟩, hr, hS, hR, hSR, hb⟩
theorem LogS.count_le (L : LogS) (h : (L.bytes ++ L.more).length ≤ 1048576) : L.count ≤ 4096 := by unfold LogS.count; omega

end Go.Proofs.Ytcgokafhkkmaoaa
