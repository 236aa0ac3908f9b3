/- Texts joined: PmT PmW CsB Law LawUp. -/
import Derived.Test.YtkclkmjlodomkaaGreatDoorMd
import Derived.Test.YtkclkmjlodomkaaGreatDoorMc
import Derived.Stop.LaidTwo
import Derived.LaidLaws
import Derived.LaidHandle
import Derived.WalkKit
import Derived.ProofKit
import Derived.Lib.LaidTab
import Derived.Stop.Texts
import Derived.Test.YtkclkmjlodomkaaGreatDoorRows
import Derived.SizedLaws
import Derived.WideKeyArgs
import Derived.Below
import Derived.Carry
import Derived.Deep.Slices
import Derived.Deep.Fields
import Derived.ChangeSame
import Derived.Test.YtkclkmjlodomkaaGreatDoorMa
import Derived.Test.YtkclkmjlodomkaaGreatDoorBulk
import Derived.JoinedCond
namespace Go.Proofs.YtkclkmjlodomkaaGreatDoor
open List (setIfInBounds_toArray getElem_toArray getElem_cons_succ getElem_cons_zero set_cons_succ set_cons_zero filterMap_cons filterMap_nil getElem?_toArray getElem?_cons_succ getElem?_cons_zero)
section
open Go.RowKit Go.Maps
attribute [-simp] Tryz.isAgg34 Tryz.typeInfo34 Tryz.isAgg40 Tryz.typeInfo40 Tryz.isAgg37 Tryz.typeInfo37 Tryz.isAgg57 Tryz.typeInfo57 Tryz.isAgg71 Tryz.typeInfo71
abbrev StE := tState.El
def accX (x : StE) : List tAccount.El := x.2.1
def lockX (x : StE) : List tLock.El := x.2.2.1
def consX (x : StE) : List Sh.dig.El := x.2.2.2.1
def recX (x : StE) : List tRecord.El := x.2.2.2.2.1
def memX (x : StE) : List i64.El := x.2.2.2.2.2.1
theorem st_parts {w : World} {S : Nat → Prop} {x : StE} {ss : List Value} (h : tState.rep w S x ss) : ∃ c vA vL vC vR vM, ss = [.int .i64 c, vA, vL, vC, vR, vM] ∧ (Sh.list tAccount).rep w S (accX x) [vA] ∧ (Sh.list tLock).rep w S (lockX x) [vL] ∧ (Sh.list .dig).rep w S (consX x) [vC] ∧ (Sh.list tRecord).rep w S (recX x) [vR] ∧ (Sh.list i64).rep w S (memX x) [vM] := by
  obtain ⟨x0, x1, x2, x3, x4, x5, _⟩ := x
  obtain ⟨c0, _, rfl, ⟨rfl, _⟩, c1, _, rfl, h1, c2, _, rfl, h2, c3, _, rfl, h3, c4, _, rfl, h4, c5, _, rfl, h5, h6⟩ := h
  obtain ⟨v1, _, rfl, _⟩ := id h1
  obtain ⟨v2, _, rfl, _⟩ := id h2
  obtain ⟨v3, _, rfl, _⟩ := id h3
  obtain ⟨v4, _, rfl, _⟩ := id h4
  obtain ⟨v5, _, rfl, _⟩ := id h5
  have h6 : _ = [] := h6
  subst h6
  exact ⟨_, v1, v2, v3, v4, v5, rfl, h1, h2, h3, h4, h5⟩
def SortA (l : List (Int × Int × Int × Unit)) : Prop := ∀ j (h : j + 1 < l.length), (l[j]'(by omega)).1 < l[j + 1].1
def SortK (l : List (Int × Int × Int × Unit)) (k : Nat) : Prop := ∀ j (h : j + 1 < l.length), j + 1 < k → (l[j]'(by omega)).1 < l[j + 1].1
theorem acc_cells {w : World} {S : Nat → Prop} {a : tAccount.El} {c : List Value} (h : tAccount.rep w S a c) : c = [.int .u64 a.1, .int .u64 a.2.1, .int .u64 a.2.2.1] := by
  obtain ⟨x0, x1, x2, _⟩ := a
  obtain ⟨c0, _, rfl, ⟨rfl, _⟩, c1, _, rfl, ⟨rfl, _⟩, c2, _, rfl, ⟨rfl, _⟩, h⟩ := h
  have h : _ = [] := h
  subst h
  rfl
theorem lock_cells {w : World} {S : Nat → Prop} {a : tLock.El} {c : List Value} (h : tLock.rep w S a c) : ∃ am st : Int, ∃ r : List Value, c = u8s a.1 ++ r ∧ List.length (α := UInt8) a.1 = 32 ∧ c.length = 38 ∧ c[34]? = some (.int .u64 am) ∧ c[37]? = some (.int .i64 st) := by
  have hl := Sh.rep_size tLock _ _ h
  obtain ⟨x0, x1, x2, x3, x4, x5, x6, _⟩ := a
  obtain ⟨c0, _, rfl, ⟨rfl, h0⟩, c1, _, rfl, ⟨rfl, _⟩, c2, _, rfl, ⟨rfl, _⟩, c3, _, rfl, ⟨rfl, _⟩, c4, _, rfl, ⟨rfl, _⟩, c5, _, rfl, ⟨rfl, _⟩, c6, _, rfl, ⟨rfl, _⟩, h⟩ := h
  have hu : (u8s x0).length = 32 := by rw [u8s_length]; exact h0
  refine ⟨x3, x6, _, rfl, h0, hl, ?_, ?_⟩
  · rw [List.getElem?_append_right (by omega), hu]; rfl
  · rw [List.getElem?_append_right (by omega), hu]; rfl
theorem range_low {w w' : World} {b o : Nat} {cs : List Value} (h : w.rangeAt b o cs) (hb : Below w.heap.size w w') : w'.rangeAt b o cs := fun i u hu => by
  have h1 := h i u hu
  exact (World.cell?_of_block (a := ⟨b, o + i, none⟩) (hb.block b (Go.Lib.lt_of_cell h1))).trans h1
theorem digS_size {C : List Value} (h : C.length = 32) : (Tryz.prog.info? 37).map (·.size) = some C.length := by rw [h]; kernel_rfl
theorem lock_size {cs : List Value} (h : cs.length = 38) : (Tryz.prog.info? 71).map (·.size) = some cs.length := by rw [h]; kernel_rfl
set_option maxHeartbeats 16000000 in
set_option maxRecDepth 100000 in
theorem may_any (w : World) {S : Nat → Prop} {x : StE} {ss : List Value} (h : tState.rep w S x ss) : Calls Tryz.prog 12 #[.agg ss.toArray] w fun e w' => (∃ r, e = .returned (.bool r) ∧ (r = true → SortA (accX x))) ∧ Below w.heap.size w w' := by
  obtain ⟨c, vA, vL, vC, vR, vM, rfl, hA, hL, hC, hR, hM⟩ := st_parts h
  obtain ⟨AA, cA, rfl, lA, -⟩ := list_at hA
  obtain ⟨AL, cL, rfl, lL, -⟩ := list_at hL
  obtain ⟨AC, cC, rfl, lC, -⟩ := list_at hC
  obtain ⟨AR, cR, rfl, lR, -⟩ := list_at hR
  obtain ⟨AM, cM, rfl, lM, -⟩ := list_at hM
  obtain ⟨nA, eA⟩ : ∃ n, n = (accX x).length := ⟨_, rfl⟩
  obtain ⟨nL, eL⟩ : ∃ n, n = (lockX x).length := ⟨_, rfl⟩
  obtain ⟨nC, eC⟩ : ∃ n, n = (consX x).length := ⟨_, rfl⟩
  obtain ⟨nR, eR⟩ : ∃ n, n = (recX x).length := ⟨_, rfl⟩
  obtain ⟨nM, eM⟩ : ∃ n, n = (memX x).length := ⟨_, rfl⟩
  rw [← eA] at hA lA
  rw [← eL] at hL lL
  rw [← eC] at hC lC
  rw [← eR] at hR lR
  rw [← eM] at hM lM
  rw [← eA, ← eL, ← eC, ← eR, ← eM]
  have EA := Lib.hid eA
  have EL := Lib.hid eL
  have EC := Lib.hid eC
  have ER := Lib.hid eR
  have EM := Lib.hid eM
  have HA := Lib.hid hA
  have HL := Lib.hid hL
  have HC := Lib.hid hC
  have HR := Lib.hid hR
  have HM := Lib.hid hM
  have HB := Lib.hid (Blk.new w 34 [.int .i64 c, .slice AA nA cA, .slice AL nL cL, .slice AC nC cC, .slice AR nR cR, .slice AM nM cM].toArray)
  have HAL := Lib.hid ((Below.refl w.heap.size w).alloc (Nat.le_refl _) (.cells [.int .i64 c, .slice AA nA cA, .slice AL nL cL, .slice AC nC cC, .slice AR nR cR, .slice AM nM cM].toArray 34))
  clear h hA hL hC hR hM eA eL eC eR eM
  obtain ⟨w0, hw0⟩ : ∃ w0, w0 = w.alloc (.cells [.int .i64 c, .slice AA nA cA, .slice AL nL cL, .slice AC nC cC, .slice AR nR cR, .slice AM nM cM].toArray 34) := ⟨_, rfl⟩
  rw [← hw0] at HB HAL
  have HW0 := Lib.hid hw0
  clear hw0
  go_enter Tryz.func12, Tryz.ntmps12
  go_wp2_with fail
  rw [show (w.alloc (.cells #[.int .i64 c, .slice AA nA cA, .slice AL nL cL, .slice AC nC cC, .slice AR nR cR, .slice AM nM cM] 34)) = w0 from HW0.out.symm]
  go_loopw [3, 4] (fun lf i wr => ∃ (k : Nat) (z : Int), k ≤ nA ∧ i = .int .i64 k ∧ lf = .int .u64 z ∧ Hid (Below w0.heap.size w0 wr) ∧ Hid (SortK (accX x) k)) (fun _ i _ => nA - (intOf i).toNat)
  case atStart => exact ⟨0, _, Nat.zero_le _, rfl, rfl, Lib.hid (Below.refl _ _), Lib.hid fun j _ hj => absurd hj (by omega)⟩
  case round =>
    obtain ⟨k, z, hk, rfl, rfl, hb, hs⟩ := hrel
    have hbk := HB.out.below hb.out HB.out.lt
    have hc1 := hbk.cell 1
    rw [show ([.int .i64 c, .slice AA nA cA, .slice AL nL cL, .slice AC nC cC, .slice AR nR cR, .slice AM nM cM].toArray : Array Value)[1]? = some (.slice AA nA cA) from rfl] at hc1
    by_cases hlt : k < nA
    · have hkl : k < (accX x).length := by have := EA.out; omega
      obtain ⟨A', c', e, _, hat⟩ := list_at (Sh.rep_below (Sh.rep_below HA.out HAL.out) hb.out)
      injection e with e1 e2 e3
      subst e1; subst e3
      clear e2
      obtain ⟨b, off, C, rfl, hr, hrep, _⟩ := hat k hkl
      have hC2 := acc_cells hrep
      subst hC2
      have hca : wr.cell? ⟨b, off + k * 3, none⟩ = some (.int .u64 (accX x)[k].1) := hr 0 _ rfl
      have hcb : wr.cell? ⟨b, off + k * 3 + 1, none⟩ = some (.int .u64 (accX x)[k].2.1) := hr 1 _ rfl
      obtain ⟨a1, ha1⟩ : ∃ a : Int, a = (accX x)[k].1 := ⟨_, rfl⟩
      obtain ⟨b1, hb1⟩ : ∃ a : Int, a = (accX x)[k].2.1 := ⟨_, rfl⟩
      rw [← ha1] at hca
      rw [← hb1] at hcb
      have HA1 := Lib.hid ha1
      have HAT := Lib.hid hat
      have HBK := Lib.hid hbk
      clear hr hrep ha1 hb1 hat hbk
      have hfin : ∀ (wx : World), Below wr.heap.size wr wx → (∃ r, Ending.returned (.bool false) = .returned (.bool r) ∧ (r = true → SortA (accX x))) ∧ Below w.heap.size w wx := fun wx hx => ⟨⟨false, rfl, by simp⟩, HAL.out.trans ((hb.out.trans (hx.mono hb.out.size)).mono HAL.out.size)⟩
      have HFIN := Lib.hid hfin
      have HBB := Lib.hid hb
      clear hfin hb
      cases k with
      | zero =>
        by_cases hbal : z < b1
        · go_wp2_with fail
          go_quiet (fail)
          go_wp2_with fail
          go_ret
          exact HFIN.out _ (below_drewN (Below.refl _ _) nq)
        · go_wp2_with fail
          go_quiet (fail)
          go_wp2_with fail
          exact ⟨⟨1, _, by omega, rfl, rfl, Lib.hid (below_drewN HBB.out.out nq), Lib.hid fun j _ hj => absurd hj (by omega)⟩, by simp only [intOf]; omega⟩
      | succ j =>
        have hjl : j < (accX x).length := by omega
        obtain ⟨b', off', C', e, hr, hrep, _⟩ := HAT.out j hjl
        injection e with e
        injection e with e1 e2 _
        subst e1; subst e2
        have hC2 := acc_cells hrep
        subst hC2
        have hcp : wr.cell? ⟨b, off + j * 3, none⟩ = some (.int .u64 (accX x)[j].1) := hr 0 _ rfl
        obtain ⟨a0, ha0⟩ : ∃ a : Int, a = (accX x)[j].1 := ⟨_, rfl⟩
        rw [← ha0] at hcp
        have HA0 := Lib.hid ha0
        clear hr hrep ha0
        by_cases hge : a1 ≤ a0
        · go_wp2_with fail
          go_quiet (fail)
          go_wp2_with fail
          go_ret
          exact HFIN.out _ (below_drewN (Below.refl _ _) nq)
        · have hd : decide (a1 ≤ a0) = false := by simpa using hge
          have HGE := Lib.hid hge
          clear hge
          by_cases hbal : z < b1
          · go_wp2_with fail
            go_quiet (fail)
            go_wp2_with fail
            go_ret
            exact HFIN.out _ (below_drewN (Below.refl _ _) nq)
          · have HSK := Lib.hid (show SortK (accX x) (j + 1 + 1) from fun i hi hi2 => by
              by_cases e : i = j
              · subst e
                have := HGE.out; rw [← HA0.out, ← HA1.out]; omega
              · exact hs.out i hi (by omega))
            go_wp2_with fail
            go_quiet (fail)
            go_wp2_with fail
            exact ⟨⟨j + 1 + 1, _, by omega, by push_cast; rfl, rfl, Lib.hid (below_drewN HBB.out.out nq), HSK⟩, by simp only [intOf]; omega⟩
    · have hk' : k = nA := by omega
      subst hk'
      have HSO := Lib.hid (show SortA (accX x) from fun j hj => hs.out j hj (by have := EA.out; omega))
      have HB1 := Lib.hid (HAL.out.trans (hb.out.mono HAL.out.size))
      have HBK := Lib.hid hbk
      obtain ⟨gS, hgS⟩ : ∃ gS, gS = w.heap.size := ⟨_, rfl⟩
      rw [← hgS] at HBK hc1 ⊢
      clear hs hb hbk hlt hk hgS HB HAL HW0 EA
      obtain ⟨w1, hw1⟩ : ∃ w1, w1 = wr := ⟨_, rfl⟩
      rw [← hw1] at HBK HB1 hc1 ⊢
      clear hw1
      obtain ⟨ST, hST⟩ : ∃ ST : List Value, ST = [.int .i64 c, .slice AA k cA, .slice AL nL cL, .slice AC nC cC, .slice AR nR cR, .slice AM nM cM] := ⟨_, rfl⟩
      have HT2 := Lib.hid (show ST.toArray[2]? = some (.slice AL nL cL) by rw [hST]; rfl)
      have HT3 := Lib.hid (show ST.toArray[3]? = some (.slice AC nC cC) by rw [hST]; rfl)
      have HT4 := Lib.hid (show ST.toArray[4]? = some (.slice AR nR cR) by rw [hST]; rfl)
      have HT5 := Lib.hid (show ST.toArray[5]? = some (.slice AM nM cM) by rw [hST]; rfl)
      rw [← hST] at HBK
      clear hST
      go_wp2_with fail
      clear hc1
      go_loopw [3, 5] (fun lf i wr => ∃ (k : Nat) (z : Int), k ≤ nL ∧ i = .int .i64 k ∧ lf = .int .u64 z ∧ Hid (Below w1.heap.size w1 wr)) (fun _ i _ => nL - (intOf i).toNat)
      case atStart => exact ⟨0, _, Nat.zero_le _, rfl, rfl, Lib.hid (Below.refl _ _)⟩
      case round =>
        obtain ⟨k, z, hk, rfl, rfl, hb⟩ := hrel
        have hbk := HBK.out.below hb.out HBK.out.lt
        have hc1 := hbk.cell 2
        rw [HT2.out] at hc1
        by_cases hlt : k < nL
        · have hkl : k < (lockX x).length := by have := EL.out; omega
          have HC2 := HT2
          obtain ⟨A', c', e, _, hat⟩ := list_at (Sh.rep_below (Sh.rep_below HL.out HB1.out) hb.out)
          injection e with e1 e2 e3
          subst e1; subst e3
          clear e2
          obtain ⟨b, off, C, rfl, hr, hrep, _⟩ := hat k hkl
          have hrg : wr.rangeAt b (off + k * 38) C := hr
          obtain ⟨am, st, r0, hCe, hl32, hCl, h34, h37⟩ := lock_cells hrep
          obtain ⟨lid, hlid⟩ : ∃ lid : List UInt8, lid = (lockX x)[k].1 := ⟨_, rfl⟩
          rw [← hlid] at hCe hl32
          have hl32 : lid.length = 32 := hl32
          obtain ⟨pid, hpid⟩ : ∃ pid : Nat → List UInt8, ∀ j, k = j + 1 → (pid j).length = 32 ∧ wr.rangeAt b (off + j * 38) (u8s (pid j)) := by
            by_cases hk0 : k = 0
            · exact ⟨fun _ => [], fun j hj => by omega⟩
            · obtain ⟨b', off', C', e, hr', hrep', _⟩ := hat (k - 1) (by omega)
              injection e with e
              injection e with e1 e2 _
              subst e1; subst e2
              obtain ⟨_, _, r1, hCe', hl', _⟩ := lock_cells hrep'
              refine ⟨fun _ => (lockX x)[k - 1].1, fun j hj => ⟨hl', fun i u hu => ?_⟩⟩
              have hi := (List.getElem?_eq_some_iff.1 hu).1
              have := hr' i u (by rw [hCe', List.getElem?_append_left hi]; exact hu)
              rw [show k - 1 = j by omega] at this
              exact this
          have HRG := Lib.hid hrg
          have HJ := Lib.hid (lock_size hCl)
          have HCL := Lib.hid hCl
          have HC1 := Lib.hid (Sh.rep_one _ _ _ hrep)
          have HC34 := Lib.hid h34
          have HC37 := Lib.hid h37
          have HCE := Lib.hid hCe
          have HL32 := Lib.hid hl32
          have HLI := Lib.hid (digS_size (C := u8s lid) (by rw [u8s_length]; exact hl32))
          have HPID := Lib.hid hpid
          have HBK2 := Lib.hid hbk
          have HBB := Lib.hid hb
          have HFIN := Lib.hid (show ∀ (wx : World), Below wr.heap.size wr wx → (∃ r, Ending.returned (.bool false) = .returned (.bool r) ∧ (r = true → SortA (accX x))) ∧ Below w.heap.size w wx from fun wx hx => ⟨⟨false, rfl, by simp⟩, HB1.out.trans ((hb.out.trans (hx.mono hb.out.size)).mono HB1.out.size)⟩)
          clear hat hr hrg hrep hCe hl32 hCl h34 h37 hlid hpid hbk hb hkl
          go_wp2_with (first
            | (refine wpList_load_mid rfl 71 _ rfl b (off + k * 38) rfl C _ HRG.out Tryz.underlying71 rfl HJ.out ?_)
            | (refine wpList_store_blk (cs0 := List.replicate 32 (.int .u8 0) ++ [.int .u64 0, .int .u64 0, .int .u64 0, .int .i64 0, .int .i64 0, .int .i64 0]) (cs := C) rfl 71 _ _ rfl (Blk.new wr _ _) rfl rfl (by rw [HCL.out]; rfl) HJ.out HC1.out ?_; intro w4 hb4 hc4; have h37 := hb4.cell 37; rw [getElem?_toArray, HC37.out] at h37; have HB4 := Lib.hid hb4; have HC4 := Lib.hid hc4; clear hb4 hc4))
          have hal1 := (Below.refl wr.heap.size wr).alloc (Nat.le_refl _) (.cells ((List.replicate 32 (.int .u8 0) ++ [.int .u64 0, .int .u64 0, .int .u64 0, .int .i64 0, .int .i64 0, .int .i64 0] : List Value)).toArray 71)
          have hb14 := (hal1.trans (HC4.out.below hal1.size fun k hk => Nat.le_of_eq hk.symm)).drew
          have hlid : w4.drew.rangeAt wr.heap.size 0 (u8s lid) := fun i u hu => by
            have hi := (List.getElem?_eq_some_iff.1 hu).1
            have := HB4.out.drew.cell i
            rw [Nat.zero_add, this, getElem?_toArray, HCE.out, List.getElem?_append_left hi]
            exact hu
          have hpd : ∀ j, k = j + 1 → w4.drew.rangeAt b (off + j * 38) (u8s (pid j)) := fun j hj => by
            have := (HPID.out j hj).2
            exact range_low this hb14
          have hSS : Blk w4.drew gS 34 ST.toArray ∧ Blk w4.drew wr.heap.size 71 C.toArray ∧ w4.drew.rangeAt wr.heap.size 0 (u8s lid) ∧ ∀ j, k = j + 1 → w4.drew.rangeAt b (off + j * 38) (u8s (pid j)) := ⟨HBK2.out.below hb14 HBK2.out.lt, HB4.out.drew, hlid, hpd⟩
          obtain ⟨o, ho⟩ : ∃ o, o = (st == 1) := ⟨_, rfl⟩
          have hsc : (o = true ∧ st = 1 ∧ z < am) ∨ (o = true ∧ st = 1 ∧ ¬ z < am) ∨ (o = false ∧ st = 2) ∨ (o = false ∧ st = 3) ∨ (o = false ∧ (st == 1) = false ∧ (st == 2) = false ∧ (st == 3) = false) := by
            rw [ho]
            by_cases h1 : st = 1
            · subst h1; by_cases hz : z < am <;> simp [hz]
            · by_cases h2 : st = 2
              · subst h2; simp
              · by_cases h3 : st = 3
                · subst h3; simp
                · simp [h1, h2, h3]
          rw [← ho]
          clear ho
          obtain ⟨gL, hgL⟩ : ∃ gL, gL = wr.heap.size := ⟨_, rfl⟩
          rw [← hgL] at hSS ⊢
          have HB14 := Lib.hid hb14
          clear hb14 hal1 hlid hpd hgL HB4 HC4
          cases k with
          | zero =>
            refine wp_region_segsV [([0, 1, 2, 3, 4, 5, 6, 7, 8, 9, 10, 11], [12]), ([13, 14, 15, 16, 17, 18, 19, 20, 21, 22, 23, 24, 25, 26, 27, 28, 29, 30, 31, 32, 33, 34, 35, 36], [37])] (by kernel_rfl) (by kernel_rfl) (by kernel_rfl) (by kernel_rfl)
              (SegV.mk (fun w' => Blk w' gS 34 ST.toArray ∧ Blk w' gL 71 C.toArray ∧ w'.rangeAt gL 0 (u8s lid) ∧ ∀ i, 0 = i + 1 → w'.rangeAt b (off + i * 38) (u8s (pid i))) (fun _ _ => trivial) hSS ?_)
            (refine HoistK.yes (by rfl) (by kernel_rfl) ⟨?_, fun w' hSw => ?_, ?_⟩; rotate_left; (· have hc2 := hSw.1.cell 2; rw [HC2.out] at hc2; have h34 := hSw.2.1.cell 34; have h37 := hSw.2.1.cell 37; rw [getElem?_toArray, HC34.out] at h34; rw [getElem?_toArray, HC37.out] at h37; go_simp; try with_reducible rfl); simp only [Act.put, setIfInBounds_toArray, getElem_toArray, getElem_cons_zero, set_cons_succ, set_cons_zero])
            iterate 2 (refine HoistK.yes (by rfl) (by kernel_rfl) ⟨?_, fun w' hSw => ?_, ?_⟩; rotate_left; (· have hc2 := hSw.1.cell 2; rw [HC2.out] at hc2; have h34 := hSw.2.1.cell 34; have h37 := hSw.2.1.cell 37; rw [getElem?_toArray, HC34.out] at h34; rw [getElem?_toArray, HC37.out] at h37; go_simp; try with_reducible rfl); simp only [Act.put, setIfInBounds_toArray, getElem_toArray, getElem_cons_succ, getElem_cons_zero, set_cons_succ, set_cons_zero])
            (refine HoistK.no (by rfl) (by kernel_rfl) ?_; simp only [Act.put, setIfInBounds_toArray, getElem_toArray, getElem_cons_succ, getElem_cons_zero, set_cons_succ, set_cons_zero])
            (refine HoistK.no (by rfl) (by kernel_rfl) ?_; simp only [Act.put, setIfInBounds_toArray, getElem_toArray, getElem_cons_succ, getElem_cons_zero, set_cons_succ, set_cons_zero])
            (refine HoistK.no (by rfl) (by kernel_rfl) ?_; simp only [Act.put, setIfInBounds_toArray, getElem_toArray, getElem_cons_succ, getElem_cons_zero, set_cons_succ, set_cons_zero])
            (refine HoistK.no (by rfl) (by kernel_rfl) ?_; simp only [Act.put, setIfInBounds_toArray, getElem_toArray, getElem_cons_succ, getElem_cons_zero, set_cons_succ, set_cons_zero])
            (refine HoistK.no (by rfl) (by kernel_rfl) ?_; simp only [Act.put, setIfInBounds_toArray, getElem_toArray, getElem_cons_succ, getElem_cons_zero, set_cons_succ, set_cons_zero])
            (refine HoistK.no (by rfl) (by kernel_rfl) ?_; simp only [Act.put, setIfInBounds_toArray, getElem_toArray, getElem_cons_succ, getElem_cons_zero, set_cons_succ, set_cons_zero])
            (refine HoistK.no (by rfl) (by kernel_rfl) ?_; simp only [Act.put, setIfInBounds_toArray, getElem_toArray, getElem_cons_succ, getElem_cons_zero, set_cons_succ, set_cons_zero])
            (refine HoistK.no (by rfl) (by kernel_rfl) ?_; simp only [Act.put, setIfInBounds_toArray, getElem_toArray, getElem_cons_succ, getElem_cons_zero, set_cons_succ, set_cons_zero])
            (refine HoistK.no (by rfl) (by kernel_rfl) ?_; simp only [Act.put, setIfInBounds_toArray, getElem_toArray, getElem_cons_succ, getElem_cons_zero, set_cons_succ, set_cons_zero])
            refine HoistK.nil_ ?_
            simp only [opsAt, filterMap_cons, filterMap_nil, getElem?_toArray, getElem?_cons_succ, getElem?_cons_zero]
            refine EffS.cons_ fun _ hQ => ?_
            go_wp2_with fail
            have hS5 := hSS
            have HB5 := HB14
            rcases hsc with ⟨rfl, rfl, hz⟩ | ⟨rfl, rfl, hz⟩ | ⟨rfl, rfl⟩ | ⟨rfl, rfl⟩ | ⟨rfl, h1, h2, h3⟩
            · have hz2 : decide (z < am) = true := decide_eq_true hz
              refine hQ _ _ hS5 (EffS.nil_ (SegV.mk (fun w' => Blk w' gS 34 ST.toArray ∧ Blk w' gL 71 C.toArray ∧ w'.rangeAt gL 0 (u8s lid) ∧ ∀ i, 0 = i + 1 → w'.rangeAt b (off + i * 38) (u8s (pid i))) (fun _ h => h) hS5 ?_))
              (refine HoistK.no (by rfl) (by kernel_rfl) ?_; simp only [Act.put, setIfInBounds_toArray, getElem_toArray, getElem_cons_succ, getElem_cons_zero, set_cons_succ, set_cons_zero])
              iterate 11 (refine HoistK.yes (by rfl) (by kernel_rfl) ⟨?_, fun w' hSw => ?_, ?_⟩; rotate_left; (· have hc2 := hSw.1.cell 2; rw [HC2.out] at hc2; have h34 := hSw.2.1.cell 34; have h37 := hSw.2.1.cell 37; rw [getElem?_toArray, HC34.out] at h34; rw [getElem?_toArray, HC37.out] at h37; go_simp; try with_reducible rfl); simp only [Act.put, setIfInBounds_toArray, getElem_toArray, getElem_cons_succ, getElem_cons_zero, set_cons_succ, set_cons_zero])
              (refine HoistK.no (by rfl) (by kernel_rfl) ?_; simp only [Act.put, setIfInBounds_toArray, getElem_toArray, getElem_cons_succ, getElem_cons_zero, set_cons_succ, set_cons_zero])
              (refine HoistK.no (by rfl) (by kernel_rfl) ?_; simp only [Act.put, setIfInBounds_toArray, getElem_toArray, getElem_cons_succ, getElem_cons_zero, set_cons_succ, set_cons_zero])
              (refine HoistK.no (by rfl) (by kernel_rfl) ?_; simp only [Act.put, setIfInBounds_toArray, getElem_toArray, getElem_cons_succ, getElem_cons_zero, set_cons_succ, set_cons_zero])
              (refine HoistK.no (by rfl) (by kernel_rfl) ?_; simp only [Act.put, setIfInBounds_toArray, getElem_toArray, getElem_cons_succ, getElem_cons_zero, set_cons_succ, set_cons_zero])
              (refine HoistK.no (by rfl) (by kernel_rfl) ?_; simp only [Act.put, setIfInBounds_toArray, getElem_toArray, getElem_cons_succ, getElem_cons_zero, set_cons_succ, set_cons_zero])
              (refine HoistK.no (by rfl) (by kernel_rfl) ?_; simp only [Act.put, setIfInBounds_toArray, getElem_toArray, getElem_cons_succ, getElem_cons_zero, set_cons_succ, set_cons_zero])
              (refine HoistK.no (by rfl) (by kernel_rfl) ?_; simp only [Act.put, setIfInBounds_toArray, getElem_toArray, getElem_cons_succ, getElem_cons_zero, set_cons_succ, set_cons_zero])
              (refine HoistK.no (by rfl) (by kernel_rfl) ?_; simp only [Act.put, setIfInBounds_toArray, getElem_toArray, getElem_cons_succ, getElem_cons_zero, set_cons_succ, set_cons_zero])
              (refine HoistK.no (by rfl) (by kernel_rfl) ?_; simp only [Act.put, setIfInBounds_toArray, getElem_toArray, getElem_cons_succ, getElem_cons_zero, set_cons_succ, set_cons_zero])
              (refine HoistK.no (by rfl) (by kernel_rfl) ?_; simp only [Act.put, setIfInBounds_toArray, getElem_toArray, getElem_cons_succ, getElem_cons_zero, set_cons_succ, set_cons_zero])
              (refine HoistK.no (by rfl) (by kernel_rfl) ?_; simp only [Act.put, setIfInBounds_toArray, getElem_toArray, getElem_cons_succ, getElem_cons_zero, set_cons_succ, set_cons_zero])
              (refine HoistK.no (by rfl) (by kernel_rfl) ?_; simp only [Act.put, setIfInBounds_toArray, getElem_toArray, getElem_cons_succ, getElem_cons_zero, set_cons_succ, set_cons_zero])
              refine HoistK.nil_ ?_
              simp only [opsAt, filterMap_cons, filterMap_nil, getElem?_toArray, getElem?_cons_succ, getElem?_cons_zero]
              refine EffS.cons_ fun _ hQ => ?_
              go_wp2_with fail
              have q34 := hS5.2.1.cell 34
              rw [getElem?_toArray, HC34.out] at q34
              refine hQ _ _ hS5 (EffS.nil_ fun _ hQ => ?_)
              go_wp2_with fail
              go_ret
              exact HFIN.out _ HB5.out
            · have hz2 : decide (z < am) = false := decide_eq_false (by omega)
              refine hQ _ _ hS5 (EffS.nil_ (SegV.mk (fun w' => Blk w' gS 34 ST.toArray ∧ Blk w' gL 71 C.toArray ∧ w'.rangeAt gL 0 (u8s lid) ∧ ∀ i, 0 = i + 1 → w'.rangeAt b (off + i * 38) (u8s (pid i))) (fun _ h => h) hS5 ?_))
              (refine HoistK.no (by rfl) (by kernel_rfl) ?_; simp only [Act.put, setIfInBounds_toArray, getElem_toArray, getElem_cons_succ, getElem_cons_zero, set_cons_succ, set_cons_zero])
              iterate 14 (refine HoistK.yes (by rfl) (by kernel_rfl) ⟨?_, fun w' hSw => ?_, ?_⟩; rotate_left; (· have hc2 := hSw.1.cell 2; rw [HC2.out] at hc2; have h34 := hSw.2.1.cell 34; have h37 := hSw.2.1.cell 37; rw [getElem?_toArray, HC34.out] at h34; rw [getElem?_toArray, HC37.out] at h37; go_simp; try with_reducible rfl); simp only [Act.put, setIfInBounds_toArray, getElem_toArray, getElem_cons_succ, getElem_cons_zero, set_cons_succ, set_cons_zero])
              (refine HoistK.no (by rfl) (by kernel_rfl) ?_; simp only [Act.put, setIfInBounds_toArray, getElem_toArray, getElem_cons_succ, getElem_cons_zero, set_cons_succ, set_cons_zero])
              (refine HoistK.no (by rfl) (by kernel_rfl) ?_; simp only [Act.put, setIfInBounds_toArray, getElem_toArray, getElem_cons_succ, getElem_cons_zero, set_cons_succ, set_cons_zero])
              (refine HoistK.no (by rfl) (by kernel_rfl) ?_; simp only [Act.put, setIfInBounds_toArray, getElem_toArray, getElem_cons_succ, getElem_cons_zero, set_cons_succ, set_cons_zero])
              iterate 2 (refine HoistK.yes (by rfl) (by kernel_rfl) ⟨?_, fun w' hSw => ?_, ?_⟩; rotate_left; (· have hc2 := hSw.1.cell 2; rw [HC2.out] at hc2; have h34 := hSw.2.1.cell 34; have h37 := hSw.2.1.cell 37; rw [getElem?_toArray, HC34.out] at h34; rw [getElem?_toArray, HC37.out] at h37; go_simp; try with_reducible rfl); simp only [Act.put, setIfInBounds_toArray, getElem_toArray, getElem_cons_succ, getElem_cons_zero, set_cons_succ, set_cons_zero])
              (refine HoistK.no (by rfl) (by kernel_rfl) ?_; simp only [Act.put, setIfInBounds_toArray, getElem_toArray, getElem_cons_succ, getElem_cons_zero, set_cons_succ, set_cons_zero])
              (refine HoistK.no (by rfl) (by kernel_rfl) ?_; simp only [Act.put, setIfInBounds_toArray, getElem_toArray, getElem_cons_succ, getElem_cons_zero, set_cons_succ, set_cons_zero])
              (refine HoistK.no (by rfl) (by kernel_rfl) ?_; simp only [Act.put, setIfInBounds_toArray, getElem_toArray, getElem_cons_succ, getElem_cons_zero, set_cons_succ, set_cons_zero])
              (refine HoistK.yes (by rfl) (by kernel_rfl) ⟨?_, fun w' hSw => ?_, ?_⟩; rotate_left; (· have hc2 := hSw.1.cell 2; rw [HC2.out] at hc2; have h34 := hSw.2.1.cell 34; have h37 := hSw.2.1.cell 37; rw [getElem?_toArray, HC34.out] at h34; rw [getElem?_toArray, HC37.out] at h37; go_simp; try with_reducible rfl); simp only [Act.put, setIfInBounds_toArray, getElem_toArray, getElem_cons_succ, getElem_cons_zero, set_cons_succ, set_cons_zero])
              refine HoistK.nil_ ?_
              simp only [opsAt, filterMap_cons, filterMap_nil, getElem?_toArray, getElem?_cons_succ, getElem?_cons_zero]
              refine EffS.cons_ fun _ hQ => ?_
              go_wp2_with fail
              have q34 := hS5.2.1.cell 34
              rw [getElem?_toArray, HC34.out] at q34
              refine hQ _ _ hS5 (EffS.nil_ fun _ hQ => ?_)
              go_wp2_with fail
              exact ⟨⟨0 + 1, _, by omega, by push_cast; rfl, rfl, Lib.hid (HBB.out.out.trans (HB5.out.mono HBB.out.out.size))⟩, by simp only [intOf]; omega⟩
            · refine hQ _ _ hS5 (EffS.nil_ (SegV.mk (fun w' => Blk w' gS 34 ST.toArray ∧ Blk w' gL 71 C.toArray ∧ w'.rangeAt gL 0 (u8s lid) ∧ ∀ i, 0 = i + 1 → w'.rangeAt b (off + i * 38) (u8s (pid i))) (fun _ h => h) hS5 ?_))
              (refine HoistK.no (by rfl) (by kernel_rfl) ?_; simp only [Act.put, setIfInBounds_toArray, getElem_toArray, getElem_cons_succ, getElem_cons_zero, set_cons_succ, set_cons_zero])
              iterate 4 (refine HoistK.yes (by rfl) (by kernel_rfl) ⟨?_, fun w' hSw => ?_, ?_⟩; rotate_left; (· have hc2 := hSw.1.cell 2; rw [HC2.out] at hc2; have h34 := hSw.2.1.cell 34; have h37 := hSw.2.1.cell 37; rw [getElem?_toArray, HC34.out] at h34; rw [getElem?_toArray, HC37.out] at h37; go_simp; try with_reducible rfl); simp only [Act.put, setIfInBounds_toArray, getElem_toArray, getElem_cons_succ, getElem_cons_zero, set_cons_succ, set_cons_zero])
              (refine HoistK.no (by rfl) (by kernel_rfl) ?_; simp only [Act.put, setIfInBounds_toArray, getElem_toArray, getElem_cons_succ, getElem_cons_zero, set_cons_succ, set_cons_zero])
              (refine HoistK.no (by rfl) (by kernel_rfl) ?_; simp only [Act.put, setIfInBounds_toArray, getElem_toArray, getElem_cons_succ, getElem_cons_zero, set_cons_succ, set_cons_zero])
              (refine HoistK.no (by rfl) (by kernel_rfl) ?_; simp only [Act.put, setIfInBounds_toArray, getElem_toArray, getElem_cons_succ, getElem_cons_zero, set_cons_succ, set_cons_zero])
              (refine HoistK.no (by rfl) (by kernel_rfl) ?_; simp only [Act.put, setIfInBounds_toArray, getElem_toArray, getElem_cons_succ, getElem_cons_zero, set_cons_succ, set_cons_zero])
              iterate 11 (refine HoistK.yes (by rfl) (by kernel_rfl) ⟨?_, fun w' hSw => ?_, ?_⟩; rotate_left; (· have hc2 := hSw.1.cell 2; rw [HC2.out] at hc2; have h34 := hSw.2.1.cell 34; have h37 := hSw.2.1.cell 37; rw [getElem?_toArray, HC34.out] at h34; rw [getElem?_toArray, HC37.out] at h37; go_simp; try with_reducible rfl); simp only [Act.put, setIfInBounds_toArray, getElem_toArray, getElem_cons_succ, getElem_cons_zero, set_cons_succ, set_cons_zero])
              (refine HoistK.no (by rfl) (by kernel_rfl) ?_; simp only [Act.put, setIfInBounds_toArray, getElem_toArray, getElem_cons_succ, getElem_cons_zero, set_cons_succ, set_cons_zero])
              (refine HoistK.no (by rfl) (by kernel_rfl) ?_; simp only [Act.put, setIfInBounds_toArray, getElem_toArray, getElem_cons_succ, getElem_cons_zero, set_cons_succ, set_cons_zero])
              (refine HoistK.no (by rfl) (by kernel_rfl) ?_; simp only [Act.put, setIfInBounds_toArray, getElem_toArray, getElem_cons_succ, getElem_cons_zero, set_cons_succ, set_cons_zero])
              (refine HoistK.yes (by rfl) (by kernel_rfl) ⟨?_, fun w' hSw => ?_, ?_⟩; rotate_left; (· have hc2 := hSw.1.cell 2; rw [HC2.out] at hc2; have h34 := hSw.2.1.cell 34; have h37 := hSw.2.1.cell 37; rw [getElem?_toArray, HC34.out] at h34; rw [getElem?_toArray, HC37.out] at h37; go_simp; try with_reducible rfl); simp only [Act.put, setIfInBounds_toArray, getElem_toArray, getElem_cons_succ, getElem_cons_zero, set_cons_succ, set_cons_zero])
              refine HoistK.nil_ ?_
              simp only [opsAt, filterMap_cons, filterMap_nil, getElem?_toArray, getElem?_cons_succ, getElem?_cons_zero]
              refine EffS.cons_ fun _ hQ => ?_
              go_wp2_with fail
              have q34 := hS5.2.1.cell 34
              rw [getElem?_toArray, HC34.out] at q34
              refine hQ _ _ hS5 (EffS.nil_ fun _ hQ => ?_)
              go_wp2_with fail
              exact ⟨⟨0 + 1, _, by omega, by push_cast; rfl, rfl, Lib.hid (HBB.out.out.trans (HB5.out.mono HBB.out.out.size))⟩, by simp only [intOf]; omega⟩
            · refine hQ _ _ hS5 (EffS.nil_ (SegV.mk (fun w' => Blk w' gS 34 ST.toArray ∧ Blk w' gL 71 C.toArray ∧ w'.rangeAt gL 0 (u8s lid) ∧ ∀ i, 0 = i + 1 → w'.rangeAt b (off + i * 38) (u8s (pid i))) (fun _ h => h) hS5 ?_))
              (refine HoistK.no (by rfl) (by kernel_rfl) ?_; simp only [Act.put, setIfInBounds_toArray, getElem_toArray, getElem_cons_succ, getElem_cons_zero, set_cons_succ, set_cons_zero])
              iterate 4 (refine HoistK.yes (by rfl) (by kernel_rfl) ⟨?_, fun w' hSw => ?_, ?_⟩; rotate_left; (· have hc2 := hSw.1.cell 2; rw [HC2.out] at hc2; have h34 := hSw.2.1.cell 34; have h37 := hSw.2.1.cell 37; rw [getElem?_toArray, HC34.out] at h34; rw [getElem?_toArray, HC37.out] at h37; go_simp; try with_reducible rfl); simp only [Act.put, setIfInBounds_toArray, getElem_toArray, getElem_cons_succ, getElem_cons_zero, set_cons_succ, set_cons_zero])
              (refine HoistK.no (by rfl) (by kernel_rfl) ?_; simp only [Act.put, setIfInBounds_toArray, getElem_toArray, getElem_cons_succ, getElem_cons_zero, set_cons_succ, set_cons_zero])
              (refine HoistK.no (by rfl) (by kernel_rfl) ?_; simp only [Act.put, setIfInBounds_toArray, getElem_toArray, getElem_cons_succ, getElem_cons_zero, set_cons_succ, set_cons_zero])
              (refine HoistK.no (by rfl) (by kernel_rfl) ?_; simp only [Act.put, setIfInBounds_toArray, getElem_toArray, getElem_cons_succ, getElem_cons_zero, set_cons_succ, set_cons_zero])
              (refine HoistK.no (by rfl) (by kernel_rfl) ?_; simp only [Act.put, setIfInBounds_toArray, getElem_toArray, getElem_cons_succ, getElem_cons_zero, set_cons_succ, set_cons_zero])
              iterate 15 (refine HoistK.yes (by rfl) (by kernel_rfl) ⟨?_, fun w' hSw => ?_, ?_⟩; rotate_left; (· have hc2 := hSw.1.cell 2; rw [HC2.out] at hc2; have h34 := hSw.2.1.cell 34; have h37 := hSw.2.1.cell 37; rw [getElem?_toArray, HC34.out] at h34; rw [getElem?_toArray, HC37.out] at h37; go_simp; try with_reducible rfl); simp only [Act.put, setIfInBounds_toArray, getElem_toArray, getElem_cons_succ, getElem_cons_zero, set_cons_succ, set_cons_zero])
              refine HoistK.nil_ ?_
              simp only [opsAt, filterMap_cons, filterMap_nil, getElem?_toArray, getElem?_cons_succ, getElem?_cons_zero]
              refine EffS.cons_ fun _ hQ => ?_
              go_wp2_with fail
              have q34 := hS5.2.1.cell 34
              rw [getElem?_toArray, HC34.out] at q34
              refine hQ _ _ hS5 (EffS.nil_ fun _ hQ => ?_)
              go_wp2_with fail
              exact ⟨⟨0 + 1, _, by omega, by push_cast; rfl, rfl, Lib.hid (HBB.out.out.trans (HB5.out.mono HBB.out.out.size))⟩, by simp only [intOf]; omega⟩
            · have g1 : ¬ st = 1 := by simpa using h1
              have g2 : ¬ st = 2 := by simpa using h2
              have g3 : ¬ st = 3 := by simpa using h3
              have k2 : (st != 2) = true := by simpa using h2
              have k3 : (st != 3) = true := by simpa using h3
              refine hQ _ _ hS5 (EffS.nil_ (SegV.mk (fun w' => Blk w' gS 34 ST.toArray ∧ Blk w' gL 71 C.toArray ∧ w'.rangeAt gL 0 (u8s lid) ∧ ∀ i, 0 = i + 1 → w'.rangeAt b (off + i * 38) (u8s (pid i))) (fun _ h => h) hS5 ?_))
              (refine HoistK.no (by rfl) (by kernel_rfl) ?_; simp only [Act.put, setIfInBounds_toArray, getElem_toArray, getElem_cons_succ, getElem_cons_zero, set_cons_succ, set_cons_zero])
              iterate 4 (refine HoistK.yes (by rfl) (by kernel_rfl) ⟨?_, fun w' hSw => ?_, ?_⟩; rotate_left; (· have hc2 := hSw.1.cell 2; rw [HC2.out] at hc2; have h34 := hSw.2.1.cell 34; have h37 := hSw.2.1.cell 37; rw [getElem?_toArray, HC34.out] at h34; rw [getElem?_toArray, HC37.out] at h37; go_simp; try with_reducible rfl); simp only [Act.put, setIfInBounds_toArray, getElem_toArray, getElem_cons_succ, getElem_cons_zero, set_cons_succ, set_cons_zero])
              (refine HoistK.no (by rfl) (by kernel_rfl) ?_; simp only [Act.put, setIfInBounds_toArray, getElem_toArray, getElem_cons_succ, getElem_cons_zero, set_cons_succ, set_cons_zero])
              (refine HoistK.no (by rfl) (by kernel_rfl) ?_; simp only [Act.put, setIfInBounds_toArray, getElem_toArray, getElem_cons_succ, getElem_cons_zero, set_cons_succ, set_cons_zero])
              (refine HoistK.no (by rfl) (by kernel_rfl) ?_; simp only [Act.put, setIfInBounds_toArray, getElem_toArray, getElem_cons_succ, getElem_cons_zero, set_cons_succ, set_cons_zero])
              (refine HoistK.no (by rfl) (by kernel_rfl) ?_; simp only [Act.put, setIfInBounds_toArray, getElem_toArray, getElem_cons_succ, getElem_cons_zero, set_cons_succ, set_cons_zero])
              iterate 15 (refine HoistK.yes (by rfl) (by kernel_rfl) ⟨?_, fun w' hSw => ?_, ?_⟩; rotate_left; (· have hc2 := hSw.1.cell 2; rw [HC2.out] at hc2; have h34 := hSw.2.1.cell 34; have h37 := hSw.2.1.cell 37; rw [getElem?_toArray, HC34.out] at h34; rw [getElem?_toArray, HC37.out] at h37; go_simp; try with_reducible rfl); simp only [Act.put, setIfInBounds_toArray, getElem_toArray, getElem_cons_succ, getElem_cons_zero, set_cons_succ, set_cons_zero])
              refine HoistK.nil_ ?_
              simp only [opsAt, filterMap_cons, filterMap_nil, getElem?_toArray, getElem?_cons_succ, getElem?_cons_zero]
              refine EffS.cons_ fun _ hQ => ?_
              go_wp2_with fail
              have q34 := hS5.2.1.cell 34
              rw [getElem?_toArray, HC34.out] at q34
              refine hQ _ _ hS5 (EffS.nil_ fun _ hQ => ?_)
              go_wp2_with fail
              all_goals first | (go_ret; exact HFIN.out _ HB5.out) | exact ⟨⟨0 + 1, _, by omega, by push_cast; rfl, rfl, Lib.hid (HBB.out.out.trans (HB5.out.mono HBB.out.out.size))⟩, by simp only [intOf]; omega⟩
          | succ j =>
            have HPI := Lib.hid (digS_size (C := u8s (pid j)) (by rw [u8s_length]; exact (HPID.out j rfl).1))
            have hj1 : (j : Int) < (nL : Int) := by omega
            have hj0 : (0 : Int) ≤ (j : Int) := by omega
            have hwj : IntKind.i64.wrap (j : Int) = (j : Int) := by simp [IntKind.wrap, IntKind.signed, IntKind.bits]; omega
            refine wp_region_segsV [([0, 1, 2, 3, 4, 5, 6, 7, 8, 9, 10, 11], [12]), ([13, 14, 15, 16, 17, 18, 19, 20, 21, 22, 23, 24, 25, 26, 27, 28, 29, 30, 31, 32, 33, 34, 35, 36], [37])] (by kernel_rfl) (by kernel_rfl) (by kernel_rfl) (by kernel_rfl)
              (SegV.mk (fun w' => Blk w' gS 34 ST.toArray ∧ Blk w' gL 71 C.toArray ∧ w'.rangeAt gL 0 (u8s lid) ∧ ∀ i, j + 1 = i + 1 → w'.rangeAt b (off + i * 38) (u8s (pid i))) (fun _ _ => trivial) hSS ?_)
            (refine HoistK.yes (by rfl) (by kernel_rfl) ⟨?_, fun w' hSw => ?_, ?_⟩; rotate_left; (· have hc2 := hSw.1.cell 2; rw [HC2.out] at hc2; have h34 := hSw.2.1.cell 34; have h37 := hSw.2.1.cell 37; rw [getElem?_toArray, HC34.out] at h34; rw [getElem?_toArray, HC37.out] at h37; go_simp; try with_reducible rfl); simp only [Act.put, setIfInBounds_toArray, getElem_toArray, getElem_cons_zero, set_cons_succ, set_cons_zero])
            iterate 3 (refine HoistK.yes (by rfl) (by kernel_rfl) ⟨?_, fun w' hSw => ?_, ?_⟩; rotate_left; (· have hc2 := hSw.1.cell 2; rw [HC2.out] at hc2; have h34 := hSw.2.1.cell 34; have h37 := hSw.2.1.cell 37; rw [getElem?_toArray, HC34.out] at h34; rw [getElem?_toArray, HC37.out] at h37; go_simp; try with_reducible rfl); simp only [Act.put, setIfInBounds_toArray, getElem_toArray, getElem_cons_succ, getElem_cons_zero, set_cons_succ, set_cons_zero])
            (refine HoistK.load (by rfl) (by kernel_rfl) 37 _ rfl gL 0 rfl (u8s lid) _ (fun w' hw => hw.2.2.1) Tryz.underlying37 rfl HLI.out ?_; simp only [Act.put, setIfInBounds_toArray, getElem_toArray, getElem_cons_succ, getElem_cons_zero, set_cons_succ, set_cons_zero])
            iterate 6 (refine HoistK.yes (by rfl) (by kernel_rfl) ⟨?_, fun w' hSw => ?_, ?_⟩; rotate_left; (· have hc2 := hSw.1.cell 2; rw [HC2.out] at hc2; have h34 := hSw.2.1.cell 34; have h37 := hSw.2.1.cell 37; rw [getElem?_toArray, HC34.out] at h34; rw [getElem?_toArray, HC37.out] at h37; go_simp; try with_reducible rfl); simp only [Act.put, setIfInBounds_toArray, getElem_toArray, getElem_cons_succ, getElem_cons_zero, set_cons_succ, set_cons_zero])
            (refine HoistK.load (by rfl) (by kernel_rfl) 37 _ rfl b (off + j * 38) rfl (u8s (pid j)) _ (fun w' hw => hw.2.2.2 j rfl) Tryz.underlying37 rfl HPI.out ?_; simp only [Act.put, setIfInBounds_toArray, getElem_toArray, getElem_cons_succ, getElem_cons_zero, set_cons_succ, set_cons_zero])
            refine HoistK.nil_ ?_
            simp only [opsAt, filterMap_cons, filterMap_nil, getElem?_toArray, getElem?_cons_succ, getElem?_cons_zero]
            refine EffS.cons_ fun _ hQ => ?_
            go_wp2_with fail
            refine (above_any w4.drew lid (pid j) HL32.out (HPID.out j rfl).1).mono ?_
            rintro e w5 ⟨⟨r, rfl⟩, hb5⟩
            have HB5 := Lib.hid (HB14.out.trans (hb5.mono HB14.out.size))
            have hS5 : Blk w5 gS 34 ST.toArray ∧ Blk w5 gL 71 C.toArray ∧ w5.rangeAt gL 0 (u8s lid) ∧ ∀ i, j + 1 = i + 1 → w5.rangeAt b (off + i * 38) (u8s (pid i)) := ⟨hSS.1.below hb5 hSS.1.lt, hSS.2.1.below hb5 hSS.2.1.lt, range_low hSS.2.2.1 hb5, fun i hi => range_low (hSS.2.2.2 i hi) hb5⟩
            clear hSS hb5
            go_wp2_with fail
            cases r
            · refine hQ _ _ hS5 (EffS.nil_ (SegV.mk (fun w' => Blk w' gS 34 ST.toArray ∧ Blk w' gL 71 C.toArray ∧ w'.rangeAt gL 0 (u8s lid) ∧ ∀ i, j + 1 = i + 1 → w'.rangeAt b (off + i * 38) (u8s (pid i))) (fun _ h => h) hS5 ?_))
              iterate 3 (refine HoistK.yes (by rfl) (by kernel_rfl) ⟨?_, fun w' hSw => ?_, ?_⟩; rotate_left; (· have hc2 := hSw.1.cell 2; rw [HC2.out] at hc2; have h34 := hSw.2.1.cell 34; have h37 := hSw.2.1.cell 37; rw [getElem?_toArray, HC34.out] at h34; rw [getElem?_toArray, HC37.out] at h37; go_simp; try with_reducible rfl); simp only [Act.put, setIfInBounds_toArray, getElem_toArray, getElem_cons_succ, getElem_cons_zero, set_cons_succ, set_cons_zero])
              (refine HoistK.no (by rfl) (by kernel_rfl) ?_; simp only [Act.put, setIfInBounds_toArray, getElem_toArray, getElem_cons_succ, getElem_cons_zero, set_cons_succ, set_cons_zero])
              (refine HoistK.no (by rfl) (by kernel_rfl) ?_; simp only [Act.put, setIfInBounds_toArray, getElem_toArray, getElem_cons_succ, getElem_cons_zero, set_cons_succ, set_cons_zero])
              (refine HoistK.no (by rfl) (by kernel_rfl) ?_; simp only [Act.put, setIfInBounds_toArray, getElem_toArray, getElem_cons_succ, getElem_cons_zero, set_cons_succ, set_cons_zero])
              (refine HoistK.no (by rfl) (by kernel_rfl) ?_; simp only [Act.put, setIfInBounds_toArray, getElem_toArray, getElem_cons_succ, getElem_cons_zero, set_cons_succ, set_cons_zero])
              (refine HoistK.no (by rfl) (by kernel_rfl) ?_; simp only [Act.put, setIfInBounds_toArray, getElem_toArray, getElem_cons_succ, getElem_cons_zero, set_cons_succ, set_cons_zero])
              (refine HoistK.no (by rfl) (by kernel_rfl) ?_; simp only [Act.put, setIfInBounds_toArray, getElem_toArray, getElem_cons_succ, getElem_cons_zero, set_cons_succ, set_cons_zero])
              (refine HoistK.no (by rfl) (by kernel_rfl) ?_; simp only [Act.put, setIfInBounds_toArray, getElem_toArray, getElem_cons_succ, getElem_cons_zero, set_cons_succ, set_cons_zero])
              iterate 2 (refine HoistK.yes (by rfl) (by kernel_rfl) ⟨?_, fun w' hSw => ?_, ?_⟩; rotate_left; (· have hc2 := hSw.1.cell 2; rw [HC2.out] at hc2; have h34 := hSw.2.1.cell 34; have h37 := hSw.2.1.cell 37; rw [getElem?_toArray, HC34.out] at h34; rw [getElem?_toArray, HC37.out] at h37; go_simp; try with_reducible rfl); simp only [Act.put, setIfInBounds_toArray, getElem_toArray, getElem_cons_succ, getElem_cons_zero, set_cons_succ, set_cons_zero])
              (refine HoistK.no (by rfl) (by kernel_rfl) ?_; simp only [Act.put, setIfInBounds_toArray, getElem_toArray, getElem_cons_succ, getElem_cons_zero, set_cons_succ, set_cons_zero])
              (refine HoistK.no (by rfl) (by kernel_rfl) ?_; simp only [Act.put, setIfInBounds_toArray, getElem_toArray, getElem_cons_succ, getElem_cons_zero, set_cons_succ, set_cons_zero])
              (refine HoistK.no (by rfl) (by kernel_rfl) ?_; simp only [Act.put, setIfInBounds_toArray, getElem_toArray, getElem_cons_succ, getElem_cons_zero, set_cons_succ, set_cons_zero])
              (refine HoistK.no (by rfl) (by kernel_rfl) ?_; simp only [Act.put, setIfInBounds_toArray, getElem_toArray, getElem_cons_succ, getElem_cons_zero, set_cons_succ, set_cons_zero])
              (refine HoistK.no (by rfl) (by kernel_rfl) ?_; simp only [Act.put, setIfInBounds_toArray, getElem_toArray, getElem_cons_succ, getElem_cons_zero, set_cons_succ, set_cons_zero])
              (refine HoistK.no (by rfl) (by kernel_rfl) ?_; simp only [Act.put, setIfInBounds_toArray, getElem_toArray, getElem_cons_succ, getElem_cons_zero, set_cons_succ, set_cons_zero])
              (refine HoistK.no (by rfl) (by kernel_rfl) ?_; simp only [Act.put, setIfInBounds_toArray, getElem_toArray, getElem_cons_succ, getElem_cons_zero, set_cons_succ, set_cons_zero])
              (refine HoistK.no (by rfl) (by kernel_rfl) ?_; simp only [Act.put, setIfInBounds_toArray, getElem_toArray, getElem_cons_succ, getElem_cons_zero, set_cons_succ, set_cons_zero])
              (refine HoistK.no (by rfl) (by kernel_rfl) ?_; simp only [Act.put, setIfInBounds_toArray, getElem_toArray, getElem_cons_succ, getElem_cons_zero, set_cons_succ, set_cons_zero])
              (refine HoistK.no (by rfl) (by kernel_rfl) ?_; simp only [Act.put, setIfInBounds_toArray, getElem_toArray, getElem_cons_succ, getElem_cons_zero, set_cons_succ, set_cons_zero])
              (refine HoistK.no (by rfl) (by kernel_rfl) ?_; simp only [Act.put, setIfInBounds_toArray, getElem_toArray, getElem_cons_succ, getElem_cons_zero, set_cons_succ, set_cons_zero])
              (refine HoistK.no (by rfl) (by kernel_rfl) ?_; simp only [Act.put, setIfInBounds_toArray, getElem_toArray, getElem_cons_succ, getElem_cons_zero, set_cons_succ, set_cons_zero])
              refine HoistK.nil_ ?_
              simp only [opsAt, filterMap_cons, filterMap_nil, getElem?_toArray, getElem?_cons_succ, getElem?_cons_zero]
              refine EffS.cons_ fun _ hQ => ?_
              go_wp2_with fail
              have q34 := hS5.2.1.cell 34
              rw [getElem?_toArray, HC34.out] at q34
              refine hQ _ _ hS5 (EffS.nil_ fun _ hQ => ?_)
              go_wp2_with fail
              go_ret
              exact HFIN.out _ HB5.out
            · rcases hsc with ⟨rfl, rfl, hz⟩ | ⟨rfl, rfl, hz⟩ | ⟨rfl, rfl⟩ | ⟨rfl, rfl⟩ | ⟨rfl, h1, h2, h3⟩
              · have hz2 : decide (z < am) = true := decide_eq_true hz
                refine hQ _ _ hS5 (EffS.nil_ (SegV.mk (fun w' => Blk w' gS 34 ST.toArray ∧ Blk w' gL 71 C.toArray ∧ w'.rangeAt gL 0 (u8s lid) ∧ ∀ i, j + 1 = i + 1 → w'.rangeAt b (off + i * 38) (u8s (pid i))) (fun _ h => h) hS5 ?_))
                iterate 12 (refine HoistK.yes (by rfl) (by kernel_rfl) ⟨?_, fun w' hSw => ?_, ?_⟩; rotate_left; (· have hc2 := hSw.1.cell 2; rw [HC2.out] at hc2; have h34 := hSw.2.1.cell 34; have h37 := hSw.2.1.cell 37; rw [getElem?_toArray, HC34.out] at h34; rw [getElem?_toArray, HC37.out] at h37; go_simp; try with_reducible rfl); simp only [Act.put, setIfInBounds_toArray, getElem_toArray, getElem_cons_succ, getElem_cons_zero, set_cons_succ, set_cons_zero])
                (refine HoistK.no (by rfl) (by kernel_rfl) ?_; simp only [Act.put, setIfInBounds_toArray, getElem_toArray, getElem_cons_succ, getElem_cons_zero, set_cons_succ, set_cons_zero])
                (refine HoistK.no (by rfl) (by kernel_rfl) ?_; simp only [Act.put, setIfInBounds_toArray, getElem_toArray, getElem_cons_succ, getElem_cons_zero, set_cons_succ, set_cons_zero])
                (refine HoistK.no (by rfl) (by kernel_rfl) ?_; simp only [Act.put, setIfInBounds_toArray, getElem_toArray, getElem_cons_succ, getElem_cons_zero, set_cons_succ, set_cons_zero])
                (refine HoistK.no (by rfl) (by kernel_rfl) ?_; simp only [Act.put, setIfInBounds_toArray, getElem_toArray, getElem_cons_succ, getElem_cons_zero, set_cons_succ, set_cons_zero])
                (refine HoistK.no (by rfl) (by kernel_rfl) ?_; simp only [Act.put, setIfInBounds_toArray, getElem_toArray, getElem_cons_succ, getElem_cons_zero, set_cons_succ, set_cons_zero])
                (refine HoistK.no (by rfl) (by kernel_rfl) ?_; simp only [Act.put, setIfInBounds_toArray, getElem_toArray, getElem_cons_succ, getElem_cons_zero, set_cons_succ, set_cons_zero])
                (refine HoistK.no (by rfl) (by kernel_rfl) ?_; simp only [Act.put, setIfInBounds_toArray, getElem_toArray, getElem_cons_succ, getElem_cons_zero, set_cons_succ, set_cons_zero])
                (refine HoistK.no (by rfl) (by kernel_rfl) ?_; simp only [Act.put, setIfInBounds_toArray, getElem_toArray, getElem_cons_succ, getElem_cons_zero, set_cons_succ, set_cons_zero])
                (refine HoistK.no (by rfl) (by kernel_rfl) ?_; simp only [Act.put, setIfInBounds_toArray, getElem_toArray, getElem_cons_succ, getElem_cons_zero, set_cons_succ, set_cons_zero])
                (refine HoistK.no (by rfl) (by kernel_rfl) ?_; simp only [Act.put, setIfInBounds_toArray, getElem_toArray, getElem_cons_succ, getElem_cons_zero, set_cons_succ, set_cons_zero])
                (refine HoistK.no (by rfl) (by kernel_rfl) ?_; simp only [Act.put, setIfInBounds_toArray, getElem_toArray, getElem_cons_succ, getElem_cons_zero, set_cons_succ, set_cons_zero])
                (refine HoistK.no (by rfl) (by kernel_rfl) ?_; simp only [Act.put, setIfInBounds_toArray, getElem_toArray, getElem_cons_succ, getElem_cons_zero, set_cons_succ, set_cons_zero])
                refine HoistK.nil_ ?_
                simp only [opsAt, filterMap_cons, filterMap_nil, getElem?_toArray, getElem?_cons_succ, getElem?_cons_zero]
                refine EffS.cons_ fun _ hQ => ?_
                go_wp2_with fail
                have q34 := hS5.2.1.cell 34
                rw [getElem?_toArray, HC34.out] at q34
                refine hQ _ _ hS5 (EffS.nil_ fun _ hQ => ?_)
                go_wp2_with fail
                go_ret
                exact HFIN.out _ HB5.out
              · have hz2 : decide (z < am) = false := decide_eq_false (by omega)
                refine hQ _ _ hS5 (EffS.nil_ (SegV.mk (fun w' => Blk w' gS 34 ST.toArray ∧ Blk w' gL 71 C.toArray ∧ w'.rangeAt gL 0 (u8s lid) ∧ ∀ i, j + 1 = i + 1 → w'.rangeAt b (off + i * 38) (u8s (pid i))) (fun _ h => h) hS5 ?_))
                iterate 15 (refine HoistK.yes (by rfl) (by kernel_rfl) ⟨?_, fun w' hSw => ?_, ?_⟩; rotate_left; (· have hc2 := hSw.1.cell 2; rw [HC2.out] at hc2; have h34 := hSw.2.1.cell 34; have h37 := hSw.2.1.cell 37; rw [getElem?_toArray, HC34.out] at h34; rw [getElem?_toArray, HC37.out] at h37; go_simp; try with_reducible rfl); simp only [Act.put, setIfInBounds_toArray, getElem_toArray, getElem_cons_succ, getElem_cons_zero, set_cons_succ, set_cons_zero])
                (refine HoistK.no (by rfl) (by kernel_rfl) ?_; simp only [Act.put, setIfInBounds_toArray, getElem_toArray, getElem_cons_succ, getElem_cons_zero, set_cons_succ, set_cons_zero])
                (refine HoistK.no (by rfl) (by kernel_rfl) ?_; simp only [Act.put, setIfInBounds_toArray, getElem_toArray, getElem_cons_succ, getElem_cons_zero, set_cons_succ, set_cons_zero])
                (refine HoistK.no (by rfl) (by kernel_rfl) ?_; simp only [Act.put, setIfInBounds_toArray, getElem_toArray, getElem_cons_succ, getElem_cons_zero, set_cons_succ, set_cons_zero])
                iterate 2 (refine HoistK.yes (by rfl) (by kernel_rfl) ⟨?_, fun w' hSw => ?_, ?_⟩; rotate_left; (· have hc2 := hSw.1.cell 2; rw [HC2.out] at hc2; have h34 := hSw.2.1.cell 34; have h37 := hSw.2.1.cell 37; rw [getElem?_toArray, HC34.out] at h34; rw [getElem?_toArray, HC37.out] at h37; go_simp; try with_reducible rfl); simp only [Act.put, setIfInBounds_toArray, getElem_toArray, getElem_cons_succ, getElem_cons_zero, set_cons_succ, set_cons_zero])
                (refine HoistK.no (by rfl) (by kernel_rfl) ?_; simp only [Act.put, setIfInBounds_toArray, getElem_toArray, getElem_cons_succ, getElem_cons_zero, set_cons_succ, set_cons_zero])
                (refine HoistK.no (by rfl) (by kernel_rfl) ?_; simp only [Act.put, setIfInBounds_toArray, getElem_toArray, getElem_cons_succ, getElem_cons_zero, set_cons_succ, set_cons_zero])
                (refine HoistK.no (by rfl) (by kernel_rfl) ?_; simp only [Act.put, setIfInBounds_toArray, getElem_toArray, getElem_cons_succ, getElem_cons_zero, set_cons_succ, set_cons_zero])
                (refine HoistK.yes (by rfl) (by kernel_rfl) ⟨?_, fun w' hSw => ?_, ?_⟩; rotate_left; (· have hc2 := hSw.1.cell 2; rw [HC2.out] at hc2; have h34 := hSw.2.1.cell 34; have h37 := hSw.2.1.cell 37; rw [getElem?_toArray, HC34.out] at h34; rw [getElem?_toArray, HC37.out] at h37; go_simp; try with_reducible rfl); simp only [Act.put, setIfInBounds_toArray, getElem_toArray, getElem_cons_succ, getElem_cons_zero, set_cons_succ, set_cons_zero])
                refine HoistK.nil_ ?_
                simp only [opsAt, filterMap_cons, filterMap_nil, getElem?_toArray, getElem?_cons_succ, getElem?_cons_zero]
                refine EffS.cons_ fun _ hQ => ?_
                go_wp2_with fail
                have q34 := hS5.2.1.cell 34
                rw [getElem?_toArray, HC34.out] at q34
                refine hQ _ _ hS5 (EffS.nil_ fun _ hQ => ?_)
                go_wp2_with fail
                exact ⟨⟨j + 1 + 1, _, by omega, by push_cast; rfl, rfl, Lib.hid (HBB.out.out.trans (HB5.out.mono HBB.out.out.size))⟩, by simp only [intOf]; omega⟩
              · refine hQ _ _ hS5 (EffS.nil_ (SegV.mk (fun w' => Blk w' gS 34 ST.toArray ∧ Blk w' gL 71 C.toArray ∧ w'.rangeAt gL 0 (u8s lid) ∧ ∀ i, j + 1 = i + 1 → w'.rangeAt b (off + i * 38) (u8s (pid i))) (fun _ h => h) hS5 ?_))
                iterate 5 (refine HoistK.yes (by rfl) (by kernel_rfl) ⟨?_, fun w' hSw => ?_, ?_⟩; rotate_left; (· have hc2 := hSw.1.cell 2; rw [HC2.out] at hc2; have h34 := hSw.2.1.cell 34; have h37 := hSw.2.1.cell 37; rw [getElem?_toArray, HC34.out] at h34; rw [getElem?_toArray, HC37.out] at h37; go_simp; try with_reducible rfl); simp only [Act.put, setIfInBounds_toArray, getElem_toArray, getElem_cons_succ, getElem_cons_zero, set_cons_succ, set_cons_zero])
                (refine HoistK.no (by rfl) (by kernel_rfl) ?_; simp only [Act.put, setIfInBounds_toArray, getElem_toArray, getElem_cons_succ, getElem_cons_zero, set_cons_succ, set_cons_zero])
                (refine HoistK.no (by rfl) (by kernel_rfl) ?_; simp only [Act.put, setIfInBounds_toArray, getElem_toArray, getElem_cons_succ, getElem_cons_zero, set_cons_succ, set_cons_zero])
                (refine HoistK.no (by rfl) (by kernel_rfl) ?_; simp only [Act.put, setIfInBounds_toArray, getElem_toArray, getElem_cons_succ, getElem_cons_zero, set_cons_succ, set_cons_zero])
                (refine HoistK.no (by rfl) (by kernel_rfl) ?_; simp only [Act.put, setIfInBounds_toArray, getElem_toArray, getElem_cons_succ, getElem_cons_zero, set_cons_succ, set_cons_zero])
                iterate 11 (refine HoistK.yes (by rfl) (by kernel_rfl) ⟨?_, fun w' hSw => ?_, ?_⟩; rotate_left; (· have hc2 := hSw.1.cell 2; rw [HC2.out] at hc2; have h34 := hSw.2.1.cell 34; have h37 := hSw.2.1.cell 37; rw [getElem?_toArray, HC34.out] at h34; rw [getElem?_toArray, HC37.out] at h37; go_simp; try with_reducible rfl); simp only [Act.put, setIfInBounds_toArray, getElem_toArray, getElem_cons_succ, getElem_cons_zero, set_cons_succ, set_cons_zero])
                (refine HoistK.no (by rfl) (by kernel_rfl) ?_; simp only [Act.put, setIfInBounds_toArray, getElem_toArray, getElem_cons_succ, getElem_cons_zero, set_cons_succ, set_cons_zero])
                (refine HoistK.no (by rfl) (by kernel_rfl) ?_; simp only [Act.put, setIfInBounds_toArray, getElem_toArray, getElem_cons_succ, getElem_cons_zero, set_cons_succ, set_cons_zero])
                (refine HoistK.no (by rfl) (by kernel_rfl) ?_; simp only [Act.put, setIfInBounds_toArray, getElem_toArray, getElem_cons_succ, getElem_cons_zero, set_cons_succ, set_cons_zero])
                (refine HoistK.yes (by rfl) (by kernel_rfl) ⟨?_, fun w' hSw => ?_, ?_⟩; rotate_left; (· have hc2 := hSw.1.cell 2; rw [HC2.out] at hc2; have h34 := hSw.2.1.cell 34; have h37 := hSw.2.1.cell 37; rw [getElem?_toArray, HC34.out] at h34; rw [getElem?_toArray, HC37.out] at h37; go_simp; try with_reducible rfl); simp only [Act.put, setIfInBounds_toArray, getElem_toArray, getElem_cons_succ, getElem_cons_zero, set_cons_succ, set_cons_zero])
                refine HoistK.nil_ ?_
                simp only [opsAt, filterMap_cons, filterMap_nil, getElem?_toArray, getElem?_cons_succ, getElem?_cons_zero]
                refine EffS.cons_ fun _ hQ => ?_
                go_wp2_with fail
                have q34 := hS5.2.1.cell 34
                rw [getElem?_toArray, HC34.out] at q34
                refine hQ _ _ hS5 (EffS.nil_ fun _ hQ => ?_)
                go_wp2_with fail
                exact ⟨⟨j + 1 + 1, _, by omega, by push_cast; rfl, rfl, Lib.hid (HBB.out.out.trans (HB5.out.mono HBB.out.out.size))⟩, by simp only [intOf]; omega⟩
              · refine hQ _ _ hS5 (EffS.nil_ (SegV.mk (fun w' => Blk w' gS 34 ST.toArray ∧ Blk w' gL 71 C.toArray ∧ w'.rangeAt gL 0 (u8s lid) ∧ ∀ i, j + 1 = i + 1 → w'.rangeAt b (off + i * 38) (u8s (pid i))) (fun _ h => h) hS5 ?_))
                iterate 5 (refine HoistK.yes (by rfl) (by kernel_rfl) ⟨?_, fun w' hSw => ?_, ?_⟩; rotate_left; (· have hc2 := hSw.1.cell 2; rw [HC2.out] at hc2; have h34 := hSw.2.1.cell 34; have h37 := hSw.2.1.cell 37; rw [getElem?_toArray, HC34.out] at h34; rw [getElem?_toArray, HC37.out] at h37; go_simp; try with_reducible rfl); simp only [Act.put, setIfInBounds_toArray, getElem_toArray, getElem_cons_succ, getElem_cons_zero, set_cons_succ, set_cons_zero])
                (refine HoistK.no (by rfl) (by kernel_rfl) ?_; simp only [Act.put, setIfInBounds_toArray, getElem_toArray, getElem_cons_succ, getElem_cons_zero, set_cons_succ, set_cons_zero])
                (refine HoistK.no (by rfl) (by kernel_rfl) ?_; simp only [Act.put, setIfInBounds_toArray, getElem_toArray, getElem_cons_succ, getElem_cons_zero, set_cons_succ, set_cons_zero])
                (refine HoistK.no (by rfl) (by kernel_rfl) ?_; simp only [Act.put, setIfInBounds_toArray, getElem_toArray, getElem_cons_succ, getElem_cons_zero, set_cons_succ, set_cons_zero])
                (refine HoistK.no (by rfl) (by kernel_rfl) ?_; simp only [Act.put, setIfInBounds_toArray, getElem_toArray, getElem_cons_succ, getElem_cons_zero, set_cons_succ, set_cons_zero])
                iterate 15 (refine HoistK.yes (by rfl) (by kernel_rfl) ⟨?_, fun w' hSw => ?_, ?_⟩; rotate_left; (· have hc2 := hSw.1.cell 2; rw [HC2.out] at hc2; have h34 := hSw.2.1.cell 34; have h37 := hSw.2.1.cell 37; rw [getElem?_toArray, HC34.out] at h34; rw [getElem?_toArray, HC37.out] at h37; go_simp; try with_reducible rfl); simp only [Act.put, setIfInBounds_toArray, getElem_toArray, getElem_cons_succ, getElem_cons_zero, set_cons_succ, set_cons_zero])
                refine HoistK.nil_ ?_
                simp only [opsAt, filterMap_cons, filterMap_nil, getElem?_toArray, getElem?_cons_succ, getElem?_cons_zero]
                refine EffS.cons_ fun _ hQ => ?_
                go_wp2_with fail
                have q34 := hS5.2.1.cell 34
                rw [getElem?_toArray, HC34.out] at q34
                refine hQ _ _ hS5 (EffS.nil_ fun _ hQ => ?_)
                go_wp2_with fail
                exact ⟨⟨j + 1 + 1, _, by omega, by push_cast; rfl, rfl, Lib.hid (HBB.out.out.trans (HB5.out.mono HBB.out.out.size))⟩, by simp only [intOf]; omega⟩
              · have g1 : ¬ st = 1 := by simpa using h1
                have g2 : ¬ st = 2 := by simpa using h2
                have g3 : ¬ st = 3 := by simpa using h3
                have k2 : (st != 2) = true := by simpa using h2
                have k3 : (st != 3) = true := by simpa using h3
                refine hQ _ _ hS5 (EffS.nil_ (SegV.mk (fun w' => Blk w' gS 34 ST.toArray ∧ Blk w' gL 71 C.toArray ∧ w'.rangeAt gL 0 (u8s lid) ∧ ∀ i, j + 1 = i + 1 → w'.rangeAt b (off + i * 38) (u8s (pid i))) (fun _ h => h) hS5 ?_))
                iterate 5 (refine HoistK.yes (by rfl) (by kernel_rfl) ⟨?_, fun w' hSw => ?_, ?_⟩; rotate_left; (· have hc2 := hSw.1.cell 2; rw [HC2.out] at hc2; have h34 := hSw.2.1.cell 34; have h37 := hSw.2.1.cell 37; rw [getElem?_toArray, HC34.out] at h34; rw [getElem?_toArray, HC37.out] at h37; go_simp; try with_reducible rfl); simp only [Act.put, setIfInBounds_toArray, getElem_toArray, getElem_cons_succ, getElem_cons_zero, set_cons_succ, set_cons_zero])
                (refine HoistK.no (by rfl) (by kernel_rfl) ?_; simp only [Act.put, setIfInBounds_toArray, getElem_toArray, getElem_cons_succ, getElem_cons_zero, set_cons_succ, set_cons_zero])
                (refine HoistK.no (by rfl) (by kernel_rfl) ?_; simp only [Act.put, setIfInBounds_toArray, getElem_toArray, getElem_cons_succ, getElem_cons_zero, set_cons_succ, set_cons_zero])
                (refine HoistK.no (by rfl) (by kernel_rfl) ?_; simp only [Act.put, setIfInBounds_toArray, getElem_toArray, getElem_cons_succ, getElem_cons_zero, set_cons_succ, set_cons_zero])
                (refine HoistK.no (by rfl) (by kernel_rfl) ?_; simp only [Act.put, setIfInBounds_toArray, getElem_toArray, getElem_cons_succ, getElem_cons_zero, set_cons_succ, set_cons_zero])
                iterate 15 (refine HoistK.yes (by rfl) (by kernel_rfl) ⟨?_, fun w' hSw => ?_, ?_⟩; rotate_left; (· have hc2 := hSw.1.cell 2; rw [HC2.out] at hc2; have h34 := hSw.2.1.cell 34; have h37 := hSw.2.1.cell 37; rw [getElem?_toArray, HC34.out] at h34; rw [getElem?_toArray, HC37.out] at h37; go_simp; try with_reducible rfl); simp only [Act.put, setIfInBounds_toArray, getElem_toArray, getElem_cons_succ, getElem_cons_zero, set_cons_succ, set_cons_zero])
                refine HoistK.nil_ ?_
                simp only [opsAt, filterMap_cons, filterMap_nil, getElem?_toArray, getElem?_cons_succ, getElem?_cons_zero]
                refine EffS.cons_ fun _ hQ => ?_
                go_wp2_with fail
                have q34 := hS5.2.1.cell 34
                rw [getElem?_toArray, HC34.out] at q34
                refine hQ _ _ hS5 (EffS.nil_ fun _ hQ => ?_)
                go_wp2_with fail
                all_goals first | (go_ret; exact HFIN.out _ HB5.out) | exact ⟨⟨j + 1 + 1, _, by omega, by push_cast; rfl, rfl, Lib.hid (HBB.out.out.trans (HB5.out.mono HBB.out.out.size))⟩, by simp only [intOf]; omega⟩
        · have hk' : k = nL := by omega
          subst hk'
          have HB2 := Lib.hid (HB1.out.trans (hb.out.mono HB1.out.size))
          obtain ⟨w2, hw2⟩ : ∃ w2, w2 = wr := ⟨_, rfl⟩
          rw [← hw2] at hbk HB2 hc1 ⊢
          have HBK2 := Lib.hid hbk
          clear hw2 hb hbk HBK HB1 hk
          have hc3 := HBK2.out.cell 3
          rw [HT3.out] at hc3
          go_wp2_with fail
          clear hc1 hc3
          go_loopw [8] (fun i wr => ∃ j : Nat, (j = 0 ∨ j < nC) ∧ i = .int .i64 (j + 1 : Nat) ∧ Hid (Below w2.heap.size w2 wr)) (fun i _ => nC - (intOf i).toNat)
          case atStart => exact ⟨0, .inl rfl, rfl, Lib.hid (Below.refl _ _)⟩
          case round =>
            obtain ⟨j, hj, rfl, hb⟩ := hrel
            have hbk := HBK2.out.below hb.out HBK2.out.lt
            have hc1 := hbk.cell 3
            rw [HT3.out] at hc1
            have HFIN := Lib.hid (show ∀ (wx : World), Below wr.heap.size wr wx → (∃ r, Ending.returned (.bool false) = .returned (.bool r) ∧ (r = true → SortA (accX x))) ∧ Below w.heap.size w wx from fun wx hx => ⟨⟨false, rfl, by simp⟩, HB2.out.trans ((hb.out.trans (hx.mono hb.out.size)).mono HB2.out.size)⟩)
            by_cases hlt : j + 1 < nC
            · have hkl : j + 1 < (consX x).length := by have := EC.out; omega
              have HC2 := HT3
              obtain ⟨A', c', e, _, hat⟩ := list_at (Sh.rep_below (Sh.rep_below HC.out HB2.out) hb.out)
              injection e with e1 e2 e3
              subst e1; subst e3
              clear e2
              obtain ⟨b, off, C, rfl, hr, hrep, _⟩ := hat (j + 1) hkl
              obtain ⟨b', off', C', e, hr', hrep', _⟩ := hat j (by omega)
              injection e with e
              injection e with e1 e2 _
              subst e1; subst e2
              obtain ⟨lid, hlid⟩ : ∃ lid : List UInt8, lid = (consX x)[j + 1] := ⟨_, rfl⟩
              obtain ⟨pid, hpid⟩ : ∃ pid : List UInt8, pid = (consX x)[j]'(by omega) := ⟨_, rfl⟩
              obtain ⟨rfl, hq1⟩ := hrep
              obtain ⟨rfl, hq2⟩ := hrep'
              have hr1 : wr.rangeAt b (off + (j + 1) * 32) (u8s lid) := by rw [hlid]; exact hr
              have hr2 : wr.rangeAt b (off + j * 32) (u8s pid) := by rw [hpid]; exact hr'
              have hl1 : lid.length = 32 := by rw [hlid]; exact hq1
              have hl2 : pid.length = 32 := by rw [hpid]; exact hq2
              have HLI := Lib.hid (digS_size (C := u8s lid) (by rw [u8s_length]; exact hl1))
              have HPI := Lib.hid (digS_size (C := u8s pid) (by rw [u8s_length]; exact hl2))
              have HL1 := Lib.hid hl1
              have HL2 := Lib.hid hl2
              have hSS : Blk wr.drew gS 34 ST.toArray ∧ wr.drew.rangeAt b (off + (j + 1) * 32) (u8s lid) ∧ wr.drew.rangeAt b (off + j * 32) (u8s pid) := ⟨hbk.drew, hr1, hr2⟩
              have HBB := Lib.hid hb
              clear hat hr hr' hr1 hr2 hl1 hl2 hq1 hq2 hlid hpid hbk hb
              have hj1 : (j : Int) < (nC : Int) := by omega
              have hj2 : (j : Int) + 1 < (nC : Int) := by omega
              have hj3 : (0 : Int) ≤ (j : Int) + 1 := by omega
              have hj0 : (0 : Int) ≤ (j : Int) := by omega
              have hwj : IntKind.i64.wrap (j : Int) = (j : Int) := by simp [IntKind.wrap, IntKind.signed, IntKind.bits]; omega
              go_wp2_with fail
              refine wp_region_segsV [([0, 1, 2, 3, 4, 5, 6, 7, 8, 9, 10], [11]), ([], [12])] (by kernel_rfl) (by kernel_rfl) (by kernel_rfl) (by kernel_rfl)
                (SegV.mk (fun w' => Blk w' gS 34 ST.toArray ∧ w'.rangeAt b (off + (j + 1) * 32) (u8s lid) ∧ w'.rangeAt b (off + j * 32) (u8s pid)) (fun _ _ => trivial) hSS ?_)
              (refine HoistK.yes (by rfl) (by kernel_rfl) ⟨?_, fun w' hSw => ?_, ?_⟩; rotate_left; (· have hc2 := hSw.1.cell 3; rw [HC2.out] at hc2; go_simp; try with_reducible rfl); simp only [Act.put, setIfInBounds_toArray, getElem_toArray, getElem_cons_zero, set_cons_succ, set_cons_zero])
              iterate 3 (refine HoistK.yes (by rfl) (by kernel_rfl) ⟨?_, fun w' hSw => ?_, ?_⟩; rotate_left; (· have hc2 := hSw.1.cell 3; rw [HC2.out] at hc2; go_simp; try with_reducible rfl); simp only [Act.put, setIfInBounds_toArray, getElem_toArray, getElem_cons_succ, getElem_cons_zero, set_cons_succ, set_cons_zero])
              (refine HoistK.load (by rfl) (by kernel_rfl) 37 _ rfl b (off + (j + 1) * 32) rfl (u8s lid) _ (fun w' hw => hw.2.1) Tryz.underlying37 rfl HLI.out ?_; simp only [Act.put, setIfInBounds_toArray, getElem_toArray, getElem_cons_succ, getElem_cons_zero, set_cons_succ, set_cons_zero])
              iterate 5 (refine HoistK.yes (by rfl) (by kernel_rfl) ⟨?_, fun w' hSw => ?_, ?_⟩; rotate_left; (· have hc2 := hSw.1.cell 3; rw [HC2.out] at hc2; go_simp; try with_reducible rfl); simp only [Act.put, setIfInBounds_toArray, getElem_toArray, getElem_cons_succ, getElem_cons_zero, set_cons_succ, set_cons_zero])
              (refine HoistK.load (by rfl) (by kernel_rfl) 37 _ rfl b (off + j * 32) rfl (u8s pid) _ (fun w' hw => hw.2.2) Tryz.underlying37 rfl HPI.out ?_; simp only [Act.put, setIfInBounds_toArray, getElem_toArray, getElem_cons_succ, getElem_cons_zero, set_cons_succ, set_cons_zero])
              refine HoistK.nil_ ?_
              simp only [opsAt, filterMap_cons, filterMap_nil, getElem?_toArray, getElem?_cons_succ, getElem?_cons_zero]
              refine EffS.cons_ fun _ hQ => ?_
              go_wp2_with fail
              refine (above_any wr.drew lid pid HL1.out HL2.out).mono ?_
              rintro e w5 ⟨⟨r, rfl⟩, hb5⟩
              have HB5 := Lib.hid ((Below.refl wr.heap.size wr).drew.trans hb5)
              have hS5 : Blk w5 gS 34 ST.toArray ∧ w5.rangeAt b (off + (j + 1) * 32) (u8s lid) ∧ w5.rangeAt b (off + j * 32) (u8s pid) := ⟨hSS.1.below hb5 hSS.1.lt, range_low hSS.2.1 hb5, range_low hSS.2.2 hb5⟩
              clear hSS hb5
              go_wp2_with fail
              refine hQ _ _ hS5 (EffS.nil_ (SegV.mk (fun w' => Blk w' gS 34 ST.toArray ∧ w'.rangeAt b (off + (j + 1) * 32) (u8s lid) ∧ w'.rangeAt b (off + j * 32) (u8s pid)) (fun _ h => h) hS5 ?_))
              refine HoistK.nil_ ?_
              simp only [opsAt, filterMap_cons, filterMap_nil, getElem?_toArray, getElem?_cons_succ, getElem?_cons_zero]
              refine EffS.cons_ fun _ hQ => ?_
              go_wp2_with fail
              refine hQ _ _ hS5 (EffS.nil_ fun _ hQ => ?_)
              cases r
              · go_wp2_with fail
                go_ret
                exact HFIN.out _ HB5.out
              · go_wp2_with fail
                exact ⟨⟨j + 1, .inr hlt, by push_cast; rfl, Lib.hid (HBB.out.trans (HB5.out.mono HBB.out.size))⟩, by simp only [intOf]; omega⟩
            · have HB3 := Lib.hid (HB2.out.trans (hb.out.mono HB2.out.size))
              obtain ⟨w3, hw3⟩ : ∃ w3, w3 = wr := ⟨_, rfl⟩
              rw [← hw3] at hbk HB3 hc1 ⊢
              obtain ⟨kk, hkk⟩ : ∃ kk, kk = j + 1 := ⟨_, rfl⟩
              rw [← hkk] at hlt ⊢
              clear hkk hj
              have HBK3 := Lib.hid hbk
              clear hw3 hb hbk HBK2 HB2 HFIN
              have hc3 := HBK3.out.cell 4
              rw [HT4.out] at hc3
              go_wp2_with fail
              clear hc1 hc3
              go_loopw [9] (fun i wr => ∃ j : Nat, (j = 0 ∨ j < nR) ∧ i = .int .i64 (j + 1 : Nat) ∧ Hid (Below w3.heap.size w3 wr)) (fun i _ => nR - (intOf i).toNat)
              case atStart => exact ⟨0, .inl rfl, rfl, Lib.hid (Below.refl _ _)⟩
              case round =>
                obtain ⟨j, hj, rfl, hb⟩ := hrel
                have hbk := HBK3.out.below hb.out HBK3.out.lt
                have hc1 := hbk.cell 4
                rw [HT4.out] at hc1
                have HFIN := Lib.hid (show ∀ (wx : World), Below wr.heap.size wr wx → (∃ r, Ending.returned (.bool false) = .returned (.bool r) ∧ (r = true → SortA (accX x))) ∧ Below w.heap.size w wx from fun wx hx => ⟨⟨false, rfl, by simp⟩, HB3.out.trans ((hb.out.trans (hx.mono hb.out.size)).mono HB3.out.size)⟩)
                by_cases hlt : j + 1 < nR
                · have hkl : j + 1 < (recX x).length := by have := ER.out; omega
                  obtain ⟨A', c', e, _, hat⟩ := list_at (Sh.rep_below (Sh.rep_below HR.out HB3.out) hb.out)
                  injection e with e1 e2 e3
                  subst e1; subst e3
                  clear e2
                  obtain ⟨b, off, C, rfl, hr, hrep, _⟩ := hat (j + 1) hkl
                  obtain ⟨b', off', C', e, hr', hrep', _⟩ := hat j (by omega)
                  injection e with e
                  injection e with e1 e2 _
                  subst e1; subst e2
                  obtain ⟨v1, hv1⟩ : ∃ v : Int, wr.cell? ⟨b, off + (j + 1) * 3, none⟩ = some (.int .i64 v) := by obtain ⟨c0, _, rfl, ⟨rfl, _⟩, _⟩ := hrep; exact ⟨_, hr 0 _ rfl⟩
                  obtain ⟨v2, hv2⟩ : ∃ v : Int, wr.cell? ⟨b, off + j * 3, none⟩ = some (.int .i64 v) := by obtain ⟨c0, _, rfl, ⟨rfl, _⟩, _⟩ := hrep'; exact ⟨_, hr' 0 _ rfl⟩
                  have HBB := Lib.hid hb
                  clear hat hr hr' hrep hrep' hbk hb
                  by_cases hge : v1 ≤ v2
                  · have hd : decide (v1 ≤ v2) = true := decide_eq_true hge
                    go_wp2_with fail
                    go_quiet (fail)
                    go_wp2_with fail
                    go_ret
                    exact HFIN.out _ (below_drewN (Below.refl _ _) nq)
                  · have hd : decide (v1 ≤ v2) = false := decide_eq_false hge
                    clear hge
                    go_wp2_with fail
                    go_quiet (fail)
                    go_wp2_with fail
                    exact ⟨⟨j + 1, .inr hlt, by push_cast; rfl, Lib.hid (below_drewN HBB.out nq)⟩, by simp only [intOf]; omega⟩
                · have HB4 := Lib.hid (HB3.out.trans (hb.out.mono HB3.out.size))
                  obtain ⟨w4, hw4⟩ : ∃ w4, w4 = wr := ⟨_, rfl⟩
                  rw [← hw4] at hbk HB4 hc1 ⊢
                  obtain ⟨kk, hkk⟩ : ∃ kk, kk = j + 1 := ⟨_, rfl⟩
                  rw [← hkk] at hlt ⊢
                  clear hkk hj
                  have HBK4 := Lib.hid hbk
                  clear hw4 hb hbk HBK3 HB3 HFIN
                  have hc3 := HBK4.out.cell 5
                  rw [HT5.out] at hc3
                  go_wp2_with fail
                  clear hc1 hc3
                  go_loopw [10] (fun i wr => ∃ j : Nat, (j = 0 ∨ j < nM) ∧ i = .int .i64 (j + 1 : Nat) ∧ Hid (Below w4.heap.size w4 wr)) (fun i _ => nM - (intOf i).toNat)
                  case atStart => exact ⟨0, .inl rfl, rfl, Lib.hid (Below.refl _ _)⟩
                  case round =>
                    obtain ⟨j, hj, rfl, hb⟩ := hrel
                    have hbk := HBK4.out.below hb.out HBK4.out.lt
                    have hc1 := hbk.cell 5
                    rw [HT5.out] at hc1
                    have HFIN := Lib.hid (show ∀ (wx : World), Below wr.heap.size wr wx → (∃ r, Ending.returned (.bool false) = .returned (.bool r) ∧ (r = true → SortA (accX x))) ∧ Below w.heap.size w wx from fun wx hx => ⟨⟨false, rfl, by simp⟩, HB4.out.trans ((hb.out.trans (hx.mono hb.out.size)).mono HB4.out.size)⟩)
                    by_cases hlt : j + 1 < nM
                    · have hkl : j + 1 < (memX x).length := by have := EM.out; omega
                      obtain ⟨A', c', e, _, hat⟩ := list_at (Sh.rep_below (Sh.rep_below HM.out HB4.out) hb.out)
                      injection e with e1 e2 e3
                      subst e1; subst e3
                      clear e2
                      obtain ⟨b, off, C, rfl, hr, hrep, _⟩ := hat (j + 1) hkl
                      obtain ⟨b', off', C', e, hr', hrep', _⟩ := hat j (by omega)
                      injection e with e
                      injection e with e1 e2 _
                      subst e1; subst e2
                      obtain ⟨v1, hv1⟩ : ∃ v : Int, wr.cell? ⟨b, off + (j + 1) * 1, none⟩ = some (.int .i64 v) := by obtain ⟨rfl, _⟩ := hrep; exact ⟨_, hr 0 _ rfl⟩
                      obtain ⟨v2, hv2⟩ : ∃ v : Int, wr.cell? ⟨b, off + j * 1, none⟩ = some (.int .i64 v) := by obtain ⟨rfl, _⟩ := hrep'; exact ⟨_, hr' 0 _ rfl⟩
                      have HBB := Lib.hid hb
                      clear hat hr hr' hrep hrep' hbk hb
                      rw [Nat.mul_one] at hv1 hv2
                      by_cases hge : v1 ≤ v2
                      · have hd : decide (v1 ≤ v2) = true := decide_eq_true hge
                        go_wp2_with fail
                        go_quiet (fail)
                        go_wp2_with fail
                        go_ret
                        exact HFIN.out _ (below_drewN (Below.refl _ _) nq)
                      · have hd : decide (v1 ≤ v2) = false := decide_eq_false hge
                        clear hge
                        go_wp2_with fail
                        go_quiet (fail)
                        go_wp2_with fail
                        exact ⟨⟨j + 1, .inr hlt, by push_cast; rfl, Lib.hid (below_drewN HBB.out nq)⟩, by simp only [intOf]; omega⟩
                    · have HBE := Lib.hid (HB4.out.trans (hb.out.mono HB4.out.size))
                      clear hb
                      go_wp2_with fail
                      go_ret
                      exact ⟨⟨true, rfl, fun _ => HSO.out⟩, HBE.out⟩
end
section
open Go.RowKit Go.Maps
theorem sta_of {w : World} {S : Nat → Prop} {x : StE} {ss : List Value} (h : tState.rep w S x ss) (hl : (accX x).length ≤ 1099511627776) : StA w S (accX x) ss := by
  have h1 := Sh.rep_one _ _ _ h
  obtain ⟨c, vA, vL, vC, vR, vM, rfl, hA, _⟩ := st_parts h
  obtain ⟨A, cap, rfl, _, hat⟩ := list_at hA
  refine ⟨rfl, h1, hl, A, cap, rfl, ?_⟩
  obtain ⟨v', css, e, hcs, _⟩ := hA
  obtain rfl : Value.slice A (accX x).length cap = v' := by simpa using e
  obtain ⟨_, A', cap', e, hn, hc, hp⟩ := hcs
  injection e with e1 e2 e3
  subst e1; subst e3
  refine ⟨hn, hc, fun h0 => ?_⟩
  obtain ⟨b, off, rfl, hS, hlt, _⟩ := hp h0
  refine ⟨b, off, rfl, hS, hlt, fun k hk => ?_⟩
  obtain ⟨b', off', C, e, hr, hrep, _⟩ := hat k hk
  injection e with e
  injection e with e1 e2 _
  subst e1; subst e2
  rw [acc_cells hrep] at hr
  exact hr
theorem acc_len {x : StE} (h : (tState.enc x).length ≤ 1099511627776) : (accX x).length ≤ 1099511627776 := by
  obtain ⟨x0, x1, x2, x3, x4, x5, x6⟩ := x
  have h : (joinB (Fs.encs _ _)).length ≤ _ := h
  rw [joinB_length] at h
  have h1 := joinP_mem (l := Fs.encs (.cons i64 (.cons (.list tAccount) (.cons (.list tLock) (.cons (.list .dig) (.cons (.list tRecord) (.cons (.list i64) .nil)))))) (x0, x1, x2, x3, x4, x5, x6)) (x := (Sh.list tAccount).enc x1) (by simp [Fs.encs])
  have h2 : (joinB (x1.map tAccount.enc)).length + 8 ≤ _ := h1
  rw [joinB_length] at h2
  have h3 := joinP_count (List.map (Sh.enc tAccount) x1)
  rw [List.length_map] at h3
  show List.length x1 ≤ _
  omega
theorem tx_len {l : List TxE} (h : ((Sh.list tTx).enc l).length ≤ 1099511627776) : ∀ x ∈ l, (tTx.enc x).length ≤ 1099511627776 := fun x hx => by
  have h : (joinB (l.map tTx.enc)).length ≤ _ := h
  rw [joinB_length] at h
  have h1 := joinP_mem (List.mem_map.2 ⟨x, hx, rfl⟩ : tTx.enc x ∈ l.map tTx.enc)
  omega
def PoolB (w0 w : World) (g : Nat) (v : Value) (most : Nat) (X : List TxE) : Prop :=
  PoolX w g v most X ∧ Below w0.heap.size w0 w ∧ w0.heap.size ≤ g ∧ ∀ b, v.ownBlock = some b → w0.heap.size ≤ b
theorem PoolB.below {w0 w w' : World} {g most : Nat} {v : Value} {X : List TxE} (h : PoolB w0 w g v most X) (hb : Below w.heap.size w w') : PoolB w0 w' g v most X :=
  ⟨⟨h.1.1.below hb, h.1.2⟩, h.2.1.trans (hb.mono h.2.1.size), h.2.2⟩
theorem PoolB.to {w0 w w' : World} {g most : Nat} {v v' : Value} {X X' : List TxE} (h : PoolB w0 w g v most X) (hp : PoolX w' g v' most X') (hc : Chg (fun b => b = g ∨ v.ownBlock = some b) w w') (hv : v'.ownBlock = v.ownBlock ∨ ∃ k, v'.ownBlock = some k ∧ w.heap.size ≤ k) : PoolB w0 w' g v' most X' := by
  obtain ⟨h1, h2, h3, h4⟩ := h
  refine ⟨hp, h2.trans (hc.below h2.size ?_), h3, fun b hb => ?_⟩
  · rintro b (e | e)
    · rw [e]; exact h3
    · exact h4 b e
  · rcases hv with e | ⟨k, e, hk⟩
    · exact h4 b (e ▸ hb)
    · rw [e] at hb; injection hb with hb; subst hb
      have := h2.size; omega
theorem addB_any (w0 w : World) {S T : Nat → Prop} {l : List (Int × Int × Int × Unit)} {ss cs : List Value} {x : TxE} {g most : Nat} {v : Value} {X : List TxE} (hs : StA w S l ss) (h : tTx.rep w T x cs) (hp : PoolB w0 w g v most X) (hl : (tTx.enc x).length ≤ 1099511627776) :
    Calls Tryz.prog 13 #[.pointer (some ⟨g, 0, none⟩), .agg ss.toArray, .agg cs.toArray] w fun e w' => e = .returned (.int .i64 (addE l most (encsX X) x)) ∧ Below w0.heap.size w w' ∧ ∃ v', PoolB w0 w' g v' most (addX l most X x) := by
  refine (addX_any w hs h hp.1 hl).mono ?_
  rintro e w' ⟨rfl, v', hpx, hc, hv⟩
  refine ⟨rfl, hc.below hp.2.1.size ?_, v', hp.to hpx hc hv⟩
  rintro b (e | e)
  · rw [e]; exact hp.2.2.1
  · exact hp.2.2.2 b e
theorem newB_any (w : World) (most : Int) : Calls Tryz.prog 10 #[.int .i64 most] w fun e w' => e = .returned (.pointer (some ⟨w.heap.size, 0, none⟩)) ∧ PoolB w w' w.heap.size (.slice none 0 0) (min (max most 0) 32).toNat [] := by
  refine (poolNew_any w most).mono ?_
  rintro e w' ⟨rfl, hp, hb⟩
  exact ⟨rfl, ⟨hp, fun x hx => by cases hx⟩, hb, Nat.le_refl _, fun b hb => by simp [Value.ownBlock] at hb⟩
theorem blk_low {w0 w : World} {g : Nat} {t : TypeId} {cs : Array Value} (h : Blk w0 g t cs) (hb : Below w0.heap.size w0 w) : Blk w g t cs := h.below hb h.lt
theorem addX_len {l : List (Int × Int × Int × Unit)} {most : Nat} {X : List TxE} {x : TxE} : (addE l most (encsX X) x = 0 → (addX l most X x).length = X.length + 1) ∧ (addE l most (encsX X) x ≠ 0 → addX l most X x = X) := by
  unfold addX
  exact ⟨fun h => by rw [if_pos h, List.length_append]; rfl, fun h => if_neg h⟩
theorem addE_twice {l : List (Int × Int × Int × Unit)} {most : Nat} {X : List TxE} {x : TxE} : (addE l most (encsX X) x = 0 → addE l most (encsX (addX l most X x)) x = 31) ∧ (addE l most (encsX X) x ≠ 0 → addE l most (encsX (addX l most X x)) x = addE l most (encsX X) x) := by
  have h := addE_again (accts := l) (most := most) (L := encsX X) (x := x)
  rw [← addX_encs] at h
  exact ⟨fun h0 => by rw [if_pos h0] at h; exact h, fun h0 => by rw [if_neg h0] at h; exact h⟩
theorem addX_twice {l : List (Int × Int × Int × Unit)} {most : Nat} {X : List TxE} {x : TxE} : addX l most (addX l most X x) x = addX l most X x := by
  by_cases h : addE l most (encsX X) x = 0
  · exact addX_len.2 (by rw [addE_twice.1 h]; decide)
  · exact addX_len.2 (by rw [addE_twice.2 h]; exact h)
end
section
open Go.ChangeShapes Go.WideShapes Go.ChangeAt Go.RowKit
theorem pk_gF : Tryz.prog.globalNamed "wapentake/codec.errForm" = some 1 := by kernel_rfl
theorem pk_gB : Tryz.prog.globalNamed "wapentake/codec.errBytes" = some 0 := by kernel_rfl
theorem pk_gH : Tryz.prog.globalNamed "errors.errorType" = some 2 := by kernel_rfl
theorem pk_gFt : (Tryz.prog.globals[1]?).map (·.type) = some 131 := by kernel_rfl
theorem pk_gBt : (Tryz.prog.globals[0]?).map (·.type) = some 131 := by kernel_rfl
theorem pk_rt : (Tryz.prog.cutTypes.find? (·.1 == "internal/reflectlite.rtype")).map (·.2) = some 182 := by kernel_rfl
theorem pk_rows : ((List.range Tryz.prog.types.size).filter fun t => Tryz.prog.rowNamed t [101, 114, 114, 111, 114]) = [131] := by kernel_rfl
theorem pk_cells1 : Tryz.prog.cellsOf 226 = 1 := by kernel_rfl
theorem pk_cells2 : Tryz.prog.cellsOf 9 = 1 := by kernel_rfl
theorem pk_star : "*" ++ "errors.errorString" = "*errors.errorString" := by decide
theorem pk_row (u : TypeId) (h : Tryz.prog.typeName? 3 u = some "*errors.errorString") : u = 205 :=
  typeName_ptr_named (nm := "errors.errorString") (by rw [pk_star]; kernel_rfl) (by kernel_rfl) (by decide) u (by rw [pk_star]; exact h)
def codecLaid : List (String × DataW Unit) := [("errors.errorType", Rows.laid_errors_errorType), ("wapentake/codec.errForm", Rows.laid_wapentake_codec_errForm), ("wapentake/codec.errBytes", Rows.laid_wapentake_codec_errBytes)]
theorem pk_of_laid {W : World} (h : laidMetH Tryz.prog codecLaid W) : ∃ sent, Pk W sent := by
  have h' : laidMet Tryz.prog [("wapentake/codec.errForm", Rows.laid_wapentake_codec_errForm), ("wapentake/codec.errBytes", Rows.laid_wapentake_codec_errBytes)] W ∧ handlesMet Tryz.prog [("errors.errorType", Rows.laid_errors_errorType)] W := h
  obtain ⟨name, u, ty, e1, e2, e3, e4, e5⟩ := h'.2 _ (List.mem_singleton.2 rfl)
  have en : name = [101, 114, 114, 111, 114] := (Option.some.inj e1).symm
  subst en
  obtain rfl := Option.some.inj (pk_rt.symm.trans e2)
  have hm : ty ∈ (List.range Tryz.prog.types.size).filter fun t => Tryz.prog.rowNamed t [101, 114, 114, 111, 114] := List.mem_filter.2 ⟨List.mem_range.2 e3, e4⟩
  rw [pk_rows] at hm
  obtain rfl := List.mem_singleton.1 hm
  have hh : typeHandle Tryz.prog 131 = .pointer (some ⟨nG, 131, none⟩) := by kernel_rfl
  rw [hh] at e5
  have hty : W.cell? ⟨2, 0, none⟩ = some (.iface 182 (.agg #[.pointer (some ⟨nG, 131, none⟩)])) := by simpa using World.var?_cell pk_gH e5 0
  obtain ⟨a0, a1, s0, s1, c0, c1, t0, t1, hv0, hv1, hc0, hs0, hz0, hc1, hs1, hz1, hne, hb0, hb1⟩ := laid_sentinels2 h'.1 pk_gF pk_gFt pk_gB pk_gBt Tryz.underlying131 pk_row Tryz.underlying205 Tryz.underlying226 rfl rfl Tryz.underlying9 pk_cells1 pk_cells2
  have hg0 : W.cell? ⟨1, 0, none⟩ = some (.iface 205 (.pointer (some a0))) := by simpa using World.var?_cell pk_gF hv0 0
  have hg1 : W.cell? ⟨0, 0, none⟩ = some (.iface 205 (.pointer (some a1))) := by simpa using World.var?_cell pk_gB hv1 0
  exact ⟨_, ⟨⟨a0, rfl⟩, hg0⟩, a0, a1, c0, c1, t0, t1, rfl, hne, hb0, hb1, hg1, hty⟩
abbrev formS : ByteArray := { data := #[110, 111, 32, 115, 117, 99, 104, 32, 102, 111, 114, 109] }
abbrev bytesS : ByteArray := { data := #[116, 111, 111, 32, 109, 97, 110, 121, 32, 98, 121, 116, 101, 115] }
noncomputable def codecLow : Nat := (World.holding Tryz.prog default ⟨#[], #[], []⟩).heap.size
noncomputable def codecWorld (os : Os) : World :=
  let w0 := World.holding Tryz.prog os ⟨#[.cells #[.string formS] 226, .cells #[.string bytesS] 226], #[], []⟩
  { w0 with heap := ((w0.heap.modify 1 fun
      | .cells _ t frozen => .cells #[.iface 205 (.pointer (some ⟨codecLow, 0, none⟩))] t frozen
      | o => o).modify 0 fun
      | .cells _ t frozen => .cells #[.iface 205 (.pointer (some ⟨codecLow + 1, 0, none⟩))] t frozen
      | o => o).modify 2 fun
      | .cells _ t frozen => .cells #[.iface 182 (.agg #[.pointer (some ⟨nG, 131, none⟩)])] t frozen
      | o => o }
theorem codecWorld_met (os : Os) (args : Array Value) : laidMetH Tryz.prog codecLaid ((codecWorld os).forCall (fun _ _ => 0) ⟨#[], args, []⟩).memory :=
  laidMetH_of_parts (laidMet_of_run (ps := [.cell 1 0, .cell codecLow 0, .cell 0 0, .cell (codecLow + 1) 0]) 8 (by kernel_rfl) (by kernel_rfl) (by kernel_rfl)) (by kernel_rfl)
end
section
open Go.ChangeShapes Go.WideShapes Go.ChangeAt Go.RowKit Go.Deep
section
variable {H : Type} {enc : TypeId × Value → H} {P : Program}
theorem trodAll_stays (hl : laidOutB P = true) {W W' : World} {sp : Nat → Bool} : ∀ (ts : List TypeId) (vs : List Value) (ds : List (DataW H)) (ps : List MemPlace),
    ts.all (fun t => P.readableRec t && decide (t < P.types.size)) = true → DataW.TrodAll enc P W 0 (fun _ => true) true ts vs ds ps → (∀ p ∈ ps, W.sameAt W' p) → (∀ p ∈ ps, sp p.block = true) →
    DataW.TrodAll enc P W' 0 sp true ts vs ds ps
  | [], vs, ds, ps, _, h, _, _ => by
    cases vs <;> cases ds <;> simp_all [DataW.TrodAll]
  | t :: ts, [], ds, ps, _, h, _, _ => by cases ds <;> simp [DataW.TrodAll] at h
  | t :: ts, v :: vs, [], ps, _, h, _, _ => by simp [DataW.TrodAll] at h
  | t :: ts, v :: vs, d :: ds, ps, hok, h, hsame, hsp => by
    obtain ⟨p, q, h1, h2, rfl⟩ := h
    simp only [List.all_cons, Bool.and_eq_true, decide_eq_true_eq] at hok
    exact ⟨p, q, WideElems.Trod_stays hl hok.1.1 hok.1.2 h1 (fun x hx => hsame x (by simp [hx])) (fun x hx => hsp x (by simp [hx])),
      trodAll_stays hl ts vs ds q hok.2 h2 (fun x hx => hsame x (by simp [hx])) (fun x hx => hsp x (by simp [hx])), rfl⟩
theorem trodAll_length {W : World} {base : Nat} {sp : Nat → Bool} {hd : Bool} : ∀ (ts : List TypeId) (vs : List Value) (ds : List (DataW H)) (ps : List MemPlace), DataW.TrodAll enc P W base sp hd ts vs ds ps → ds.length = ts.length
  | [], vs, ds, ps, h => by cases vs <;> cases ds <;> simp_all [DataW.TrodAll]
  | t :: ts, [], ds, ps, h => by cases ds <;> simp [DataW.TrodAll] at h
  | t :: ts, v :: vs, [], ps, h => by simp [DataW.TrodAll] at h
  | t :: ts, v :: vs, d :: ds, ps, h => by
    obtain ⟨p, q, _, h2, _⟩ := h
    simp [trodAll_length ts vs ds q h2]
theorem law_post {f : Func} {s : ChangeSpec} {W W' : World} {args : Array Value} {ds gs : List (DataW H)} {before : List MemPlace} {tb : TypeId} (hl : laidOutB P = true)
    (hok : f.params.toList.all (fun t => P.readableRec t && decide (t < P.types.size)) = true) (hr : f.resultTypes = #[tb]) (htb : P.underlying tb = some .bool)
    (hvars : s.vars = []) (hspec : ∀ ds : List (DataW H), ds.length = f.params.size → s.fn H ds = { results := [.lit (.bool true)], args := ds })
    (hW : DataW.Whole enc P f.params.toList s.vars false W args.toList ds gs before) (hb : Below W.heap.size W W') :
    s.post enc P f false true false false W args (.bool true) W' := by
  have hlt : ∀ p ∈ before, p.block < W.heap.size := fun p hp => hW.lt p hp
  have hW0 := hW
  obtain ⟨p, q, hA, hV, rfl, _, _⟩ := hW0
  rw [hvars] at hV
  obtain ⟨rfl, rfl⟩ := trodVars_none hV
  have hlen : ds.length = f.params.size := by rw [trodAll_length _ _ _ _ hA, Array.length_toList]
  have hfn := hspec ds hlen
  have hfr : f.resultTypes.toList = [tb] := by rw [hr]
  have hrl : (Value.bool true).resultList f.resultTypes.size = [.bool true] := by rw [hr]; rfl
  refine ⟨ds, [], p ++ [], [], p, [], hW, ?_, ?_, ?_, World.keptBut_mono (fun x hx => ⟨hx, ?_⟩) (hb.frame (· ∈ p ++ [])), fun h => by cases h⟩
  · rw [List.append_nil, hfn, hfr, hrl]
    exact trodAll_mk1 (shut_bool htb _)
  · rw [List.append_nil, hfn]
    exact trodAll_stays hl _ _ _ _ hok hA (fun x hx => hb.same (hlt x (by simp [hx]))) (fun x hx => by simpa using hlt x (by simp [hx]))
  · rw [List.append_nil, hfn, hvars]
    rfl
  · exact Or.inr (Or.inl (by simpa using hx))
theorem law_lifted {C : Checked} {os : Os} {f : FuncId} {fn : Func} {s : ChangeSpec} {tb : TypeId} (own : ownKnob C.prog.godebug = none) (hl : laidOutB C.prog = true) (started : os.Started)
    (noInit : C.prog.inits.idxOf? f = none) (hfn : C.prog.funcs[f]? = some fn)
    (witness : ∃ (w : World) (tape : Tape) (i : Input), w.os = os ∧ (w.forCall tape i).Shaped C.prog ∧ i.vars = [] ∧ Input.okWide C.prog (w.forCall tape i) .any w.heap.size f i ∧
      s.pre6 enc C.prog fn [] false (w.forCall tape i).memory i.args ∧ ({} : Assume).holds C.prog (lone (Frame.enter C.prog f i.args .normal) [] (w.forCall tape i)))
    (hok : fn.params.toList.all (fun t => C.prog.readableRec t && decide (t < C.prog.types.size)) = true) (hr : fn.resultTypes = #[tb]) (htb : C.prog.underlying tb = some .bool)
    (hvars : s.vars = []) (hspec : ∀ ds : List (DataW H), ds.length = fn.params.size → s.fn H ds = { results := [.lit (.bool true)], args := ds })
    (walk : ∀ (W : World) (base : Nat) (args : Array Value) (ds : List (DataW H)) (ps : List MemPlace),
      (∀ (j : Nat) t v, fn.params[j]? = some t → args[j]? = some v → Value.okWide C.prog W .any base t v) →
      DataW.TrodAll enc C.prog W 0 (fun _ => true) true fn.params.toList args.toList ds ps → (∀ p ∈ ps, p.block < W.heap.size) →
      (DataW.weightsEach C.prog fn.params.toList ds).all (· ≤ reachBytes) = true →
      Calls C.prog f args W fun e W' => e = .returned (.bool true) ∧ Below W.heap.size W W') :
    ReturnsInHanded {} C os f .any (s.pre6 enc C.prog fn [] false) (s.post enc C.prog fn false true false false) := by
  refine returnsInHanded_of_change_sized own started noInit hfn witness ?_
  intro W base args ds gs before hval hW _ hsz _
  have hlt : ∀ p ∈ before, p.block < W.heap.size := fun p hp => hW.lt p hp
  have hW0 := hW
  obtain ⟨p, q, hA, hV, rfl, _, _⟩ := hW0
  rw [hvars] at hV
  obtain ⟨rfl, rfl⟩ := trodVars_none hV
  have hvt : s.plain.varTypes C.prog = [] := by simp [DataSpec.varTypes, ChangeSpec.plain, hvars]
  rw [hvt, List.append_nil, List.append_nil] at hsz
  refine (walk W base args ds p hval hA (fun x hx => hlt x (by simp [hx])) hsz).mono fun e W' ⟨he, hb⟩ => ?_
  exact ⟨_, he, law_post hl hok hr htb hvars hspec hW hb⟩
end
section
variable {H : Type} {enc : TypeId × Value → H} {P : Program} {w : World} {base : Nat} {spare : Nat → Bool} {held : Bool}
theorem open_slice_fields {t e : TypeId} {fs : Array Field} {fuel : Nat} {cs : List Value} {x : DataW H × List MemPlace} (ht : P.underlying t = some (.slice e)) (he : P.underlying e = some (.struct fs))
    (hone : oneCellFields P fs = true) (hC : P.cellsOf e = fs.size) (h : DataW.trod enc P w base spare held fuel t cs = some x) :
    (cs = [.slice none 0 0] ∧ x = (.nil, [])) ∨
    ∃ (a : Addr) (len cap m : Nat) (D : Nat → DataW H) (Pl : Nat → List MemPlace), cs = [.slice (some a) len cap] ∧ base ≤ a.block ∧ len ≤ cap ∧ cap ≤ maxLen ∧ m = (if spare a.block then cap else len) ∧
      x = (.slice ((List.range len).map D) ((List.range (m - len)).map fun j => D (len + j)), MemPlace.row a (m * fs.size) ++ (List.range m).flatMap Pl) ∧
      ∀ i, i < m → ∃ (ys : List (DataW H × List MemPlace)) (n : Nat), D i = .agg (ys.map (·.1)) ∧ Pl i = ys.flatMap (·.2) ∧ ys.length = fs.size ∧
        ∀ (j : Nat) (f : Field), fs[j]? = some f → ∃ (v : Value) (y : DataW H × List MemPlace), w.cell? (a.add (i * fs.size + j)) = some v ∧ ys[j]? = some y ∧ DataW.trod enc P w base spare held n f.type [v] = some y := by
  rcases open_slice ht h with h0 | ⟨a, len, cap, m, n, D, Pl, hcs, hb, hl, hm, hmm, hx, hi⟩
  · exact .inl h0
  · refine .inr ⟨a, len, cap, m, D, Pl, hcs, hb, hl, hm, hmm, by rw [hC] at hx; exact hx, fun i him => ?_⟩
    obtain ⟨cs', hc, ht'⟩ := hi i him
    rw [hC] at hc
    obtain ⟨ys, n', hn', hy, hlen, hyl, hf⟩ := DataW.trod_struct he ht'
    obtain ⟨_, hcl, hat⟩ := World.cells?_some hc
    simp only [Prod.mk.injEq] at hy
    refine ⟨ys, n', hy.1, hy.2, hyl, fun j f hj => ?_⟩
    obtain ⟨ho, hk⟩ := hone_of hone j f hj
    have hjl : j < fs.size := (Array.getElem?_eq_some_iff.1 hj).1
    have hcell := hat j hjl
    have hv : cs'[j]? = some (cs'[j]'(by omega)) := List.getElem?_eq_getElem (by omega)
    have h1 := hf j f hj
    rw [ho, hk] at h1
    have hone' : (cs'.drop j).take 1 = [cs'[j]'(by omega)] := by
      rw [List.drop_eq_getElem_cons (by omega)]
      rfl
    rw [hone'] at h1
    have hys : ys[j]? = some (ys[j]'(by omega)) := List.getElem?_eq_getElem (by omega)
    refine ⟨_, _, ?_, hys, h1.trans hys⟩
    rw [← Go.Deep.add_add, hcell, hv]
theorem open_bytes {t e : TypeId} {fuel : Nat} {v : Value} {x : DataW H × List MemPlace} (ht : P.underlying t = some (.slice e)) (he : P.underlying e = some (.int .u8)) (hc : P.cellsOf e = 1)
    (h : DataW.trod enc P w base (fun _ => true) held fuel t [v] = some x) :
    ∃ bs : List UInt8, (∀ n ∈ x.1.weights P t, n ≤ reachBytes) → P.bytesOf e = 1 → Bs w (fun b => b < w.heap.size) v bs := by
  rcases open_ints ht he hc h with ⟨hcs, hx⟩ | ⟨a, len, cap, zs, hcs, _, hl, hm, hz, hx, hcell, hwz⟩
  · obtain rfl : v = .slice none 0 0 := by simpa using hcs
    exact ⟨[], fun _ _ => Bs.nil_ _ _⟩
  · obtain rfl : v = .slice (some a) len cap := by simpa using hcs
    simp only [if_true] at hz
    have hbyte : ∀ z ∈ zs, (z.toNat : Int) = z ∧ z.toNat < 256 := fun z hzm => by
      have := hwz z hzm
      simp only [Lit.wf, IntKind.min, IntKind.max, IntKind.signed, IntKind.bits, Bool.and_eq_true] at this
      simp at this
      omega
    refine ⟨(zs.take len).map fun z => UInt8.ofNat z.toNat, fun hw hb1 => ?_⟩
    have hlen : ((zs.take len).map fun z => UInt8.ofNat z.toNat).length = len := by simp; omega
    have hsz : cap ≤ reachBytes := by
      have := hw (((lits (H := H) .u8 (zs.take len)).length + (lits (H := H) .u8 (zs.drop len)).length) * P.bytesOf e) (by rw [hx]; simp [DataW.weights, ht])
      rw [hb1] at this
      simp only [lits, List.length_map, List.length_take, List.length_drop] at this
      omega
    refine ⟨⟨by rw [u8s_length]; omega, some a, cap, by rw [hlen], by rw [hlen]; exact hl, hm, fun hpos => ?_⟩, by rw [hlen]; simp only [reachBytes] at hsz; omega⟩
    rw [hlen] at hpos
    obtain ⟨b, off, spot⟩ := a
    have hc0 := hcell 0 (by omega)
    obtain rfl : spot = none := by simpa [Addr.add] using World.cell?_spot hc0
    refine ⟨b, off, rfl, by have := World.block_lt_of_cell? _ _ hc0; simpa [Addr.add] using this, by have := World.block_lt_of_cell? _ _ hc0; simpa [Addr.add] using this, fun j u hu => ?_⟩
    have hj : j < len := by
      have := (List.getElem?_eq_some_iff.1 hu).1
      rw [u8s_length] at this; omega
    have hcj := hcell j (by omega)
    rw [add_plain] at hcj
    rw [hcj]
    have hjz : j < zs.length := by omega
    simp only [u8s, List.map_map, List.getElem?_map, List.getElem?_take, if_pos hj, List.getElem?_eq_getElem hjz, Option.map_some, Function.comp_apply] at hu
    rw [← hu]
    have := hbyte zs[j] (List.getElem_mem hjz)
    simp only [List.getD, List.getElem?_eq_getElem hjz, Option.getD_some, Option.some.injEq, Value.int.injEq, true_and]
    rw [UInt8.toNat_ofNat']
    omega
theorem weights_all {ts : List TypeId} {ds : List (DataW H)} (h : (DataW.weightsEach P ts ds).all (· ≤ reachBytes) = true) {j : Nat} {t : TypeId} {d : DataW H} (ht : ts[j]? = some t) (hd : ds[j]? = some d) : ∀ n ∈ d.weights P t, n ≤ reachBytes :=
  fun n hn => by simpa using List.all_eq_true.1 h n (DataW.weights_mem_each ht hd n hn)
theorem weights_elem {t e : TypeId} (ht : P.underlying t = some (.slice e)) {elems spare' : List (DataW H)} (h : ∀ n ∈ (DataW.slice elems spare').weights P t, n ≤ reachBytes) {d : DataW H} (hd : d ∈ elems) : ∀ n ∈ d.weights P e, n ≤ reachBytes := by
  have key : ∀ (l : List (DataW H)), d ∈ l → ∀ n ∈ d.weights P e, n ∈ DataW.weightsAll P e l := by
    intro l
    induction l with
    | nil => intro h; cases h
    | cons x r ih =>
      intro hm n hn
      simp only [DataW.weightsAll, List.mem_append]
      rcases List.mem_cons.1 hm with rfl | hm
      · exact .inl hn
      · exact .inr (ih hm n hn)
  intro n hn
  refine h n ?_
  simp only [DataW.weights, ht, List.mem_cons, List.mem_append]
  exact .inr (.inl (key elems hd n hn))
theorem weights_size {t e : TypeId} (ht : P.underlying t = some (.slice e)) {elems spare' : List (DataW H)} (h : ∀ n ∈ (DataW.slice elems spare').weights P t, n ≤ reachBytes) : elems.length * P.bytesOf e ≤ reachBytes := by
  have := h ((elems.length + spare'.length) * P.bytesOf e) (by simp [DataW.weights, ht])
  exact Nat.le_trans (Nat.mul_le_mul_right _ (by omega)) this
theorem weights_field {e : TypeId} {fs : Array Field} (he : P.underlying e = some (.struct fs)) {parts : List (DataW H)} (h : ∀ n ∈ (DataW.agg parts).weights P e, n ≤ reachBytes) {j : Nat} {f : Field} {d : DataW H} (hf : fs[j]? = some f) (hd : parts[j]? = some d) :
    ∀ n ∈ d.weights P f.type, n ≤ reachBytes := fun n hn => h n (by
  simp only [DataW.weights, he]
  exact DataW.weights_mem_each (by rw [List.getElem?_map, Array.getElem?_toList, hf]; rfl) hd n hn)
end
end
section
open Go.ChangeShapes Go.WideShapes Go.ChangeAt Go.RowKit Go.Deep
section
variable {H : Type} {enc : TypeId × Value → H}
theorem upto_lifted {C : Checked} {os : Os} {f : FuncId} {fn : Func} {s : ChangeSpec} {tb : TypeId} {F : Stop.Interp} (own : ownKnob C.prog.godebug = none) (hl : laidOutB C.prog = true) (started : os.Started)
    (noInit : C.prog.inits.idxOf? f = none) (hfn : C.prog.funcs[f]? = some fn)
    (witness : ∃ (w : World) (tape : Tape) (i : Input), w.os = os ∧ (w.forCall tape i).Shaped C.prog ∧ i.vars = [] ∧ Input.okWide C.prog (w.forCall tape i) .any w.heap.size f i ∧
      (Rows.OpenSpec.upto s).pre6 enc C.prog fn [] false (w.forCall tape i).memory i.args ∧ ({} : Assume).holds C.prog (lone (Frame.enter C.prog f i.args .normal) [] (w.forCall tape i)))
    (hok : fn.params.toList.all (fun t => C.prog.readableRec t && decide (t < C.prog.types.size)) = true) (hr : fn.resultTypes = #[tb]) (htb : C.prog.underlying tb = some .bool)
    (hvars : s.vars = []) (hspec : ∀ ds : List (DataW H), ds.length = fn.params.size → s.fn H ds = { results := [.lit (.bool true)], args := ds })
    (walk : ∀ (W : World) (base : Nat) (args : Array Value) (ds : List (DataW H)) (ps : List MemPlace),
      (∀ (j : Nat) t v, fn.params[j]? = some t → args[j]? = some v → Value.okWide C.prog W .any base t v) →
      DataW.TrodAll enc C.prog W 0 (fun _ => true) true fn.params.toList args.toList ds ps → (∀ p ∈ ps, p.block < W.heap.size) → Rows.uptoBulkAll ds ≤ 1048576 →
      Calls C.prog f args W fun e W' => e = .returned (.bool true) ∧ Below W.heap.size W W') :
    ReturnsInHanded {} C os f .any ((Rows.OpenSpec.upto s).pre6 enc C.prog fn [] false) (((Rows.OpenSpec.upto s).at F).post enc C.prog fn false true false false) := by
  refine returnsInHanded_of_cond (C := C) (s := Rows.OpenSpec.upto s) (k := Rows.uptoSmall) rfl own started noInit hfn witness ?_
  intro W base args ds gs before hval hW _ hk _
  have hW0 : DataW.Whole enc C.prog fn.params.toList s.vars false W args.toList ds gs before := hW
  have hlt : ∀ p ∈ before, p.block < W.heap.size := fun p hp => hW0.lt p hp
  have hW1 := hW0
  obtain ⟨p, q, hA, hV, rfl, _, _⟩ := hW1
  rw [hvars] at hV
  obtain ⟨rfl, rfl⟩ := trodVars_none hV
  rw [List.append_nil] at hk
  refine (walk W base args ds p hval hA (fun x hx => hlt x (by simp [hx])) (bulks.bound hk)).mono fun e W' ⟨he, hb⟩ => ?_
  exact ⟨_, he, law_post hl hok hr htb hvars hspec hW0 hb⟩
end
end
end Go.Proofs.YtkclkmjlodomkaaGreatDoor
