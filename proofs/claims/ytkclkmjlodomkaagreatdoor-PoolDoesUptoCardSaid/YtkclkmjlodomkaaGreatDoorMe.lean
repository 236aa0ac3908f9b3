/- Texts joined: PmT PmW CrA CrB CrC CrE. -/
import Derived.Test.YtkclkmjlodomkaaGreatDoorMd
import Derived.Test.YtkclkmjlodomkaaGreatDoorMa
import Derived.Test.YtkclkmjlodomkaaGreatDoorMb
import Derived.Test.YtkclkmjlodomkaaGreatDoorMc
namespace Go.Proofs.YtkclkmjlodomkaaGreatDoor
open List (setIfInBounds_toArray getElem_toArray getElem_cons_succ getElem_cons_zero set_cons_succ set_cons_zero filterMap_cons filterMap_nil getElem?_toArray getElem?_cons_succ getElem?_cons_zero)
section
open Go.RowKit Go.Maps
attribute [-simp] Tryz.isAgg34 Tryz.typeInfo34 Tryz.isAgg40 Tryz.typeInfo40 Tryz.isAgg37 Tryz.typeInfo37 Tryz.isAgg57 Tryz.typeInfo57 Tryz.isAgg71 Tryz.typeInfo71
abbrev StE := tState.El
def accX (x : StE) : List tAccount.El := x.2.1
def lockX (x : StE) : List tLock.El := x.2.2.1
def consX (x : StE) : List Sh.dig.El := x.2.2.2.1
def recX (x : StE) : List tRecord.El := x.2.2.2.2.1
def memX (x : StE) : List i64.El := x.2.2.2.2.2.1
theorem st_parts {w : World} {S : Nat → Prop} {x : StE} {ss : List Value} (h : tState.rep w S x ss) : ∃ c vA vL vC vR vM, ss = [.int .i64 c, vA, vL, vC, vR, vM] ∧ (Sh.list tAccount).rep w S (accX x) [vA] ∧ (Sh.list tLock).rep w S (lockX x) [vL] ∧ (Sh.list .dig).rep w S (consX x) [vC] ∧ (Sh.list tRecord).rep w S (recX x) [vR] ∧ (Sh.list i64).rep w S (memX x) [vM] := by
  obtain ⟨x0, x1, x2, x3, x4, x5, _⟩ := x
  obtain ⟨c0, _, rfl, ⟨rfl, _⟩, c1, _, rfl, h1, c2, _, rfl, h2, c3, _, rfl, h3, c4, _, rfl, h4, c5, _, rfl, h5, h6⟩ := h
  obtain ⟨v1, _, rfl, _⟩ := id h1
  obtain ⟨v2, _, rfl, _⟩ := id h2
  obtain ⟨v3, _, rfl, _⟩ := id h3
  obtain ⟨v4, _, rfl, _⟩ := id h4
  obtain ⟨v5, _, rfl, _⟩ := id h5
  have h6 : _ = [] := h6
  subst h6
  exact ⟨_, v1, v2, v3, v4, v5, rfl, h1, h2, h3, h4, h5⟩
def SortA (l : List (Int × Int × Int × Unit)) : Prop := ∀ j (h : j + 1 < l.length), (l[j]'(by omega)).1 < l[j + 1].1
def SortK (l : List (Int × Int × Int × Unit)) (k : Nat) : Prop := ∀ j (h : j + 1 < l.length), j + 1 < k → (l[j]'(by omega)).1 < l[j + 1].1
theorem acc_cells {w : World} {S : Nat → Prop} {a : tAccount.El} {c : List Value} (h : tAccount.rep w S a c) : c = [.int .u64 a.1, .int .u64 a.2.1, .int .u64 a.2.2.1] := by
  obtain ⟨x0, x1, x2, _⟩ := a
  obtain ⟨c0, _, rfl, ⟨rfl, _⟩, c1, _, rfl, ⟨rfl, _⟩, c2, _, rfl, ⟨rfl, _⟩, h⟩ := h
  have h : _ = [] := h
  subst h
  rfl
theorem lock_cells {w : World} {S : Nat → Prop} {a : tLock.El} {c : List Value} (h : tLock.rep w S a c) : ∃ am st : Int, ∃ r : List Value, c = u8s a.1 ++ r ∧ List.length (α := UInt8) a.1 = 32 ∧ c.length = 38 ∧ c[34]? = some (.int .u64 am) ∧ c[37]? = some (.int .i64 st) := by
  have hl := Sh.rep_size tLock _ _ h
  obtain ⟨x0, x1, x2, x3, x4, x5, x6, _⟩ := a
  obtain ⟨c0, _, rfl, ⟨rfl, h0⟩, c1, _, rfl, ⟨rfl, _⟩, c2, _, rfl, ⟨rfl, _⟩, c3, _, rfl, ⟨rfl, _⟩, c4, _, rfl, ⟨rfl, _⟩, c5, _, rfl, ⟨rfl, _⟩, c6, _, rfl, ⟨rfl, _⟩, h⟩ := h
  have hu : (u8s x0).length = 32 := by rw [u8s_length]; exact h0
  refine ⟨x3, x6, _, rfl, h0, hl, ?_, ?_⟩
  · rw [List.getElem?_append_right (by omega), hu]; rfl
  · rw [List.getElem?_append_right (by omega), hu]; rfl
theorem range_low {w w' : World} {b o : Nat} {cs : List Value} (h : w.rangeAt b o cs) (hb : Below w.heap.size w w') : w'.rangeAt b o cs := fun i u hu => by
  have h1 := h i u hu
  exact (World.cell?_of_block (a := ⟨b, o + i, none⟩) (hb.block b (Go.Lib.lt_of_cell h1))).trans h1
theorem digS_size {C : List Value} (h : C.length = 32) : (Tryz.prog.info? 37).map (·.size) = some C.length := by rw [h]; kernel_rfl
theorem lock_size {cs : List Value} (h : cs.length = 38) : (Tryz.prog.info? 71).map (·.size) = some cs.length := by rw [h]; kernel_rfl
set_option maxHeartbeats 16000000 in
set_option maxRecDepth 100000 in
theorem may_any (w : World) {S : Nat → Prop} {x : StE} {ss : List Value} (h : tState.rep w S x ss) : Calls Tryz.prog 12 #[.agg ss.toArray] w fun e w' => (∃ r, e = .returned (.bool r) ∧ (r = true → SortA (accX x))) ∧ Below w.heap.size w w' := by
  obtain ⟨c, vA, vL, vC, vR, vM, rfl, hA, hL, hC, hR, hM⟩ := st_parts h
  obtain ⟨AA, cA, rfl, lA, -⟩ := list_at hA
  obtain ⟨AL, cL, rfl, lL, -⟩ := list_at hL
  obtain ⟨AC, cC, rfl, lC, -⟩ := list_at hC
  obtain ⟨AR, cR, rfl, lR, -⟩ := list_at hR
  obtain ⟨AM, cM, rfl, lM, -⟩ := list_at hM
  obtain ⟨nA, eA⟩ : ∃ n, n = (accX x).length := ⟨_, rfl⟩
  obtain ⟨nL, eL⟩ : ∃ n, n = (lockX x).length := ⟨_, rfl⟩
  obtain ⟨nC, eC⟩ : ∃ n, n = (consX x).length := ⟨_, rfl⟩
  obtain ⟨nR, eR⟩ : ∃ n, n = (recX x).length := ⟨_, rfl⟩
  obtain ⟨nM, eM⟩ : ∃ n, n = (memX x).length := ⟨_, rfl⟩
  rw [← eA] at hA lA
  rw [← eL] at hL lL
  rw [← eC] at hC lC
  rw [← eR] at hR lR
  rw [← eM] at hM lM
  rw [← eA, ← eL, ← eC, ← eR, ← eM]
  have EA := Lib.hid eA
  have EL := Lib.hid eL
  have EC := Lib.hid eC
  have ER := Lib.hid eR
  have EM := Lib.hid eM
  have HA := Lib.hid hA
  have HL := Lib.hid hL
  have HC := Lib.hid hC
  have HR := Lib.hid hR
  have HM := Lib.hid hM
  have HB := Lib.hid (Blk.new w 34 [.int .i64 c, .slice AA nA cA, .slice AL nL cL, .slice AC nC cC, .slice AR nR cR, .slice AM nM cM].toArray)
  have HAL := Lib.hid ((Below.refl w.heap.size w).alloc (Nat.le_refl _) (.cells [.int .i64 c, .slice AA nA cA, .slice AL nL cL, .slice AC nC cC, .slice AR nR cR, .slice AM nM cM].toArray 34))
  clear h hA hL hC hR hM eA eL eC eR eM
  obtain ⟨w0, hw0⟩ : ∃ w0, w0 = w.alloc (.cells [.int .i64 c, .slice AA nA cA, .slice AL nL cL, .slice AC nC cC, .slice AR nR cR, .slice AM nM cM].toArray 34) := ⟨_, rfl⟩
  rw [← hw0] at HB HAL
  have HW0 := Lib.hid hw0
  clear hw0
  go_enter Tryz.func12, Tryz.ntmps12
  go_wp2_with fail
  rw [show (w.alloc (.cells #[.int .i64 c, .slice AA nA cA, .slice AL nL cL, .slice AC nC cC, .slice AR nR cR, .slice AM nM cM] 34)) = w0 from HW0.out.symm]
  go_loopw [3, 4] (fun lf i wr => ∃ (k : Nat) (z : Int), k ≤ nA ∧ i = .int .i64 k ∧ lf = .int .u64 z ∧ Hid (Below w0.heap.size w0 wr) ∧ Hid (SortK (accX x) k)) (fun _ i _ => nA - (intOf i).toNat)
  case atStart => exact ⟨0, _, Nat.zero_le _, rfl, rfl, Lib.hid (Below.refl _ _), Lib.hid fun j _ hj => absurd hj (by omega)⟩
  case round =>
    obtain ⟨k, z, hk, rfl, rfl, hb, hs⟩ := hrel
    have hbk := HB.out.below hb.out HB.out.lt
    have hc1 := hbk.cell 1
    rw [show ([.int .i64 c, .slice AA nA cA, .slice AL nL cL, .slice AC nC cC, .slice AR nR cR, .slice AM nM cM].toArray : Array Value)[1]? = some (.slice AA nA cA) from rfl] at hc1
    by_cases hlt : k < nA
    · have hkl : k < (accX x).length := by have := EA.out; omega
      obtain ⟨A', c', e, _, hat⟩ := list_at (Sh.rep_below (Sh.rep_below HA.out HAL.out) hb.out)
      injection e with e1 e2 e3
      subst e1; subst e3
      clear e2
      obtain ⟨b, off, C, rfl, hr, hrep, _⟩ := hat k hkl
      have hC2 := acc_cells hrep
      subst hC2
      have hca : wr.cell? ⟨b, off + k * 3, none⟩ = some (.int .u64 (accX x)[k].1) := hr 0 _ rfl
      have hcb : wr.cell? ⟨b, off + k * 3 + 1, none⟩ = some (.int .u64 (accX x)[k].2.1) := hr 1 _ rfl
      obtain ⟨a1, ha1⟩ : ∃ a : Int, a = (accX x)[k].1 := ⟨_, rfl⟩
      obtain ⟨b1, hb1⟩ : ∃ a : Int, a = (accX x)[k].2.1 := ⟨_, rfl⟩
      rw [← ha1] at hca
      rw [← hb1] at hcb
      have HA1 := Lib.hid ha1
      have HAT := Lib.hid hat
      have HBK := Lib.hid hbk
      clear hr hrep ha1 hb1 hat hbk
      have hfin : ∀ (wx : World), Below wr.heap.size wr wx → (∃ r, Ending.returned (.bool false) = .returned (.bool r) ∧ (r = true → SortA (accX x))) ∧ Below w.heap.size w wx := fun wx hx => ⟨⟨false, rfl, by simp⟩, HAL.out.trans ((hb.out.trans (hx.mono hb.out.size)).mono HAL.out.size)⟩
      have HFIN := Lib.hid hfin
      have HBB := Lib.hid hb
      clear hfin hb
      cases k with
      | zero =>
        by_cases hbal : z < b1
        · go_wp2_with fail
          go_quiet (fail)
          go_wp2_with fail
          go_ret
          exact HFIN.out _ (below_drewN (Below.refl _ _) nq)
        · go_wp2_with fail
          go_quiet (fail)
          go_wp2_with fail
          exact ⟨⟨1, _, by omega, rfl, rfl, Lib.hid (below_drewN HBB.out.out nq), Lib.hid fun j _ hj => absurd hj (by omega)⟩, by simp only [intOf]; omega⟩
      | succ j =>
        have hjl : j < (accX x).length := by omega
        obtain ⟨b', off', C', e, hr, hrep, _⟩ := HAT.out j hjl
        injection e with e
        injection e with e1 e2 _
        subst e1; subst e2
        have hC2 := acc_cells hrep
        subst hC2
        have hcp : wr.cell? ⟨b, off + j * 3, none⟩ = some (.int .u64 (accX x)[j].1) := hr 0 _ rfl
        obtain ⟨a0, ha0⟩ : ∃ a : Int, a = (accX x)[j].1 := ⟨_, rfl⟩
        rw [← ha0] at hcp
        have HA0 := Lib.hid ha0
        clear hr hrep ha0
        by_cases hge : a1 ≤ a0
        · go_wp2_with fail
          go_quiet (fail)
          go_wp2_with fail
          go_ret
          exact HFIN.out _ (below_drewN (Below.refl _ _) nq)
        · have hd : decide (a1 ≤ a0) = false := by simpa using hge
          have HGE := Lib.hid hge
          clear hge
          by_cases hbal : z < b1
          · go_wp2_with fail
            go_quiet (fail)
            go_wp2_with fail
            go_ret
            exact HFIN.out _ (below_drewN (Below.refl _ _) nq)
          · have HSK := Lib.hid (show SortK (accX x) (j + 1 + 1) from fun i hi hi2 => by
              by_cases e : i = j
              · subst e
                have := HGE.out; rw [← HA0.out, ← HA1.out]; omega
              · exact hs.out i hi (by omega))
            go_wp2_with fail
            go_quiet (fail)
            go_wp2_with fail
            exact ⟨⟨j + 1 + 1, _, by omega, by push_cast; rfl, rfl, Lib.hid (below_drewN HBB.out.out nq), HSK⟩, by simp only [intOf]; omega⟩
    · have hk' : k = nA := by omega
      subst hk'
      have HSO := Lib.hid (show SortA (accX x) from fun j hj => hs.out j hj (by have := EA.out; omega))
      have HB1 := Lib.hid (HAL.out.trans (hb.out.mono HAL.out.size))
      have HBK := Lib.hid hbk
      obtain ⟨gS, hgS⟩ : ∃ gS, gS = w.heap.size := ⟨_, rfl⟩
      rw [← hgS] at HBK hc1 ⊢
      clear hs hb hbk hlt hk hgS HB HAL HW0 EA
      obtain ⟨w1, hw1⟩ : ∃ w1, w1 = wr := ⟨_, rfl⟩
      rw [← hw1] at HBK HB1 hc1 ⊢
      clear hw1
      obtain ⟨ST, hST⟩ : ∃ ST : List Value, ST = [.int .i64 c, .slice AA k cA, .slice AL nL cL, .slice AC nC cC, .slice AR nR cR, .slice AM nM cM] := ⟨_, rfl⟩
      have HT2 := Lib.hid (show ST.toArray[2]? = some (.slice AL nL cL) by rw [hST]; rfl)
      have HT3 := Lib.hid (show ST.toArray[3]? = some (.slice AC nC cC) by rw [hST]; rfl)
      have HT4 := Lib.hid (show ST.toArray[4]? = some (.slice AR nR cR) by rw [hST]; rfl)
      have HT5 := Lib.hid (show ST.toArray[5]? = some (.slice AM nM cM) by rw [hST]; rfl)
      rw [← hST] at HBK
      clear hST
      go_wp2_with fail
      clear hc1
      go_loopw [3, 5] (fun lf i wr => ∃ (k : Nat) (z : Int), k ≤ nL ∧ i = .int .i64 k ∧ lf = .int .u64 z ∧ Hid (Below w1.heap.size w1 wr)) (fun _ i _ => nL - (intOf i).toNat)
      case atStart => exact ⟨0, _, Nat.zero_le _, rfl, rfl, Lib.hid (Below.refl _ _)⟩
      case round =>
        obtain ⟨k, z, hk, rfl, rfl, hb⟩ := hrel
        have hbk := HBK.out.below hb.out HBK.out.lt
        have hc1 := hbk.cell 2
        rw [HT2.out] at hc1
        by_cases hlt : k < nL
        · have hkl : k < (lockX x).length := by have := EL.out; omega
          have HC2 := HT2
          obtain ⟨A', c', e, _, hat⟩ := list_at (Sh.rep_below (Sh.rep_below HL.out HB1.out) hb.out)
          injection e with e1 e2 e3
          subst e1; subst e3
          clear e2
          obtain ⟨b, off, C, rfl, hr, hrep, _⟩ := hat k hkl
          have hrg : wr.rangeAt b (off + k * 38) C := hr
          obtain ⟨am, st, r0, hCe, hl32, hCl, h34, h37⟩ := lock_cells hrep
          obtain ⟨lid, hlid⟩ : ∃ lid : List UInt8, lid = (lockX x)[k].1 := ⟨_, rfl⟩
          rw [← hlid] at hCe hl32
          have hl32 : lid.length = 32 := hl32
          obtain ⟨pid, hpid⟩ : ∃ pid : Nat → List UInt8, ∀ j, k = j + 1 → (pid j).length = 32 ∧ wr.rangeAt b (off + j * 38) (u8s (pid j)) := by
            by_cases hk0 : k = 0
            · exact ⟨fun _ => [], fun j hj => by omega⟩
            · obtain ⟨b', off', C', e, hr', hrep', _⟩ := hat (k - 1) (by omega)
              injection e with e
              injection e with e1 e2 _
              subst e1; subst e2
              obtain ⟨_, _, r1, hCe', hl', _⟩ := lock_cells hrep'
              refine ⟨fun _ => (lockX x)[k - 1].1, fun j hj => ⟨hl', fun i u hu => ?_⟩⟩
              have hi := (List.getElem?_eq_some_iff.1 hu).1
              have := hr' i u (by rw [hCe', List.getElem?_append_left hi]; exact hu)
              rw [show k - 1 = j by omega] at this
              exact this
          have HRG := Lib.hid hrg
          have HJ := Lib.hid (lock_size hCl)
          have HCL := Lib.hid hCl
          have HC1 := Lib.hid (Sh.rep_one _ _ _ hrep)
          have HC34 := Lib.hid h34
          have HC37 := Lib.hid h37
          have HCE := Lib.hid hCe
          have HL32 := Lib.hid hl32
          have HLI := Lib.hid (digS_size (C := u8s lid) (by rw [u8s_length]; exact hl32))
          have HPID := Lib.hid hpid
          have HBK2 := Lib.hid hbk
          have HBB := Lib.hid hb
          have HFIN := Lib.hid (show ∀ (wx : World), Below wr.heap.size wr wx → (∃ r, Ending.returned (.bool false) = .returned (.bool r) ∧ (r = true → SortA (accX x))) ∧ Below w.heap.size w wx from fun wx hx => ⟨⟨false, rfl, by simp⟩, HB1.out.trans ((hb.out.trans (hx.mono hb.out.size)).mono HB1.out.size)⟩)
          clear hat hr hrg hrep hCe hl32 hCl h34 h37 hlid hpid hbk hb hkl
          go_wp2_with (first
            | (refine wpList_load_mid rfl 71 _ rfl b (off + k * 38) rfl C _ HRG.out Tryz.underlying71 rfl HJ.out ?_)
            | (refine wpList_store_blk (cs0 := List.replicate 32 (.int .u8 0) ++ [.int .u64 0, .int .u64 0, .int .u64 0, .int .i64 0, .int .i64 0, .int .i64 0]) (cs := C) rfl 71 _ _ rfl (Blk.new wr _ _) rfl rfl (by rw [HCL.out]; rfl) HJ.out HC1.out ?_; intro w4 hb4 hc4; have h37 := hb4.cell 37; rw [getElem?_toArray, HC37.out] at h37; have HB4 := Lib.hid hb4; have HC4 := Lib.hid hc4; clear hb4 hc4))
          have hal1 := (Below.refl wr.heap.size wr).alloc (Nat.le_refl _) (.cells ((List.replicate 32 (.int .u8 0) ++ [.int .u64 0, .int .u64 0, .int .u64 0, .int .i64 0, .int .i64 0, .int .i64 0] : List Value)).toArray 71)
          have hb14 := (hal1.trans (HC4.out.below hal1.size fun k hk => Nat.le_of_eq hk.symm)).drew
          have hlid : w4.drew.rangeAt wr.heap.size 0 (u8s lid) := fun i u hu => by
            have hi := (List.getElem?_eq_some_iff.1 hu).1
            have := HB4.out.drew.cell i
            rw [Nat.zero_add, this, getElem?_toArray, HCE.out, List.getElem?_append_left hi]
            exact hu
          have hpd : ∀ j, k = j + 1 → w4.drew.rangeAt b (off + j * 38) (u8s (pid j)) := fun j hj => by
            have := (HPID.out j hj).2
            exact range_low this hb14
          have hSS : Blk w4.drew gS 34 ST.toArray ∧ Blk w4.drew wr.heap.size 71 C.toArray ∧ w4.drew.rangeAt wr.heap.size 0 (u8s lid) ∧ ∀ j, k = j + 1 → w4.drew.rangeAt b (off + j * 38) (u8s (pid j)) := ⟨HBK2.out.below hb14 HBK2.out.lt, HB4.out.drew, hlid, hpd⟩
          obtain ⟨o, ho⟩ : ∃ o, o = (st == 1) := ⟨_, rfl⟩
          have hsc : (o = true ∧ st = 1 ∧ z < am) ∨ (o = true ∧ st = 1 ∧ ¬ z < am) ∨ (o = false ∧ st = 2) ∨ (o = false ∧ st = 3) ∨ (o = false ∧ (st == 1) = false ∧ (st == 2) = false ∧ (st == 3) = false) := by
            rw [ho]
            by_cases h1 : st = 1
            · subst h1; by_cases hz : z < am <;> simp [hz]
            · by_cases h2 : st = 2
              · subst h2; simp
              · by_cases h3 : st = 3
                · subst h3; simp
                · simp [h1, h2, h3]
          rw [← ho]
          clear ho
          obtain ⟨gL, hgL⟩ : ∃ gL, gL = wr.heap.size := ⟨_, rfl⟩
          rw [← hgL] at hSS ⊢
          have HB14 := Lib.hid hb14
          clear hb14 hal1 hlid hpd hgL HB4 HC4
          cases k with
          | zero =>
            refine wp_region_segsV [([0, 1, 2, 3, 4, 5, 6, 7, 8, 9, 10, 11], [12]), ([13, 14, 15, 16, 17, 18, 19, 20, 21, 22, 23, 24, 25, 26, 27, 28, 29, 30, 31, 32, 33, 34, 35, 36], [37])] (by kernel_rfl) (by kernel_rfl) (by kernel_rfl) (by kernel_rfl)
              (SegV.mk (fun w' => Blk w' gS 34 ST.toArray ∧ Blk w' gL 71 C.toArray ∧ w'.rangeAt gL 0 (u8s lid) ∧ ∀ i, 0 = i + 1 → w'.rangeAt b (off + i * 38) (u8s (pid i))) (fun _ _ => trivial) hSS ?_)
            (refine HoistK.yes (by rfl) (by kernel_rfl) ⟨?_, fun w' hSw => ?_, ?_⟩; rotate_left; (· have hc2 := hSw.1.cell 2; rw [HC2.out] at hc2; have h34 := hSw.2.1.cell 34; have h37 := hSw.2.1.cell 37; rw [getElem?_toArray, HC34.out] at h34; rw [getElem?_toArray, HC37.out] at h37; go_simp; try with_reducible rfl); simp only [Act.put, setIfInBounds_toArray, getElem_toArray, getElem_cons_zero, set_cons_succ, set_cons_zero])
            iterate 2 (refine HoistK.yes (by rfl) (by kernel_rfl) ⟨?_, fun w' hSw => ?_, ?_⟩; rotate_left; (· have hc2 := hSw.1.cell 2; rw [HC2.out] at hc2; have h34 := hSw.2.1.cell 34; have h37 := hSw.2.1.cell 37; rw [getElem?_toArray, HC34.out] at h34; rw [getElem?_toArray, HC37.out] at h37; go_simp; try with_reducible rfl); simp only [Act.put, setIfInBounds_toArray, getElem_toArray, getElem_cons_succ, getElem_cons_zero, set_cons_succ, set_cons_zero])
            (refine HoistK.no (by rfl) (by kernel_rfl) ?_; simp only [Act.put, setIfInBounds_toArray, getElem_toArray, getElem_cons_succ, getElem_cons_zero, set_cons_succ, set_cons_zero])
            (refine HoistK.no (by rfl) (by kernel_rfl) ?_; simp only [Act.put, setIfInBounds_toArray, getElem_toArray, getElem_cons_succ, getElem_cons_zero, set_cons_succ, set_cons_zero])
            (refine HoistK.no (by rfl) (by kernel_rfl) ?_; simp only [Act.put, setIfInBounds_toArray, getElem_toArray, getElem_cons_succ, getElem_cons_zero, set_cons_succ, set_cons_zero])
            (refine HoistK.no (by rfl) (by kernel_rfl) ?_; simp only [Act.put, setIfInBounds_toArray, getElem_toArray, getElem_cons_succ, getElem_cons_zero, set_cons_succ, set_cons_zero])
            (refine HoistK.no (by rfl) (by kernel_rfl) ?_; simp only [Act.put, setIfInBounds_toArray, getElem_toArray, getElem_cons_succ, getElem_cons_zero, set_cons_succ, set_cons_zero])
            (refine HoistK.no (by rfl) (by kernel_rfl) ?_; simp only [Act.put, setIfInBounds_toArray, getElem_toArray, getElem_cons_succ, getElem_cons_zero, set_cons_succ, set_cons_zero])
            (refine HoistK.no (by rfl) (by kernel_rfl) ?_; simp only [Act.put, setIfInBounds_toArray, getElem_toArray, getElem_cons_succ, getElem_cons_zero, set_cons_succ, set_cons_zero])
            (refine HoistK.no (by rfl) (by kernel_rfl) ?_; simp only [Act.put, setIfInBounds_toArray, getElem_toArray, getElem_cons_succ, getElem_cons_zero, set_cons_succ, set_cons_zero])
            (refine HoistK.no (by rfl) (by kernel_rfl) ?_; simp only [Act.put, setIfInBounds_toArray, getElem_toArray, getElem_cons_succ, getElem_cons_zero, set_cons_succ, set_cons_zero])
            refine HoistK.nil_ ?_
            simp only [opsAt, filterMap_cons, filterMap_nil, getElem?_toArray, getElem?_cons_succ, getElem?_cons_zero]
            refine EffS.cons_ fun _ hQ => ?_
            go_wp2_with fail
            have hS5 := hSS
            have HB5 := HB14
            rcases hsc with ⟨rfl, rfl, hz⟩ | ⟨rfl, rfl, hz⟩ | ⟨rfl, rfl⟩ | ⟨rfl, rfl⟩ | ⟨rfl, h1, h2, h3⟩
            · have hz2 : decide (z < am) = true := decide_eq_true hz
              refine hQ _ _ hS5 (EffS.nil_ (SegV.mk (fun w' => Blk w' gS 34 ST.toArray ∧ Blk w' gL 71 C.toArray ∧ w'.rangeAt gL 0 (u8s lid) ∧ ∀ i, 0 = i + 1 → w'.rangeAt b (off + i * 38) (u8s (pid i))) (fun _ h => h) hS5 ?_))
              (refine HoistK.no (by rfl) (by kernel_rfl) ?_; simp only [Act.put, setIfInBounds_toArray, getElem_toArray, getElem_cons_succ, getElem_cons_zero, set_cons_succ, set_cons_zero])
              iterate 11 (refine HoistK.yes (by rfl) (by kernel_rfl) ⟨?_, fun w' hSw => ?_, ?_⟩; rotate_left; (· have hc2 := hSw.1.cell 2; rw [HC2.out] at hc2; have h34 := hSw.2.1.cell 34; have h37 := hSw.2.1.cell 37; rw [getElem?_toArray, HC34.out] at h34; rw [getElem?_toArray, HC37.out] at h37; go_simp; try with_reducible rfl); simp only [Act.put, setIfInBounds_toArray, getElem_toArray, getElem_cons_succ, getElem_cons_zero, set_cons_succ, set_cons_zero])
              (refine HoistK.no (by rfl) (by kernel_rfl) ?_; simp only [Act.put, setIfInBounds_toArray, getElem_toArray, getElem_cons_succ, getElem_cons_zero, set_cons_succ, set_cons_zero])
              (refine HoistK.no (by rfl) (by kernel_rfl) ?_; simp only [Act.put, setIfInBounds_toArray, getElem_toArray, getElem_cons_succ, getElem_cons_zero, set_cons_succ, set_cons_zero])
              (refine HoistK.no (by rfl) (by kernel_rfl) ?_; simp only [Act.put, setIfInBounds_toArray, getElem_toArray, getElem_cons_succ, getElem_cons_zero, set_cons_succ, set_cons_zero])
              (refine HoistK.no (by rfl) (by kernel_rfl) ?_; simp only [Act.put, setIfInBounds_toArray, getElem_toArray, getElem_cons_succ, getElem_cons_zero, set_cons_succ, set_cons_zero])
              (refine HoistK.no (by rfl) (by kernel_rfl) ?_; simp only [Act.put, setIfInBounds_toArray, getElem_toArray, getElem_cons_succ, getElem_cons_zero, set_cons_succ, set_cons_zero])
              (refine HoistK.no (by rfl) (by kernel_rfl) ?_; simp only [Act.put, setIfInBounds_toArray, getElem_toArray, getElem_cons_succ, getElem_cons_zero, set_cons_succ, set_cons_zero])
              (refine HoistK.no (by rfl) (by kernel_rfl) ?_; simp only [Act.put, setIfInBounds_toArray, getElem_toArray, getElem_cons_succ, getElem_cons_zero, set_cons_succ, set_cons_zero])
              (refine HoistK.no (by rfl) (by kernel_rfl) ?_; simp only [Act.put, setIfInBounds_toArray, getElem_toArray, getElem_cons_succ, getElem_cons_zero, set_cons_succ, set_cons_zero])
              (refine HoistK.no (by rfl) (by kernel_rfl) ?_; simp only [Act.put, setIfInBounds_toArray, getElem_toArray, getElem_cons_succ, getElem_cons_zero, set_cons_succ, set_cons_zero])
              (refine HoistK.no (by rfl) (by kernel_rfl) ?_; simp only [Act.put, setIfInBounds_toArray, getElem_toArray, getElem_cons_succ, getElem_cons_zero, set_cons_succ, set_cons_zero])
              (refine HoistK.no (by rfl) (by kernel_rfl) ?_; simp only [Act.put, setIfInBounds_toArray, getElem_toArray, getElem_cons_succ, getElem_cons_zero, set_cons_succ, set_cons_zero])
              (refine HoistK.no (by rfl) (by kernel_rfl) ?_; simp only [Act.put, setIfInBounds_toArray, getElem_toArray, getElem_cons_succ, getElem_cons_zero, set_cons_succ, set_cons_zero])
              refine HoistK.nil_ ?_
              simp only [opsAt, filterMap_cons, filterMap_nil, getElem?_toArray, getElem?_cons_succ, getElem?_cons_zero]
              refine EffS.cons_ fun _ hQ => ?_
              go_wp2_with fail
              have q34 := hS5.2.1.cell 34
              rw [getElem?_toArray, HC34.out] at q34
              refine hQ _ _ hS5 (EffS.nil_ fun _ hQ => ?_)
              go_wp2_with fail
              go_ret
              exact HFIN.out _ HB5.out
            · have hz2 : decide (z < am) = false := decide_eq_false (by omega)
              refine hQ _ _ hS5 (EffS.nil_ (SegV.mk (fun w' => Blk w' gS 34 ST.toArray ∧ Blk w' gL 71 C.toArray ∧ w'.rangeAt gL 0 (u8s lid) ∧ ∀ i, 0 = i + 1 → w'.rangeAt b (off + i * 38) (u8s (pid i))) (fun _ h => h) hS5 ?_))
              (refine HoistK.no (by rfl) (by kernel_rfl) ?_; simp only [Act.put, setIfInBounds_toArray, getElem_toArray, getElem_cons_succ, getElem_cons_zero, set_cons_succ, set_cons_zero])
              iterate 14 (refine HoistK.yes (by rfl) (by kernel_rfl) ⟨?_, fun w' hSw => ?_, ?_⟩; rotate_left; (· have hc2 := hSw.1.cell 2; rw [HC2.out] at hc2; have h34 := hSw.2.1.cell 34; have h37 := hSw.2.1.cell 37; rw [getElem?_toArray, HC34.out] at h34; rw [getElem?_toArray, HC37.out] at h37; go_simp; try with_reducible rfl); simp only [Act.put, setIfInBounds_toArray, getElem_toArray, getElem_cons_succ, getElem_cons_zero, set_cons_succ, set_cons_zero])
              (refine HoistK.no (by rfl) (by kernel_rfl) ?_; simp only [Act.put, setIfInBounds_toArray, getElem_toArray, getElem_cons_succ, getElem_cons_zero, set_cons_succ, set_cons_zero])
              (refine HoistK.no (by rfl) (by kernel_rfl) ?_; simp only [Act.put, setIfInBounds_toArray, getElem_toArray, getElem_cons_succ, getElem_cons_zero, set_cons_succ, set_cons_zero])
              (refine HoistK.no (by rfl) (by kernel_rfl) ?_; simp only [Act.put, setIfInBounds_toArray, getElem_toArray, getElem_cons_succ, getElem_cons_zero, set_cons_succ, set_cons_zero])
              iterate 2 (refine HoistK.yes (by rfl) (by kernel_rfl) ⟨?_, fun w' hSw => ?_, ?_⟩; rotate_left; (· have hc2 := hSw.1.cell 2; rw [HC2.out] at hc2; have h34 := hSw.2.1.cell 34; have h37 := hSw.2.1.cell 37; rw [getElem?_toArray, HC34.out] at h34; rw [getElem?_toArray, HC37.out] at h37; go_simp; try with_reducible rfl); simp only [Act.put, setIfInBounds_toArray, getElem_toArray, getElem_cons_succ, getElem_cons_zero, set_cons_succ, set_cons_zero])
              (refine HoistK.no (by rfl) (by kernel_rfl) ?_; simp only [Act.put, setIfInBounds_toArray, getElem_toArray, getElem_cons_succ, getElem_cons_zero, set_cons_succ, set_cons_zero])
              (refine HoistK.no (by rfl) (by kernel_rfl) ?_; simp only [Act.put, setIfInBounds_toArray, getElem_toArray, getElem_cons_succ, getElem_cons_zero, set_cons_succ, set_cons_zero])
              (refine HoistK.no (by rfl) (by kernel_rfl) ?_; simp only [Act.put, setIfInBounds_toArray, getElem_toArray, getElem_cons_succ, getElem_cons_zero, set_cons_succ, set_cons_zero])
              (refine HoistK.yes (by rfl) (by kernel_rfl) ⟨?_, fun w' hSw => ?_, ?_⟩; rotate_left; (· have hc2 := hSw.1.cell 2; rw [HC2.out] at hc2; have h34 := hSw.2.1.cell 34; have h37 := hSw.2.1.cell 37; rw [getElem?_toArray, HC34.out] at h34; rw [getElem?_toArray, HC37.out] at h37; go_simp; try with_reducible rfl); simp only [Act.put, setIfInBounds_toArray, getElem_toArray, getElem_cons_succ, getElem_cons_zero, set_cons_succ, set_cons_zero])
              refine HoistK.nil_ ?_
              simp only [opsAt, filterMap_cons, filterMap_nil, getElem?_toArray, getElem?_cons_succ, getElem?_cons_zero]
              refine EffS.cons_ fun _ hQ => ?_
              go_wp2_with fail
              have q34 := hS5.2.1.cell 34
              rw [getElem?_toArray, HC34.out] at q34
              refine hQ _ _ hS5 (EffS.nil_ fun _ hQ => ?_)
              go_wp2_with fail
              exact ⟨⟨0 + 1, _, by omega, by push_cast; rfl, rfl, Lib.hid (HBB.out.out.trans (HB5.out.mono HBB.out.out.size))⟩, by simp only [intOf]; omega⟩
            · refine hQ _ _ hS5 (EffS.nil_ (SegV.mk (fun w' => Blk w' gS 34 ST.toArray ∧ Blk w' gL 71 C.toArray ∧ w'.rangeAt gL 0 (u8s lid) ∧ ∀ i, 0 = i + 1 → w'.rangeAt b (off + i * 38) (u8s (pid i))) (fun _ h => h) hS5 ?_))
              (refine HoistK.no (by rfl) (by kernel_rfl) ?_; simp only [Act.put, setIfInBounds_toArray, getElem_toArray, getElem_cons_succ, getElem_cons_zero, set_cons_succ, set_cons_zero])
              iterate 4 (refine HoistK.yes (by rfl) (by kernel_rfl) ⟨?_, fun w' hSw => ?_, ?_⟩; rotate_left; (· have hc2 := hSw.1.cell 2; rw [HC2.out] at hc2; have h34 := hSw.2.1.cell 34; have h37 := hSw.2.1.cell 37; rw [getElem?_toArray, HC34.out] at h34; rw [getElem?_toArray, HC37.out] at h37; go_simp; try with_reducible rfl); simp only [Act.put, setIfInBounds_toArray, getElem_toArray, getElem_cons_succ, getElem_cons_zero, set_cons_succ, set_cons_zero])
              (refine HoistK.no (by rfl) (by kernel_rfl) ?_; simp only [Act.put, setIfInBounds_toArray, getElem_toArray, getElem_cons_succ, getElem_cons_zero, set_cons_succ, set_cons_zero])
              (refine HoistK.no (by rfl) (by kernel_rfl) ?_; simp only [Act.put, setIfInBounds_toArray, getElem_toArray, getElem_cons_succ, getElem_cons_zero, set_cons_succ, set_cons_zero])
              (refine HoistK.no (by rfl) (by kernel_rfl) ?_; simp only [Act.put, setIfInBounds_toArray, getElem_toArray, getElem_cons_succ, getElem_cons_zero, set_cons_succ, set_cons_zero])
              (refine HoistK.no (by rfl) (by kernel_rfl) ?_; simp only [Act.put, setIfInBounds_toArray, getElem_toArray, getElem_cons_succ, getElem_cons_zero, set_cons_succ, set_cons_zero])
              iterate 11 (refine HoistK.yes (by rfl) (by kernel_rfl) ⟨?_, fun w' hSw => ?_, ?_⟩; rotate_left; (· have hc2 := hSw.1.cell 2; rw [HC2.out] at hc2; have h34 := hSw.2.1.cell 34; have h37 := hSw.2.1.cell 37; rw [getElem?_toArray, HC34.out] at h34; rw [getElem?_toArray, HC37.out] at h37; go_simp; try with_reducible rfl); simp only [Act.put, setIfInBounds_toArray, getElem_toArray, getElem_cons_succ, getElem_cons_zero, set_cons_succ, set_cons_zero])
              (refine HoistK.no (by rfl) (by kernel_rfl) ?_; simp only [Act.put, setIfInBounds_toArray, getElem_toArray, getElem_cons_succ, getElem_cons_zero, set_cons_succ, set_cons_zero])
              (refine HoistK.no (by rfl) (by kernel_rfl) ?_; simp only [Act.put, setIfInBounds_toArray, getElem_toArray, getElem_cons_succ, getElem_cons_zero, set_cons_succ, set_cons_zero])
              (refine HoistK.no (by rfl) (by kernel_rfl) ?_; simp only [Act.put, setIfInBounds_toArray, getElem_toArray, getElem_cons_succ, getElem_cons_zero, set_cons_succ, set_cons_zero])
              (refine HoistK.yes (by rfl) (by kernel_rfl) ⟨?_, fun w' hSw => ?_, ?_⟩; rotate_left; (· have hc2 := hSw.1.cell 2; rw [HC2.out] at hc2; have h34 := hSw.2.1.cell 34; have h37 := hSw.2.1.cell 37; rw [getElem?_toArray, HC34.out] at h34; rw [getElem?_toArray, HC37.out] at h37; go_simp; try with_reducible rfl); simp only [Act.put, setIfInBounds_toArray, getElem_toArray, getElem_cons_succ, getElem_cons_zero, set_cons_succ, set_cons_zero])
              refine HoistK.nil_ ?_
              simp only [opsAt, filterMap_cons, filterMap_nil, getElem?_toArray, getElem?_cons_succ, getElem?_cons_zero]
              refine EffS.cons_ fun _ hQ => ?_
              go_wp2_with fail
              have q34 := hS5.2.1.cell 34
              rw [getElem?_toArray, HC34.out] at q34
              refine hQ _ _ hS5 (EffS.nil_ fun _ hQ => ?_)
              go_wp2_with fail
              exact ⟨⟨0 + 1, _, by omega, by push_cast; rfl, rfl, Lib.hid (HBB.out.out.trans (HB5.out.mono HBB.out.out.size))⟩, by simp only [intOf]; omega⟩
            · refine hQ _ _ hS5 (EffS.nil_ (SegV.mk (fun w' => Blk w' gS 34 ST.toArray ∧ Blk w' gL 71 C.toArray ∧ w'.rangeAt gL 0 (u8s lid) ∧ ∀ i, 0 = i + 1 → w'.rangeAt b (off + i * 38) (u8s (pid i))) (fun _ h => h) hS5 ?_))
              (refine HoistK.no (by rfl) (by kernel_rfl) ?_; simp only [Act.put, setIfInBounds_toArray, getElem_toArray, getElem_cons_succ, getElem_cons_zero, set_cons_succ, set_cons_zero])
              iterate 4 (refine HoistK.yes (by rfl) (by kernel_rfl) ⟨?_, fun w' hSw => ?_, ?_⟩; rotate_left; (· have hc2 := hSw.1.cell 2; rw [HC2.out] at hc2; have h34 := hSw.2.1.cell 34; have h37 := hSw.2.1.cell 37; rw [getElem?_toArray, HC34.out] at h34; rw [getElem?_toArray, HC37.out] at h37; go_simp; try with_reducible rfl); simp only [Act.put, setIfInBounds_toArray, getElem_toArray, getElem_cons_succ, getElem_cons_zero, set_cons_succ, set_cons_zero])
              (refine HoistK.no (by rfl) (by kernel_rfl) ?_; simp only [Act.put, setIfInBounds_toArray, getElem_toArray, getElem_cons_succ, getElem_cons_zero, set_cons_succ, set_cons_zero])
              (refine HoistK.no (by rfl) (by kernel_rfl) ?_; simp only [Act.put, setIfInBounds_toArray, getElem_toArray, getElem_cons_succ, getElem_cons_zero, set_cons_succ, set_cons_zero])
              (refine HoistK.no (by rfl) (by kernel_rfl) ?_; simp only [Act.put, setIfInBounds_toArray, getElem_toArray, getElem_cons_succ, getElem_cons_zero, set_cons_succ, set_cons_zero])
              (refine HoistK.no (by rfl) (by kernel_rfl) ?_; simp only [Act.put, setIfInBounds_toArray, getElem_toArray, getElem_cons_succ, getElem_cons_zero, set_cons_succ, set_cons_zero])
              iterate 15 (refine HoistK.yes (by rfl) (by kernel_rfl) ⟨?_, fun w' hSw => ?_, ?_⟩; rotate_left; (· have hc2 := hSw.1.cell 2; rw [HC2.out] at hc2; have h34 := hSw.2.1.cell 34; have h37 := hSw.2.1.cell 37; rw [getElem?_toArray, HC34.out] at h34; rw [getElem?_toArray, HC37.out] at h37; go_simp; try with_reducible rfl); simp only [Act.put, setIfInBounds_toArray, getElem_toArray, getElem_cons_succ, getElem_cons_zero, set_cons_succ, set_cons_zero])
              refine HoistK.nil_ ?_
              simp only [opsAt, filterMap_cons, filterMap_nil, getElem?_toArray, getElem?_cons_succ, getElem?_cons_zero]
              refine EffS.cons_ fun _ hQ => ?_
              go_wp2_with fail
              have q34 := hS5.2.1.cell 34
              rw [getElem?_toArray, HC34.out] at q34
              refine hQ _ _ hS5 (EffS.nil_ fun _ hQ => ?_)
              go_wp2_with fail
              exact ⟨⟨0 + 1, _, by omega, by push_cast; rfl, rfl, Lib.hid (HBB.out.out.trans (HB5.out.mono HBB.out.out.size))⟩, by simp only [intOf]; omega⟩
            · have g1 : ¬ st = 1 := by simpa using h1
              have g2 : ¬ st = 2 := by simpa using h2
              have g3 : ¬ st = 3 := by simpa using h3
              have k2 : (st != 2) = true := by simpa using h2
              have k3 : (st != 3) = true := by simpa using h3
              refine hQ _ _ hS5 (EffS.nil_ (SegV.mk (fun w' => Blk w' gS 34 ST.toArray ∧ Blk w' gL 71 C.toArray ∧ w'.rangeAt gL 0 (u8s lid) ∧ ∀ i, 0 = i + 1 → w'.rangeAt b (off + i * 38) (u8s (pid i))) (fun _ h => h) hS5 ?_))
              (refine HoistK.no (by rfl) (by kernel_rfl) ?_; simp only [Act.put, setIfInBounds_toArray, getElem_toArray, getElem_cons_succ, getElem_cons_zero, set_cons_succ, set_cons_zero])
              iterate 4 (refine HoistK.yes (by rfl) (by kernel_rfl) ⟨?_, fun w' hSw => ?_, ?_⟩; rotate_left; (· have hc2 := hSw.1.cell 2; rw [HC2.out] at hc2; have h34 := hSw.2.1.cell 34; have h37 := hSw.2.1.cell 37; rw [getElem?_toArray, HC34.out] at h34; rw [getElem?_toArray, HC37.out] at h37; go_simp; try with_reducible rfl); simp only [Act.put, setIfInBounds_toArray, getElem_toArray, getElem_cons_succ, getElem_cons_zero, set_cons_succ, set_cons_zero])
              (refine HoistK.no (by rfl) (by kernel_rfl) ?_; simp only [Act.put, setIfInBounds_toArray, getElem_toArray, getElem_cons_succ, getElem_cons_zero, set_cons_succ, set_cons_zero])
              (refine HoistK.no (by rfl) (by kernel_rfl) ?_; simp only [Act.put, setIfInBounds_toArray, getElem_toArray, getElem_cons_succ, getElem_cons_zero, set_cons_succ, set_cons_zero])
              (refine HoistK.no (by rfl) (by kernel_rfl) ?_; simp only [Act.put, setIfInBounds_toArray, getElem_toArray, getElem_cons_succ, getElem_cons_zero, set_cons_succ, set_cons_zero])
              (refine HoistK.no (by rfl) (by kernel_rfl) ?_; simp only [Act.put, setIfInBounds_toArray, getElem_toArray, getElem_cons_succ, getElem_cons_zero, set_cons_succ, set_cons_zero])
              iterate 15 (refine HoistK.yes (by rfl) (by kernel_rfl) ⟨?_, fun w' hSw => ?_, ?_⟩; rotate_left; (· have hc2 := hSw.1.cell 2; rw [HC2.out] at hc2; have h34 := hSw.2.1.cell 34; have h37 := hSw.2.1.cell 37; rw [getElem?_toArray, HC34.out] at h34; rw [getElem?_toArray, HC37.out] at h37; go_simp; try with_reducible rfl); simp only [Act.put, setIfInBounds_toArray, getElem_toArray, getElem_cons_succ, getElem_cons_zero, set_cons_succ, set_cons_zero])
              refine HoistK.nil_ ?_
              simp only [opsAt, filterMap_cons, filterMap_nil, getElem?_toArray, getElem?_cons_succ, getElem?_cons_zero]
              refine EffS.cons_ fun _ hQ => ?_
              go_wp2_with fail
              have q34 := hS5.2.1.cell 34
              rw [getElem?_toArray, HC34.out] at q34
              refine hQ _ _ hS5 (EffS.nil_ fun _ hQ => ?_)
              go_wp2_with fail
              all_goals first | (go_ret; exact HFIN.out _ HB5.out) | exact ⟨⟨0 + 1, _, by omega, by push_cast; rfl, rfl, Lib.hid (HBB.out.out.trans (HB5.out.mono HBB.out.out.size))⟩, by simp only [intOf]; omega⟩
          | succ j =>
            have HPI := Lib.hid (digS_size (C := u8s (pid j)) (by rw [u8s_length]; exact (HPID.out j rfl).1))
            have hj1 : (j : Int) < (nL : Int) := by omega
            have hj0 : (0 : Int) ≤ (j : Int) := by omega
            have hwj : IntKind.i64.wrap (j : Int) = (j : Int) := by simp [IntKind.wrap, IntKind.signed, IntKind.bits]; omega
            refine wp_region_segsV [([0, 1, 2, 3, 4, 5, 6, 7, 8, 9, 10, 11], [12]), ([13, 14, 15, 16, 17, 18, 19, 20, 21, 22, 23, 24, 25, 26, 27, 28, 29, 30, 31, 32, 33, 34, 35, 36], [37])] (by kernel_rfl) (by kernel_rfl) (by kernel_rfl) (by kernel_rfl)
              (SegV.mk (fun w' => Blk w' gS 34 ST.toArray ∧ Blk w' gL 71 C.toArray ∧ w'.rangeAt gL 0 (u8s lid) ∧ ∀ i, j + 1 = i + 1 → w'.rangeAt b (off + i * 38) (u8s (pid i))) (fun _ _ => trivial) hSS ?_)
            (refine HoistK.yes (by rfl) (by kernel_rfl) ⟨?_, fun w' hSw => ?_, ?_⟩; rotate_left; (· have hc2 := hSw.1.cell 2; rw [HC2.out] at hc2; have h34 := hSw.2.1.cell 34; have h37 := hSw.2.1.cell 37; rw [getElem?_toArray, HC34.out] at h34; rw [getElem?_toArray, HC37.out] at h37; go_simp; try with_reducible rfl); simp only [Act.put, setIfInBounds_toArray, getElem_toArray, getElem_cons_zero, set_cons_succ, set_cons_zero])
            iterate 3 (refine HoistK.yes (by rfl) (by kernel_rfl) ⟨?_, fun w' hSw => ?_, ?_⟩; rotate_left; (· have hc2 := hSw.1.cell 2; rw [HC2.out] at hc2; have h34 := hSw.2.1.cell 34; have h37 := hSw.2.1.cell 37; rw [getElem?_toArray, HC34.out] at h34; rw [getElem?_toArray, HC37.out] at h37; go_simp; try with_reducible rfl); simp only [Act.put, setIfInBounds_toArray, getElem_toArray, getElem_cons_succ, getElem_cons_zero, set_cons_succ, set_cons_zero])
            (refine HoistK.load (by rfl) (by kernel_rfl) 37 _ rfl gL 0 rfl (u8s lid) _ (fun w' hw => hw.2.2.1) Tryz.underlying37 rfl HLI.out ?_; simp only [Act.put, setIfInBounds_toArray, getElem_toArray, getElem_cons_succ, getElem_cons_zero, set_cons_succ, set_cons_zero])
            iterate 6 (refine HoistK.yes (by rfl) (by kernel_rfl) ⟨?_, fun w' hSw => ?_, ?_⟩; rotate_left; (· have hc2 := hSw.1.cell 2; rw [HC2.out] at hc2; have h34 := hSw.2.1.cell 34; have h37 := hSw.2.1.cell 37; rw [getElem?_toArray, HC34.out] at h34; rw [getElem?_toArray, HC37.out] at h37; go_simp; try with_reducible rfl); simp only [Act.put, setIfInBounds_toArray, getElem_toArray, getElem_cons_succ, getElem_cons_zero, set_cons_succ, set_cons_zero])
            (refine HoistK.load (by rfl) (by kernel_rfl) 37 _ rfl b (off + j * 38) rfl (u8s (pid j)) _ (fun w' hw => hw.2.2.2 j rfl) Tryz.underlying37 rfl HPI.out ?_; simp only [Act.put, setIfInBounds_toArray, getElem_toArray, getElem_cons_succ, getElem_cons_zero, set_cons_succ, set_cons_zero])
            refine HoistK.nil_ ?_
            simp only [opsAt, filterMap_cons, filterMap_nil, getElem?_toArray, getElem?_cons_succ, getElem?_cons_zero]
            refine EffS.cons_ fun _ hQ => ?_
            go_wp2_with fail
            refine (above_any w4.drew lid (pid j) HL32.out (HPID.out j rfl).1).mono ?_
            rintro e w5 ⟨⟨r, rfl⟩, hb5⟩
            have HB5 := Lib.hid (HB14.out.trans (hb5.mono HB14.out.size))
            have hS5 : Blk w5 gS 34 ST.toArray ∧ Blk w5 gL 71 C.toArray ∧ w5.rangeAt gL 0 (u8s lid) ∧ ∀ i, j + 1 = i + 1 → w5.rangeAt b (off + i * 38) (u8s (pid i)) := ⟨hSS.1.below hb5 hSS.1.lt, hSS.2.1.below hb5 hSS.2.1.lt, range_low hSS.2.2.1 hb5, fun i hi => range_low (hSS.2.2.2 i hi) hb5⟩
            clear hSS hb5
            go_wp2_with fail
            cases r
            · refine hQ _ _ hS5 (EffS.nil_ (SegV.mk (fun w' => Blk w' gS 34 ST.toArray ∧ Blk w' gL 71 C.toArray ∧ w'.rangeAt gL 0 (u8s lid) ∧ ∀ i, j + 1 = i + 1 → w'.rangeAt b (off + i * 38) (u8s (pid i))) (fun _ h => h) hS5 ?_))
              iterate 3 (refine HoistK.yes (by rfl) (by kernel_rfl) ⟨?_, fun w' hSw => ?_, ?_⟩; rotate_left; (· have hc2 := hSw.1.cell 2; rw [HC2.out] at hc2; have h34 := hSw.2.1.cell 34; have h37 := hSw.2.1.cell 37; rw [getElem?_toArray, HC34.out] at h34; rw [getElem?_toArray, HC37.out] at h37; go_simp; try with_reducible rfl); simp only [Act.put, setIfInBounds_toArray, getElem_toArray, getElem_cons_succ, getElem_cons_zero, set_cons_succ, set_cons_zero])
              (refine HoistK.no (by rfl) (by kernel_rfl) ?_; simp only [Act.put, setIfInBounds_toArray, getElem_toArray, getElem_cons_succ, getElem_cons_zero, set_cons_succ, set_cons_zero])
              (refine HoistK.no (by rfl) (by kernel_rfl) ?_; simp only [Act.put, setIfInBounds_toArray, getElem_toArray, getElem_cons_succ, getElem_cons_zero, set_cons_succ, set_cons_zero])
              (refine HoistK.no (by rfl) (by kernel_rfl) ?_; simp only [Act.put, setIfInBounds_toArray, getElem_toArray, getElem_cons_succ, getElem_cons_zero, set_cons_succ, set_cons_zero])
              (refine HoistK.no (by rfl) (by kernel_rfl) ?_; simp only [Act.put, setIfInBounds_toArray, getElem_toArray, getElem_cons_succ, getElem_cons_zero, set_cons_succ, set_cons_zero])
              (refine HoistK.no (by rfl) (by kernel_rfl) ?_; simp only [Act.put, setIfInBounds_toArray, getElem_toArray, getElem_cons_succ, getElem_cons_zero, set_cons_succ, set_cons_zero])
              (refine HoistK.no (by rfl) (by kernel_rfl) ?_; simp only [Act.put, setIfInBounds_toArray, getElem_toArray, getElem_cons_succ, getElem_cons_zero, set_cons_succ, set_cons_zero])
              (refine HoistK.no (by rfl) (by kernel_rfl) ?_; simp only [Act.put, setIfInBounds_toArray, getElem_toArray, getElem_cons_succ, getElem_cons_zero, set_cons_succ, set_cons_zero])
              iterate 2 (refine HoistK.yes (by rfl) (by kernel_rfl) ⟨?_, fun w' hSw => ?_, ?_⟩; rotate_left; (· have hc2 := hSw.1.cell 2; rw [HC2.out] at hc2; have h34 := hSw.2.1.cell 34; have h37 := hSw.2.1.cell 37; rw [getElem?_toArray, HC34.out] at h34; rw [getElem?_toArray, HC37.out] at h37; go_simp; try with_reducible rfl); simp only [Act.put, setIfInBounds_toArray, getElem_toArray, getElem_cons_succ, getElem_cons_zero, set_cons_succ, set_cons_zero])
              (refine HoistK.no (by rfl) (by kernel_rfl) ?_; simp only [Act.put, setIfInBounds_toArray, getElem_toArray, getElem_cons_succ, getElem_cons_zero, set_cons_succ, set_cons_zero])
              (refine HoistK.no (by rfl) (by kernel_rfl) ?_; simp only [Act.put, setIfInBounds_toArray, getElem_toArray, getElem_cons_succ, getElem_cons_zero, set_cons_succ, set_cons_zero])
              (refine HoistK.no (by rfl) (by kernel_rfl) ?_; simp only [Act.put, setIfInBounds_toArray, getElem_toArray, getElem_cons_succ, getElem_cons_zero, set_cons_succ, set_cons_zero])
              (refine HoistK.no (by rfl) (by kernel_rfl) ?_; simp only [Act.put, setIfInBounds_toArray, getElem_toArray, getElem_cons_succ, getElem_cons_zero, set_cons_succ, set_cons_zero])
              (refine HoistK.no (by rfl) (by kernel_rfl) ?_; simp only [Act.put, setIfInBounds_toArray, getElem_toArray, getElem_cons_succ, getElem_cons_zero, set_cons_succ, set_cons_zero])
              (refine HoistK.no (by rfl) (by kernel_rfl) ?_; simp only [Act.put, setIfInBounds_toArray, getElem_toArray, getElem_cons_succ, getElem_cons_zero, set_cons_succ, set_cons_zero])
              (refine HoistK.no (by rfl) (by kernel_rfl) ?_; simp only [Act.put, setIfInBounds_toArray, getElem_toArray, getElem_cons_succ, getElem_cons_zero, set_cons_succ, set_cons_zero])
              (refine HoistK.no (by rfl) (by kernel_rfl) ?_; simp only [Act.put, setIfInBounds_toArray, getElem_toArray, getElem_cons_succ, getElem_cons_zero, set_cons_succ, set_cons_zero])
              (refine HoistK.no (by rfl) (by kernel_rfl) ?_; simp only [Act.put, setIfInBounds_toArray, getElem_toArray, getElem_cons_succ, getElem_cons_zero, set_cons_succ, set_cons_zero])
              (refine HoistK.no (by rfl) (by kernel_rfl) ?_; simp only [Act.put, setIfInBounds_toArray, getElem_toArray, getElem_cons_succ, getElem_cons_zero, set_cons_succ, set_cons_zero])
              (refine HoistK.no (by rfl) (by kernel_rfl) ?_; simp only [Act.put, setIfInBounds_toArray, getElem_toArray, getElem_cons_succ, getElem_cons_zero, set_cons_succ, set_cons_zero])
              (refine HoistK.no (by rfl) (by kernel_rfl) ?_; simp only [Act.put, setIfInBounds_toArray, getElem_toArray, getElem_cons_succ, getElem_cons_zero, set_cons_succ, set_cons_zero])
              refine HoistK.nil_ ?_
              simp only [opsAt, filterMap_cons, filterMap_nil, getElem?_toArray, getElem?_cons_succ, getElem?_cons_zero]
              refine EffS.cons_ fun _ hQ => ?_
              go_wp2_with fail
              have q34 := hS5.2.1.cell 34
              rw [getElem?_toArray, HC34.out] at q34
              refine hQ _ _ hS5 (EffS.nil_ fun _ hQ => ?_)
              go_wp2_with fail
              go_ret
              exact HFIN.out _ HB5.out
            · rcases hsc with ⟨rfl, rfl, hz⟩ | ⟨rfl, rfl, hz⟩ | ⟨rfl, rfl⟩ | ⟨rfl, rfl⟩ | ⟨rfl, h1, h2, h3⟩
              · have hz2 : decide (z < am) = true := decide_eq_true hz
                refine hQ _ _ hS5 (EffS.nil_ (SegV.mk (fun w' => Blk w' gS 34 ST.toArray ∧ Blk w' gL 71 C.toArray ∧ w'.rangeAt gL 0 (u8s lid) ∧ ∀ i, j + 1 = i + 1 → w'.rangeAt b (off + i * 38) (u8s (pid i))) (fun _ h => h) hS5 ?_))
                iterate 12 (refine HoistK.yes (by rfl) (by kernel_rfl) ⟨?_, fun w' hSw => ?_, ?_⟩; rotate_left; (· have hc2 := hSw.1.cell 2; rw [HC2.out] at hc2; have h34 := hSw.2.1.cell 34; have h37 := hSw.2.1.cell 37; rw [getElem?_toArray, HC34.out] at h34; rw [getElem?_toArray, HC37.out] at h37; go_simp; try with_reducible rfl); simp only [Act.put, setIfInBounds_toArray, getElem_toArray, getElem_cons_succ, getElem_cons_zero, set_cons_succ, set_cons_zero])
                (refine HoistK.no (by rfl) (by kernel_rfl) ?_; simp only [Act.put, setIfInBounds_toArray, getElem_toArray, getElem_cons_succ, getElem_cons_zero, set_cons_succ, set_cons_zero])
                (refine HoistK.no (by rfl) (by kernel_rfl) ?_; simp only [Act.put, setIfInBounds_toArray, getElem_toArray, getElem_cons_succ, getElem_cons_zero, set_cons_succ, set_cons_zero])
                (refine HoistK.no (by rfl) (by kernel_rfl) ?_; simp only [Act.put, setIfInBounds_toArray, getElem_toArray, getElem_cons_succ, getElem_cons_zero, set_cons_succ, set_cons_zero])
                (refine HoistK.no (by rfl) (by kernel_rfl) ?_; simp only [Act.put, setIfInBounds_toArray, getElem_toArray, getElem_cons_succ, getElem_cons_zero, set_cons_succ, set_cons_zero])
                (refine HoistK.no (by rfl) (by kernel_rfl) ?_; simp only [Act.put, setIfInBounds_toArray, getElem_toArray, getElem_cons_succ, getElem_cons_zero, set_cons_succ, set_cons_zero])
                (refine HoistK.no (by rfl) (by kernel_rfl) ?_; simp only [Act.put, setIfInBounds_toArray, getElem_toArray, getElem_cons_succ, getElem_cons_zero, set_cons_succ, set_cons_zero])
                (refine HoistK.no (by rfl) (by kernel_rfl) ?_; simp only [Act.put, setIfInBounds_toArray, getElem_toArray, getElem_cons_succ, getElem_cons_zero, set_cons_succ, set_cons_zero])
                (refine HoistK.no (by rfl) (by kernel_rfl) ?_; simp only [Act.put, setIfInBounds_toArray, getElem_toArray, getElem_cons_succ, getElem_cons_zero, set_cons_succ, set_cons_zero])
                (refine HoistK.no (by rfl) (by kernel_rfl) ?_; simp only [Act.put, setIfInBounds_toArray, getElem_toArray, getElem_cons_succ, getElem_cons_zero, set_cons_succ, set_cons_zero])
                (refine HoistK.no (by rfl) (by kernel_rfl) ?_; simp only [Act.put, setIfInBounds_toArray, getElem_toArray, getElem_cons_succ, getElem_cons_zero, set_cons_succ, set_cons_zero])
                (refine HoistK.no (by rfl) (by kernel_rfl) ?_; simp only [Act.put, setIfInBounds_toArray, getElem_toArray, getElem_cons_succ, getElem_cons_zero, set_cons_succ, set_cons_zero])
                (refine HoistK.no (by rfl) (by kernel_rfl) ?_; simp only [Act.put, setIfInBounds_toArray, getElem_toArray, getElem_cons_succ, getElem_cons_zero, set_cons_succ, set_cons_zero])
                refine HoistK.nil_ ?_
                simp only [opsAt, filterMap_cons, filterMap_nil, getElem?_toArray, getElem?_cons_succ, getElem?_cons_zero]
                refine EffS.cons_ fun _ hQ => ?_
                go_wp2_with fail
                have q34 := hS5.2.1.cell 34
                rw [getElem?_toArray, HC34.out] at q34
                refine hQ _ _ hS5 (EffS.nil_ fun _ hQ => ?_)
                go_wp2_with fail
                go_ret
                exact HFIN.out _ HB5.out
              · have hz2 : decide (z < am) = false := decide_eq_false (by omega)
                refine hQ _ _ hS5 (EffS.nil_ (SegV.mk (fun w' => Blk w' gS 34 ST.toArray ∧ Blk w' gL 71 C.toArray ∧ w'.rangeAt gL 0 (u8s lid) ∧ ∀ i, j + 1 = i + 1 → w'.rangeAt b (off + i * 38) (u8s (pid i))) (fun _ h => h) hS5 ?_))
                iterate 15 (refine HoistK.yes (by rfl) (by kernel_rfl) ⟨?_, fun w' hSw => ?_, ?_⟩; rotate_left; (· have hc2 := hSw.1.cell 2; rw [HC2.out] at hc2; have h34 := hSw.2.1.cell 34; have h37 := hSw.2.1.cell 37; rw [getElem?_toArray, HC34.out] at h34; rw [getElem?_toArray, HC37.out] at h37; go_simp; try with_reducible rfl); simp only [Act.put, setIfInBounds_toArray, getElem_toArray, getElem_cons_succ, getElem_cons_zero, set_cons_succ, set_cons_zero])
                (refine HoistK.no (by rfl) (by kernel_rfl) ?_; simp only [Act.put, setIfInBounds_toArray, getElem_toArray, getElem_cons_succ, getElem_cons_zero, set_cons_succ, set_cons_zero])
                (refine HoistK.no (by rfl) (by kernel_rfl) ?_; simp only [Act.put, setIfInBounds_toArray, getElem_toArray, getElem_cons_succ, getElem_cons_zero, set_cons_succ, set_cons_zero])
                (refine HoistK.no (by rfl) (by kernel_rfl) ?_; simp only [Act.put, setIfInBounds_toArray, getElem_toArray, getElem_cons_succ, getElem_cons_zero, set_cons_succ, set_cons_zero])
                iterate 2 (refine HoistK.yes (by rfl) (by kernel_rfl) ⟨?_, fun w' hSw => ?_, ?_⟩; rotate_left; (· have hc2 := hSw.1.cell 2; rw [HC2.out] at hc2; have h34 := hSw.2.1.cell 34; have h37 := hSw.2.1.cell 37; rw [getElem?_toArray, HC34.out] at h34; rw [getElem?_toArray, HC37.out] at h37; go_simp; try with_reducible rfl); simp only [Act.put, setIfInBounds_toArray, getElem_toArray, getElem_cons_succ, getElem_cons_zero, set_cons_succ, set_cons_zero])
                (refine HoistK.no (by rfl) (by kernel_rfl) ?_; simp only [Act.put, setIfInBounds_toArray, getElem_toArray, getElem_cons_succ, getElem_cons_zero, set_cons_succ, set_cons_zero])
                (refine HoistK.no (by rfl) (by kernel_rfl) ?_; simp only [Act.put, setIfInBounds_toArray, getElem_toArray, getElem_cons_succ, getElem_cons_zero, set_cons_succ, set_cons_zero])
                (refine HoistK.no (by rfl) (by kernel_rfl) ?_; simp only [Act.put, setIfInBounds_toArray, getElem_toArray, getElem_cons_succ, getElem_cons_zero, set_cons_succ, set_cons_zero])
                (refine HoistK.yes (by rfl) (by kernel_rfl) ⟨?_, fun w' hSw => ?_, ?_⟩; rotate_left; (· have hc2 := hSw.1.cell 2; rw [HC2.out] at hc2; have h34 := hSw.2.1.cell 34; have h37 := hSw.2.1.cell 37; rw [getElem?_toArray, HC34.out] at h34; rw [getElem?_toArray, HC37.out] at h37; go_simp; try with_reducible rfl); simp only [Act.put, setIfInBounds_toArray, getElem_toArray, getElem_cons_succ, getElem_cons_zero, set_cons_succ, set_cons_zero])
                refine HoistK.nil_ ?_
                simp only [opsAt, filterMap_cons, filterMap_nil, getElem?_toArray, getElem?_cons_succ, getElem?_cons_zero]
                refine EffS.cons_ fun _ hQ => ?_
                go_wp2_with fail
                have q34 := hS5.2.1.cell 34
                rw [getElem?_toArray, HC34.out] at q34
                refine hQ _ _ hS5 (EffS.nil_ fun _ hQ => ?_)
                go_wp2_with fail
                exact ⟨⟨j + 1 + 1, _, by omega, by push_cast; rfl, rfl, Lib.hid (HBB.out.out.trans (HB5.out.mono HBB.out.out.size))⟩, by simp only [intOf]; omega⟩
              · refine hQ _ _ hS5 (EffS.nil_ (SegV.mk (fun w' => Blk w' gS 34 ST.toArray ∧ Blk w' gL 71 C.toArray ∧ w'.rangeAt gL 0 (u8s lid) ∧ ∀ i, j + 1 = i + 1 → w'.rangeAt b (off + i * 38) (u8s (pid i))) (fun _ h => h) hS5 ?_))
                iterate 5 (refine HoistK.yes (by rfl) (by kernel_rfl) ⟨?_, fun w' hSw => ?_, ?_⟩; rotate_left; (· have hc2 := hSw.1.cell 2; rw [HC2.out] at hc2; have h34 := hSw.2.1.cell 34; have h37 := hSw.2.1.cell 37; rw [getElem?_toArray, HC34.out] at h34; rw [getElem?_toArray, HC37.out] at h37; go_simp; try with_reducible rfl); simp only [Act.put, setIfInBounds_toArray, getElem_toArray, getElem_cons_succ, getElem_cons_zero, set_cons_succ, set_cons_zero])
                (refine HoistK.no (by rfl) (by kernel_rfl) ?_; simp only [Act.put, setIfInBounds_toArray, getElem_toArray, getElem_cons_succ, getElem_cons_zero, set_cons_succ, set_cons_zero])
                (refine HoistK.no (by rfl) (by kernel_rfl) ?_; simp only [Act.put, setIfInBounds_toArray, getElem_toArray, getElem_cons_succ, getElem_cons_zero, set_cons_succ, set_cons_zero])
                (refine HoistK.no (by rfl) (by kernel_rfl) ?_; simp only [Act.put, setIfInBounds_toArray, getElem_toArray, getElem_cons_succ, getElem_cons_zero, set_cons_succ, set_cons_zero])
                (refine HoistK.no (by rfl) (by kernel_rfl) ?_; simp only [Act.put, setIfInBounds_toArray, getElem_toArray, getElem_cons_succ, getElem_cons_zero, set_cons_succ, set_cons_zero])
                iterate 11 (refine HoistK.yes (by rfl) (by kernel_rfl) ⟨?_, fun w' hSw => ?_, ?_⟩; rotate_left; (· have hc2 := hSw.1.cell 2; rw [HC2.out] at hc2; have h34 := hSw.2.1.cell 34; have h37 := hSw.2.1.cell 37; rw [getElem?_toArray, HC34.out] at h34; rw [getElem?_toArray, HC37.out] at h37; go_simp; try with_reducible rfl); simp only [Act.put, setIfInBounds_toArray, getElem_toArray, getElem_cons_succ, getElem_cons_zero, set_cons_succ, set_cons_zero])
                (refine HoistK.no (by rfl) (by kernel_rfl) ?_; simp only [Act.put, setIfInBounds_toArray, getElem_toArray, getElem_cons_succ, getElem_cons_zero, set_cons_succ, set_cons_zero])
                (refine HoistK.no (by rfl) (by kernel_rfl) ?_; simp only [Act.put, setIfInBounds_toArray, getElem_toArray, getElem_cons_succ, getElem_cons_zero, set_cons_succ, set_cons_zero])
                (refine HoistK.no (by rfl) (by kernel_rfl) ?_; simp only [Act.put, setIfInBounds_toArray, getElem_toArray, getElem_cons_succ, getElem_cons_zero, set_cons_succ, set_cons_zero])
                (refine HoistK.yes (by rfl) (by kernel_rfl) ⟨?_, fun w' hSw => ?_, ?_⟩; rotate_left; (· have hc2 := hSw.1.cell 2; rw [HC2.out] at hc2; have h34 := hSw.2.1.cell 34; have h37 := hSw.2.1.cell 37; rw [getElem?_toArray, HC34.out] at h34; rw [getElem?_toArray, HC37.out] at h37; go_simp; try with_reducible rfl); simp only [Act.put, setIfInBounds_toArray, getElem_toArray, getElem_cons_succ, getElem_cons_zero, set_cons_succ, set_cons_zero])
                refine HoistK.nil_ ?_
                simp only [opsAt, filterMap_cons, filterMap_nil, getElem?_toArray, getElem?_cons_succ, getElem?_cons_zero]
                refine EffS.cons_ fun _ hQ => ?_
                go_wp2_with fail
                have q34 := hS5.2.1.cell 34
                rw [getElem?_toArray, HC34.out] at q34
                refine hQ _ _ hS5 (EffS.nil_ fun _ hQ => ?_)
                go_wp2_with fail
                exact ⟨⟨j + 1 + 1, _, by omega, by push_cast; rfl, rfl, Lib.hid (HBB.out.out.trans (HB5.out.mono HBB.out.out.size))⟩, by simp only [intOf]; omega⟩
              · refine hQ _ _ hS5 (EffS.nil_ (SegV.mk (fun w' => Blk w' gS 34 ST.toArray ∧ Blk w' gL 71 C.toArray ∧ w'.rangeAt gL 0 (u8s lid) ∧ ∀ i, j + 1 = i + 1 → w'.rangeAt b (off + i * 38) (u8s (pid i))) (fun _ h => h) hS5 ?_))
                iterate 5 (refine HoistK.yes (by rfl) (by kernel_rfl) ⟨?_, fun w' hSw => ?_, ?_⟩; rotate_left; (· have hc2 := hSw.1.cell 2; rw [HC2.out] at hc2; have h34 := hSw.2.1.cell 34; have h37 := hSw.2.1.cell 37; rw [getElem?_toArray, HC34.out] at h34; rw [getElem?_toArray, HC37.out] at h37; go_simp; try with_reducible rfl); simp only [Act.put, setIfInBounds_toArray, getElem_toArray, getElem_cons_succ, getElem_cons_zero, set_cons_succ, set_cons_zero])
                (refine HoistK.no (by rfl) (by kernel_rfl) ?_; simp only [Act.put, setIfInBounds_toArray, getElem_toArray, getElem_cons_succ, getElem_cons_zero, set_cons_succ, set_cons_zero])
                (refine HoistK.no (by rfl) (by kernel_rfl) ?_; simp only [Act.put, setIfInBounds_toArray, getElem_toArray, getElem_cons_succ, getElem_cons_zero, set_cons_succ, set_cons_zero])
                (refine HoistK.no (by rfl) (by kernel_rfl) ?_; simp only [Act.put, setIfInBounds_toArray, getElem_toArray, getElem_cons_succ, getElem_cons_zero, set_cons_succ, set_cons_zero])
                (refine HoistK.no (by rfl) (by kernel_rfl) ?_; simp only [Act.put, setIfInBounds_toArray, getElem_toArray, getElem_cons_succ, getElem_cons_zero, set_cons_succ, set_cons_zero])
                iterate 15 (refine HoistK.yes (by rfl) (by kernel_rfl) ⟨?_, fun w' hSw => ?_, ?_⟩; rotate_left; (· have hc2 := hSw.1.cell 2; rw [HC2.out] at hc2; have h34 := hSw.2.1.cell 34; have h37 := hSw.2.1.cell 37; rw [getElem?_toArray, HC34.out] at h34; rw [getElem?_toArray, HC37.out] at h37; go_simp; try with_reducible rfl); simp only [Act.put, setIfInBounds_toArray, getElem_toArray, getElem_cons_succ, getElem_cons_zero, set_cons_succ, set_cons_zero])
                refine HoistK.nil_ ?_
                simp only [opsAt, filterMap_cons, filterMap_nil, getElem?_toArray, getElem?_cons_succ, getElem?_cons_zero]
                refine EffS.cons_ fun _ hQ => ?_
                go_wp2_with fail
                have q34 := hS5.2.1.cell 34
                rw [getElem?_toArray, HC34.out] at q34
                refine hQ _ _ hS5 (EffS.nil_ fun _ hQ => ?_)
                go_wp2_with fail
                exact ⟨⟨j + 1 + 1, _, by omega, by push_cast; rfl, rfl, Lib.hid (HBB.out.out.trans (HB5.out.mono HBB.out.out.size))⟩, by simp only [intOf]; omega⟩
              · have g1 : ¬ st = 1 := by simpa using h1
                have g2 : ¬ st = 2 := by simpa using h2
                have g3 : ¬ st = 3 := by simpa using h3
                have k2 : (st != 2) = true := by simpa using h2
                have k3 : (st != 3) = true := by simpa using h3
                refine hQ _ _ hS5 (EffS.nil_ (SegV.mk (fun w' => Blk w' gS 34 ST.toArray ∧ Blk w' gL 71 C.toArray ∧ w'.rangeAt gL 0 (u8s lid) ∧ ∀ i, j + 1 = i + 1 → w'.rangeAt b (off + i * 38) (u8s (pid i))) (fun _ h => h) hS5 ?_))
                iterate 5 (refine HoistK.yes (by rfl) (by kernel_rfl) ⟨?_, fun w' hSw => ?_, ?_⟩; rotate_left; (· have hc2 := hSw.1.cell 2; rw [HC2.out] at hc2; have h34 := hSw.2.1.cell 34; have h37 := hSw.2.1.cell 37; rw [getElem?_toArray, HC34.out] at h34; rw [getElem?_toArray, HC37.out] at h37; go_simp; try with_reducible rfl); simp only [Act.put, setIfInBounds_toArray, getElem_toArray, getElem_cons_succ, getElem_cons_zero, set_cons_succ, set_cons_zero])
                (refine HoistK.no (by rfl) (by kernel_rfl) ?_; simp only [Act.put, setIfInBounds_toArray, getElem_toArray, getElem_cons_succ, getElem_cons_zero, set_cons_succ, set_cons_zero])
                (refine HoistK.no (by rfl) (by kernel_rfl) ?_; simp only [Act.put, setIfInBounds_toArray, getElem_toArray, getElem_cons_succ, getElem_cons_zero, set_cons_succ, set_cons_zero])
                (refine HoistK.no (by rfl) (by kernel_rfl) ?_; simp only [Act.put, setIfInBounds_toArray, getElem_toArray, getElem_cons_succ, getElem_cons_zero, set_cons_succ, set_cons_zero])
                (refine HoistK.no (by rfl) (by kernel_rfl) ?_; simp only [Act.put, setIfInBounds_toArray, getElem_toArray, getElem_cons_succ, getElem_cons_zero, set_cons_succ, set_cons_zero])
                iterate 15 (refine HoistK.yes (by rfl) (by kernel_rfl) ⟨?_, fun w' hSw => ?_, ?_⟩; rotate_left; (· have hc2 := hSw.1.cell 2; rw [HC2.out] at hc2; have h34 := hSw.2.1.cell 34; have h37 := hSw.2.1.cell 37; rw [getElem?_toArray, HC34.out] at h34; rw [getElem?_toArray, HC37.out] at h37; go_simp; try with_reducible rfl); simp only [Act.put, setIfInBounds_toArray, getElem_toArray, getElem_cons_succ, getElem_cons_zero, set_cons_succ, set_cons_zero])
                refine HoistK.nil_ ?_
                simp only [opsAt, filterMap_cons, filterMap_nil, getElem?_toArray, getElem?_cons_succ, getElem?_cons_zero]
                refine EffS.cons_ fun _ hQ => ?_
                go_wp2_with fail
                have q34 := hS5.2.1.cell 34
                rw [getElem?_toArray, HC34.out] at q34
                refine hQ _ _ hS5 (EffS.nil_ fun _ hQ => ?_)
                go_wp2_with fail
                all_goals first | (go_ret; exact HFIN.out _ HB5.out) | exact ⟨⟨j + 1 + 1, _, by omega, by push_cast; rfl, rfl, Lib.hid (HBB.out.out.trans (HB5.out.mono HBB.out.out.size))⟩, by simp only [intOf]; omega⟩
        · have hk' : k = nL := by omega
          subst hk'
          have HB2 := Lib.hid (HB1.out.trans (hb.out.mono HB1.out.size))
          obtain ⟨w2, hw2⟩ : ∃ w2, w2 = wr := ⟨_, rfl⟩
          rw [← hw2] at hbk HB2 hc1 ⊢
          have HBK2 := Lib.hid hbk
          clear hw2 hb hbk HBK HB1 hk
          have hc3 := HBK2.out.cell 3
          rw [HT3.out] at hc3
          go_wp2_with fail
          clear hc1 hc3
          go_loopw [8] (fun i wr => ∃ j : Nat, (j = 0 ∨ j < nC) ∧ i = .int .i64 (j + 1 : Nat) ∧ Hid (Below w2.heap.size w2 wr)) (fun i _ => nC - (intOf i).toNat)
          case atStart => exact ⟨0, .inl rfl, rfl, Lib.hid (Below.refl _ _)⟩
          case round =>
            obtain ⟨j, hj, rfl, hb⟩ := hrel
            have hbk := HBK2.out.below hb.out HBK2.out.lt
            have hc1 := hbk.cell 3
            rw [HT3.out] at hc1
            have HFIN := Lib.hid (show ∀ (wx : World), Below wr.heap.size wr wx → (∃ r, Ending.returned (.bool false) = .returned (.bool r) ∧ (r = true → SortA (accX x))) ∧ Below w.heap.size w wx from fun wx hx => ⟨⟨false, rfl, by simp⟩, HB2.out.trans ((hb.out.trans (hx.mono hb.out.size)).mono HB2.out.size)⟩)
            by_cases hlt : j + 1 < nC
            · have hkl : j + 1 < (consX x).length := by have := EC.out; omega
              have HC2 := HT3
              obtain ⟨A', c', e, _, hat⟩ := list_at (Sh.rep_below (Sh.rep_below HC.out HB2.out) hb.out)
              injection e with e1 e2 e3
              subst e1; subst e3
              clear e2
              obtain ⟨b, off, C, rfl, hr, hrep, _⟩ := hat (j + 1) hkl
              obtain ⟨b', off', C', e, hr', hrep', _⟩ := hat j (by omega)
              injection e with e
              injection e with e1 e2 _
              subst e1; subst e2
              obtain ⟨lid, hlid⟩ : ∃ lid : List UInt8, lid = (consX x)[j + 1] := ⟨_, rfl⟩
              obtain ⟨pid, hpid⟩ : ∃ pid : List UInt8, pid = (consX x)[j]'(by omega) := ⟨_, rfl⟩
              obtain ⟨rfl, hq1⟩ := hrep
              obtain ⟨rfl, hq2⟩ := hrep'
              have hr1 : wr.rangeAt b (off + (j + 1) * 32) (u8s lid) := by rw [hlid]; exact hr
              have hr2 : wr.rangeAt b (off + j * 32) (u8s pid) := by rw [hpid]; exact hr'
              have hl1 : lid.length = 32 := by rw [hlid]; exact hq1
              have hl2 : pid.length = 32 := by rw [hpid]; exact hq2
              have HLI := Lib.hid (digS_size (C := u8s lid) (by rw [u8s_length]; exact hl1))
              have HPI := Lib.hid (digS_size (C := u8s pid) (by rw [u8s_length]; exact hl2))
              have HL1 := Lib.hid hl1
              have HL2 := Lib.hid hl2
              have hSS : Blk wr.drew gS 34 ST.toArray ∧ wr.drew.rangeAt b (off + (j + 1) * 32) (u8s lid) ∧ wr.drew.rangeAt b (off + j * 32) (u8s pid) := ⟨hbk.drew, hr1, hr2⟩
              have HBB := Lib.hid hb
              clear hat hr hr' hr1 hr2 hl1 hl2 hq1 hq2 hlid hpid hbk hb
              have hj1 : (j : Int) < (nC : Int) := by omega
              have hj2 : (j : Int) + 1 < (nC : Int) := by omega
              have hj3 : (0 : Int) ≤ (j : Int) + 1 := by omega
              have hj0 : (0 : Int) ≤ (j : Int) := by omega
              have hwj : IntKind.i64.wrap (j : Int) = (j : Int) := by simp [IntKind.wrap, IntKind.signed, IntKind.bits]; omega
              go_wp2_with fail
              refine wp_region_segsV [([0, 1, 2, 3, 4, 5, 6, 7, 8, 9, 10], [11]), ([], [12])] (by kernel_rfl) (by kernel_rfl) (by kernel_rfl) (by kernel_rfl)
                (SegV.mk (fun w' => Blk w' gS 34 ST.toArray ∧ w'.rangeAt b (off + (j + 1) * 32) (u8s lid) ∧ w'.rangeAt b (off + j * 32) (u8s pid)) (fun _ _ => trivial) hSS ?_)
              (refine HoistK.yes (by rfl) (by kernel_rfl) ⟨?_, fun w' hSw => ?_, ?_⟩; rotate_left; (· have hc2 := hSw.1.cell 3; rw [HC2.out] at hc2; go_simp; try with_reducible rfl); simp only [Act.put, setIfInBounds_toArray, getElem_toArray, getElem_cons_zero, set_cons_succ, set_cons_zero])
              iterate 3 (refine HoistK.yes (by rfl) (by kernel_rfl) ⟨?_, fun w' hSw => ?_, ?_⟩; rotate_left; (· have hc2 := hSw.1.cell 3; rw [HC2.out] at hc2; go_simp; try with_reducible rfl); simp only [Act.put, setIfInBounds_toArray, getElem_toArray, getElem_cons_succ, getElem_cons_zero, set_cons_succ, set_cons_zero])
              (refine HoistK.load (by rfl) (by kernel_rfl) 37 _ rfl b (off + (j + 1) * 32) rfl (u8s lid) _ (fun w' hw => hw.2.1) Tryz.underlying37 rfl HLI.out ?_; simp only [Act.put, setIfInBounds_toArray, getElem_toArray, getElem_cons_succ, getElem_cons_zero, set_cons_succ, set_cons_zero])
              iterate 5 (refine HoistK.yes (by rfl) (by kernel_rfl) ⟨?_, fun w' hSw => ?_, ?_⟩; rotate_left; (· have hc2 := hSw.1.cell 3; rw [HC2.out] at hc2; go_simp; try with_reducible rfl); simp only [Act.put, setIfInBounds_toArray, getElem_toArray, getElem_cons_succ, getElem_cons_zero, set_cons_succ, set_cons_zero])
              (refine HoistK.load (by rfl) (by kernel_rfl) 37 _ rfl b (off + j * 32) rfl (u8s pid) _ (fun w' hw => hw.2.2) Tryz.underlying37 rfl HPI.out ?_; simp only [Act.put, setIfInBounds_toArray, getElem_toArray, getElem_cons_succ, getElem_cons_zero, set_cons_succ, set_cons_zero])
              refine HoistK.nil_ ?_
              simp only [opsAt, filterMap_cons, filterMap_nil, getElem?_toArray, getElem?_cons_succ, getElem?_cons_zero]
              refine EffS.cons_ fun _ hQ => ?_
              go_wp2_with fail
              refine (above_any wr.drew lid pid HL1.out HL2.out).mono ?_
              rintro e w5 ⟨⟨r, rfl⟩, hb5⟩
              have HB5 := Lib.hid ((Below.refl wr.heap.size wr).drew.trans hb5)
              have hS5 : Blk w5 gS 34 ST.toArray ∧ w5.rangeAt b (off + (j + 1) * 32) (u8s lid) ∧ w5.rangeAt b (off + j * 32) (u8s pid) := ⟨hSS.1.below hb5 hSS.1.lt, range_low hSS.2.1 hb5, range_low hSS.2.2 hb5⟩
              clear hSS hb5
              go_wp2_with fail
              refine hQ _ _ hS5 (EffS.nil_ (SegV.mk (fun w' => Blk w' gS 34 ST.toArray ∧ w'.rangeAt b (off + (j + 1) * 32) (u8s lid) ∧ w'.rangeAt b (off + j * 32) (u8s pid)) (fun _ h => h) hS5 ?_))
              refine HoistK.nil_ ?_
              simp only [opsAt, filterMap_cons, filterMap_nil, getElem?_toArray, getElem?_cons_succ, getElem?_cons_zero]
              refine EffS.cons_ fun _ hQ => ?_
              go_wp2_with fail
              refine hQ _ _ hS5 (EffS.nil_ fun _ hQ => ?_)
              cases r
              · go_wp2_with fail
                go_ret
                exact HFIN.out _ HB5.out
              · go_wp2_with fail
                exact ⟨⟨j + 1, .inr hlt, by push_cast; rfl, Lib.hid (HBB.out.trans (HB5.out.mono HBB.out.size))⟩, by simp only [intOf]; omega⟩
            · have HB3 := Lib.hid (HB2.out.trans (hb.out.mono HB2.out.size))
              obtain ⟨w3, hw3⟩ : ∃ w3, w3 = wr := ⟨_, rfl⟩
              rw [← hw3] at hbk HB3 hc1 ⊢
              obtain ⟨kk, hkk⟩ : ∃ kk, kk = j + 1 := ⟨_, rfl⟩
              rw [← hkk] at hlt ⊢
              clear hkk hj
              have HBK3 := Lib.hid hbk
              clear hw3 hb hbk HBK2 HB2 HFIN
              have hc3 := HBK3.out.cell 4
              rw [HT4.out] at hc3
              go_wp2_with fail
              clear hc1 hc3
              go_loopw [9] (fun i wr => ∃ j : Nat, (j = 0 ∨ j < nR) ∧ i = .int .i64 (j + 1 : Nat) ∧ Hid (Below w3.heap.size w3 wr)) (fun i _ => nR - (intOf i).toNat)
              case atStart => exact ⟨0, .inl rfl, rfl, Lib.hid (Below.refl _ _)⟩
              case round =>
                obtain ⟨j, hj, rfl, hb⟩ := hrel
                have hbk := HBK3.out.below hb.out HBK3.out.lt
                have hc1 := hbk.cell 4
                rw [HT4.out] at hc1
                have HFIN := Lib.hid (show ∀ (wx : World), Below wr.heap.size wr wx → (∃ r, Ending.returned (.bool false) = .returned (.bool r) ∧ (r = true → SortA (accX x))) ∧ Below w.heap.size w wx from fun wx hx => ⟨⟨false, rfl, by simp⟩, HB3.out.trans ((hb.out.trans (hx.mono hb.out.size)).mono HB3.out.size)⟩)
                by_cases hlt : j + 1 < nR
                · have hkl : j + 1 < (recX x).length := by have := ER.out; omega
                  obtain ⟨A', c', e, _, hat⟩ := list_at (Sh.rep_below (Sh.rep_below HR.out HB3.out) hb.out)
                  injection e with e1 e2 e3
                  subst e1; subst e3
                  clear e2
                  obtain ⟨b, off, C, rfl, hr, hrep, _⟩ := hat (j + 1) hkl
                  obtain ⟨b', off', C', e, hr', hrep', _⟩ := hat j (by omega)
                  injection e with e
                  injection e with e1 e2 _
                  subst e1; subst e2
                  obtain ⟨v1, hv1⟩ : ∃ v : Int, wr.cell? ⟨b, off + (j + 1) * 3, none⟩ = some (.int .i64 v) := by obtain ⟨c0, _, rfl, ⟨rfl, _⟩, _⟩ := hrep; exact ⟨_, hr 0 _ rfl⟩
                  obtain ⟨v2, hv2⟩ : ∃ v : Int, wr.cell? ⟨b, off + j * 3, none⟩ = some (.int .i64 v) := by obtain ⟨c0, _, rfl, ⟨rfl, _⟩, _⟩ := hrep'; exact ⟨_, hr' 0 _ rfl⟩
                  have HBB := Lib.hid hb
                  clear hat hr hr' hrep hrep' hbk hb
                  by_cases hge : v1 ≤ v2
                  · have hd : decide (v1 ≤ v2) = true := decide_eq_true hge
                    go_wp2_with fail
                    go_quiet (fail)
                    go_wp2_with fail
                    go_ret
                    exact HFIN.out _ (below_drewN (Below.refl _ _) nq)
                  · have hd : decide (v1 ≤ v2) = false := decide_eq_false hge
                    clear hge
                    go_wp2_with fail
                    go_quiet (fail)
                    go_wp2_with fail
                    exact ⟨⟨j + 1, .inr hlt, by push_cast; rfl, Lib.hid (below_drewN HBB.out nq)⟩, by simp only [intOf]; omega⟩
                · have HB4 := Lib.hid (HB3.out.trans (hb.out.mono HB3.out.size))
                  obtain ⟨w4, hw4⟩ : ∃ w4, w4 = wr := ⟨_, rfl⟩
                  rw [← hw4] at hbk HB4 hc1 ⊢
                  obtain ⟨kk, hkk⟩ : ∃ kk, kk = j + 1 := ⟨_, rfl⟩
                  rw [← hkk] at hlt ⊢
                  clear hkk hj
                  have HBK4 := Lib.hid hbk
                  clear hw4 hb hbk HBK3 HB3 HFIN
                  have hc3 := HBK4.out.cell 5
                  rw [HT5.out] at hc3
                  go_wp2_with fail
                  clear hc1 hc3
                  go_loopw [10] (fun i wr => ∃ j : Nat, (j = 0 ∨ j < nM) ∧ i = .int .i64 (j + 1 : Nat) ∧ Hid (Below w4.heap.size w4 wr)) (fun i _ => nM - (intOf i).toNat)
                  case atStart => exact ⟨0, .inl rfl, rfl, Lib.hid (Below.refl _ _)⟩
                  case round =>
                    obtain ⟨j, hj, rfl, hb⟩ := hrel
                    have hbk := HBK4.out.below hb.out HBK4.out.lt
                    have hc1 := hbk.cell 5
                    rw [HT5.out] at hc1
                    have HFIN := Lib.hid (show ∀ (wx : World), Below wr.heap.size wr wx → (∃ r, Ending.returned (.bool false) = .returned (.bool r) ∧ (r = true → SortA (accX x))) ∧ Below w.heap.size w wx from fun wx hx => ⟨⟨false, rfl, by simp⟩, HB4.out.trans ((hb.out.trans (hx.mono hb.out.size)).mono HB4.out.size)⟩)
                    by_cases hlt : j + 1 < nM
                    · have hkl : j + 1 < (memX x).length := by have := EM.out; omega
                      obtain ⟨A', c', e, _, hat⟩ := list_at (Sh.rep_below (Sh.rep_below HM.out HB4.out) hb.out)
                      injection e with e1 e2 e3
                      subst e1; subst e3
                      clear e2
                      obtain ⟨b, off, C, rfl, hr, hrep, _⟩ := hat (j + 1) hkl
                      obtain ⟨b', off', C', e, hr', hrep', _⟩ := hat j (by omega)
                      injection e with e
                      injection e with e1 e2 _
                      subst e1; subst e2
                      obtain ⟨v1, hv1⟩ : ∃ v : Int, wr.cell? ⟨b, off + (j + 1) * 1, none⟩ = some (.int .i64 v) := by obtain ⟨rfl, _⟩ := hrep; exact ⟨_, hr 0 _ rfl⟩
                      obtain ⟨v2, hv2⟩ : ∃ v : Int, wr.cell? ⟨b, off + j * 1, none⟩ = some (.int .i64 v) := by obtain ⟨rfl, _⟩ := hrep'; exact ⟨_, hr' 0 _ rfl⟩
                      have HBB := Lib.hid hb
                      clear hat hr hr' hrep hrep' hbk hb
                      rw [Nat.mul_one] at hv1 hv2
                      by_cases hge : v1 ≤ v2
                      · have hd : decide (v1 ≤ v2) = true := decide_eq_true hge
                        go_wp2_with fail
                        go_quiet (fail)
                        go_wp2_with fail
                        go_ret
                        exact HFIN.out _ (below_drewN (Below.refl _ _) nq)
                      · have hd : decide (v1 ≤ v2) = false := decide_eq_false hge
                        clear hge
                        go_wp2_with fail
                        go_quiet (fail)
                        go_wp2_with fail
                        exact ⟨⟨j + 1, .inr hlt, by push_cast; rfl, Lib.hid (below_drewN HBB.out nq)⟩, by simp only [intOf]; omega⟩
                    · have HBE := Lib.hid (HB4.out.trans (hb.out.mono HB4.out.size))
                      clear hb
                      go_wp2_with fail
                      go_ret
                      exact ⟨⟨true, rfl, fun _ => HSO.out⟩, HBE.out⟩
end
section
open Go.RowKit Go.Maps
theorem sta_of {w : World} {S : Nat → Prop} {x : StE} {ss : List Value} (h : tState.rep w S x ss) (hl : (accX x).length ≤ 1099511627776) : StA w S (accX x) ss := by
  have h1 := Sh.rep_one _ _ _ h
  obtain ⟨c, vA, vL, vC, vR, vM, rfl, hA, _⟩ := st_parts h
  obtain ⟨A, cap, rfl, _, hat⟩ := list_at hA
  refine ⟨rfl, h1, hl, A, cap, rfl, ?_⟩
  obtain ⟨v', css, e, hcs, _⟩ := hA
  obtain rfl : Value.slice A (accX x).length cap = v' := by simpa using e
  obtain ⟨_, A', cap', e, hn, hc, hp⟩ := hcs
  injection e with e1 e2 e3
  subst e1; subst e3
  refine ⟨hn, hc, fun h0 => ?_⟩
  obtain ⟨b, off, rfl, hS, hlt, _⟩ := hp h0
  refine ⟨b, off, rfl, hS, hlt, fun k hk => ?_⟩
  obtain ⟨b', off', C, e, hr, hrep, _⟩ := hat k hk
  injection e with e
  injection e with e1 e2 _
  subst e1; subst e2
  rw [acc_cells hrep] at hr
  exact hr
theorem acc_len {x : StE} (h : (tState.enc x).length ≤ 1099511627776) : (accX x).length ≤ 1099511627776 := by
  obtain ⟨x0, x1, x2, x3, x4, x5, x6⟩ := x
  have h : (joinB (Fs.encs _ _)).length ≤ _ := h
  rw [joinB_length] at h
  have h1 := joinP_mem (l := Fs.encs (.cons i64 (.cons (.list tAccount) (.cons (.list tLock) (.cons (.list .dig) (.cons (.list tRecord) (.cons (.list i64) .nil)))))) (x0, x1, x2, x3, x4, x5, x6)) (x := (Sh.list tAccount).enc x1) (by simp [Fs.encs])
  have h2 : (joinB (x1.map tAccount.enc)).length + 8 ≤ _ := h1
  rw [joinB_length] at h2
  have h3 := joinP_count (List.map (Sh.enc tAccount) x1)
  rw [List.length_map] at h3
  show List.length x1 ≤ _
  omega
theorem tx_len {l : List TxE} (h : ((Sh.list tTx).enc l).length ≤ 1099511627776) : ∀ x ∈ l, (tTx.enc x).length ≤ 1099511627776 := fun x hx => by
  have h : (joinB (l.map tTx.enc)).length ≤ _ := h
  rw [joinB_length] at h
  have h1 := joinP_mem (List.mem_map.2 ⟨x, hx, rfl⟩ : tTx.enc x ∈ l.map tTx.enc)
  omega
def PoolB (w0 w : World) (g : Nat) (v : Value) (most : Nat) (X : List TxE) : Prop :=
  PoolX w g v most X ∧ Below w0.heap.size w0 w ∧ w0.heap.size ≤ g ∧ ∀ b, v.ownBlock = some b → w0.heap.size ≤ b
theorem PoolB.below {w0 w w' : World} {g most : Nat} {v : Value} {X : List TxE} (h : PoolB w0 w g v most X) (hb : Below w.heap.size w w') : PoolB w0 w' g v most X :=
  ⟨⟨h.1.1.below hb, h.1.2⟩, h.2.1.trans (hb.mono h.2.1.size), h.2.2⟩
theorem PoolB.to {w0 w w' : World} {g most : Nat} {v v' : Value} {X X' : List TxE} (h : PoolB w0 w g v most X) (hp : PoolX w' g v' most X') (hc : Chg (fun b => b = g ∨ v.ownBlock = some b) w w') (hv : v'.ownBlock = v.ownBlock ∨ ∃ k, v'.ownBlock = some k ∧ w.heap.size ≤ k) : PoolB w0 w' g v' most X' := by
  obtain ⟨h1, h2, h3, h4⟩ := h
  refine ⟨hp, h2.trans (hc.below h2.size ?_), h3, fun b hb => ?_⟩
  · rintro b (e | e)
    · rw [e]; exact h3
    · exact h4 b e
  · rcases hv with e | ⟨k, e, hk⟩
    · exact h4 b (e ▸ hb)
    · rw [e] at hb; injection hb with hb; subst hb
      have := h2.size; omega
theorem addB_any (w0 w : World) {S T : Nat → Prop} {l : List (Int × Int × Int × Unit)} {ss cs : List Value} {x : TxE} {g most : Nat} {v : Value} {X : List TxE} (hs : StA w S l ss) (h : tTx.rep w T x cs) (hp : PoolB w0 w g v most X) (hl : (tTx.enc x).length ≤ 1099511627776) :
    Calls Tryz.prog 13 #[.pointer (some ⟨g, 0, none⟩), .agg ss.toArray, .agg cs.toArray] w fun e w' => e = .returned (.int .i64 (addE l most (encsX X) x)) ∧ Below w0.heap.size w w' ∧ ∃ v', PoolB w0 w' g v' most (addX l most X x) := by
  refine (addX_any w hs h hp.1 hl).mono ?_
  rintro e w' ⟨rfl, v', hpx, hc, hv⟩
  refine ⟨rfl, hc.below hp.2.1.size ?_, v', hp.to hpx hc hv⟩
  rintro b (e | e)
  · rw [e]; exact hp.2.2.1
  · exact hp.2.2.2 b e
theorem newB_any (w : World) (most : Int) : Calls Tryz.prog 10 #[.int .i64 most] w fun e w' => e = .returned (.pointer (some ⟨w.heap.size, 0, none⟩)) ∧ PoolB w w' w.heap.size (.slice none 0 0) (min (max most 0) 32).toNat [] := by
  refine (poolNew_any w most).mono ?_
  rintro e w' ⟨rfl, hp, hb⟩
  exact ⟨rfl, ⟨hp, fun x hx => by cases hx⟩, hb, Nat.le_refl _, fun b hb => by simp [Value.ownBlock] at hb⟩
theorem blk_low {w0 w : World} {g : Nat} {t : TypeId} {cs : Array Value} (h : Blk w0 g t cs) (hb : Below w0.heap.size w0 w) : Blk w g t cs := h.below hb h.lt
theorem addX_len {l : List (Int × Int × Int × Unit)} {most : Nat} {X : List TxE} {x : TxE} : (addE l most (encsX X) x = 0 → (addX l most X x).length = X.length + 1) ∧ (addE l most (encsX X) x ≠ 0 → addX l most X x = X) := by
  unfold addX
  exact ⟨fun h => by rw [if_pos h, List.length_append]; rfl, fun h => if_neg h⟩
theorem addE_twice {l : List (Int × Int × Int × Unit)} {most : Nat} {X : List TxE} {x : TxE} : (addE l most (encsX X) x = 0 → addE l most (encsX (addX l most X x)) x = 31) ∧ (addE l most (encsX X) x ≠ 0 → addE l most (encsX (addX l most X x)) x = addE l most (encsX X) x) := by
  have h := addE_again (accts := l) (most := most) (L := encsX X) (x := x)
  rw [← addX_encs] at h
  exact ⟨fun h0 => by rw [if_pos h0] at h; exact h, fun h0 => by rw [if_neg h0] at h; exact h⟩
theorem addX_twice {l : List (Int × Int × Int × Unit)} {most : Nat} {X : List TxE} {x : TxE} : addX l most (addX l most X x) x = addX l most X x := by
  by_cases h : addE l most (encsX X) x = 0
  · exact addX_len.2 (by rw [addE_twice.1 h]; decide)
  · exact addX_len.2 (by rw [addE_twice.2 h]; exact h)
end
section
open Go.RowKit Go.Maps
theorem leBytes_get' : ∀ (k v i : Nat), i < k → (Lib.leBytes k v)[i]? = some ((v / 256 ^ i) % 256).toUInt8
  | 0, _, _, h => by omega
  | k + 1, v, 0, _ => by simp [Lib.leBytes]
  | k + 1, v, i + 1, h => by
    rw [Lib.leBytes, getElem?_cons_succ, leBytes_get' k (v / 256) i (by omega), Nat.div_div_eq_div_mul, Nat.pow_succ, Nat.mul_comm 256]
theorem be8_get (v i : Nat) (h : i < 8) : (be8 v)[i]? = some ((v / 2 ^ (56 - 8 * i)) % 256).toUInt8 := by
  rw [be8, Lib.beBytes, List.getElem?_reverse (by rw [Lib.leBytes_length]; omega), Lib.leBytes_length, leBytes_get' 8 v _ (by omega), show (256 : Nat) = 2 ^ 8 from rfl, ← Nat.pow_mul, show 8 * (8 - 1 - i) = 56 - 8 * i by omega]
theorem be8_byte (v i : Nat) (h : i < 8) : (((v / 2 ^ (56 - 8 * i)) % 256 : Nat) : Int) = (((be8 v)[i]'(by rw [be8_length]; exact h)).toNat : Int) := by
  have := be8_get v i h
  rw [List.getElem?_eq_getElem (by rw [be8_length]; exact h)] at this
  injection this with e
  rw [e, Nat.toUInt8, UInt8.toNat_ofNat']
  generalize v / 2 ^ (56 - 8 * i) = q
  congr 1
  omega
set_option maxHeartbeats 1000000 in
set_option maxRecDepth 100000 in
theorem rNum_any (w : World) (v : Nat) (_hv : v < 18446744073709551616) : Calls Tryz.prog 55 #[.int .u64 v] w fun e w' => ∃ v', e = .returned v' ∧ Fresh w w' v' (be8 v) := by
  have hby : ∀ k, k < 8 → ((v : Int) / 2 ^ (56 - 8 * k)) % 256 = (((be8 v).getD k 0).toNat : Int) := fun k hk => by
    have := be8_byte v k hk
    rw [List.getD_eq_getElem?_getD, List.getElem?_eq_getElem (by rw [be8_length]; exact hk), Option.getD_some, ← this]
    push_cast; rfl
  have hL : (be8 v).length = 8 := be8_length v
  obtain ⟨L, hLe⟩ : ∃ L, L = be8 v := ⟨_, rfl⟩
  rw [← hLe] at hby hL ⊢
  have HBY := Lib.hid hby
  have HL := Lib.hid hL
  clear hby hL hLe
  go_enter Tryz.func55, Tryz.ntmps55
  go_wp2_with fail
  go_loopw [3, 4] (fun o i wr => ∃ k : Nat, k ≤ 8 ∧ i = .int .i64 k ∧ Own wr 5 1 o k (u8s (L.take k)) ∧ (∀ b, o.ownBlock = some b → w.heap.size ≤ b) ∧ Below w.heap.size w wr) (fun _ i _ => 8 - (intOf i).toNat)
  case atStart =>
    have hal := (Below.refl w.heap.size w).alloc (Nat.le_refl _) (.cells #[] 5)
    exact ⟨0, by omega, rfl, Own.empty w 5 1, fun b hb => by simp [Value.ownBlock] at hb; omega, hal⟩
  case round =>
    obtain ⟨k, hk, rfl, ho, hob, hbl⟩ := hrel
    obtain ⟨Ao, co, rfl⟩ := ho.form
    have HO := Lib.hid ho
    have HOB := Lib.hid hob
    have HBL := Lib.hid hbl
    clear ho hob
    by_cases hlt : k < 8
    · have hbk := HBY.out k hlt
      obtain ⟨x, hx⟩ : ∃ x, x = L.getD k 0 := ⟨_, rfl⟩
      rw [← hx] at hbk
      have htk : L.take (k + 1) = L.take k ++ [x] := by
        rw [List.take_succ_eq_append_getElem (by rw [HL.out]; exact hlt), hx, List.getD_eq_getElem?_getD, List.getElem?_eq_getElem (by rw [HL.out]; exact hlt), Option.getD_some]
      have HTK := Lib.hid htk
      have hal := (Below.refl wr.heap.size wr).alloc (Nat.le_refl _) (.cells #[.int .u8 x.toNat] 5)
      have HAL := Lib.hid hal
      have HO2 := Lib.hid (show Own (wr.alloc (.cells #[.int .u8 x.toNat] 5)) 5 1 (.slice Ao k co) k (u8s (L.take k)) from own_keep HO.out fun b hb => hal.block b (own_lt HO.out hb))
      have HS2 := Lib.hid (Cs.of_new wr 5 (size := 1) 1 (cs := [.int .u8 x.toNat]) rfl (by simp only [maxLen]; decide))
      clear hx htk hal
      go_wp2_with (at_builtin; refine wpList_app _ rfl _ _ _ rfl Tryz.underlying77 info_u8 rfl (by decide) HO2.out rfl HS2.out rfl (by simp [Value.oneCell']) (by simp only [maxLen]; omega) (by omega) ?_; intro v6 w6 ho6 hc6 hnil6 hat6; clear hnil6; have HO6 := Lib.hid ho6; clear ho6; have HC6 := Lib.hid hc6; clear hc6; have HAT6 := Lib.hid hat6; clear hat6)
      have hsz := HBL.out.size
      have hsa := HAL.out.size
      refine ⟨⟨k + 1, by omega, by push_cast; rfl, by rw [HTK.out]; simpa [u8s] using HO6.out, fun b hb => ?_, (HBL.out.trans (HAL.out.mono hsz)).trans (HC6.out.below (by omega) fun b h => HOB.out b h)⟩, by simp only [intOf]; omega⟩
      rcases HAT6.out with h | h
      · exact HOB.out b (h ▸ hb)
      · rw [h] at hb; injection hb with hb; omega
    · have hk' : k = 8 := by omega
      subst hk'
      go_wp2_with fail
      go_ret
      have h1 := HO.out
      rw [show L.take 8 = L from List.take_of_length_le (by rw [HL.out]; omega)] at h1
      exact ⟨_, rfl, Fresh.of_own (by rw [HL.out]; exact h1) HBL.out HOB.out (by rw [HL.out]; omega)⟩
set_option maxHeartbeats 1000000 in
set_option maxRecDepth 100000 in
theorem rnumber_any (w : World) (v : Nat) (_hv : v < 18446744073709551616) : Calls Tryz.prog 66 #[.int .u64 v, .int .i64 8] w fun e w' => ∃ v', e = .returned v' ∧ Own w' 5 1 v' 8 (u8s (be8 v)) ∧ (∀ b, v'.ownBlock = some b → w.heap.size ≤ b) ∧ Below w.heap.size w w' := by
  have hby : ∀ k, k < 8 → ((v : Int) / 2 ^ (8 * (7 - k))) % 256 = (((be8 v).getD k 0).toNat : Int) := fun k hk => by
    rw [show 8 * (7 - k) = 56 - 8 * k by omega]
    have := be8_byte v k hk
    rw [List.getD_eq_getElem?_getD, List.getElem?_eq_getElem (by rw [be8_length]; exact hk), Option.getD_some, ← this]
    push_cast; rfl
  have hL : (be8 v).length = 8 := be8_length v
  obtain ⟨L, hLe⟩ : ∃ L, L = be8 v := ⟨_, rfl⟩
  rw [← hLe] at hby hL ⊢
  have HBY := Lib.hid hby
  have HL := Lib.hid hL
  clear hby hL hLe
  go_enter Tryz.func66, Tryz.ntmps66
  go_wp2_with fail
  go_loopw [5, 6] (fun o i wr => ∃ k : Nat, k ≤ 8 ∧ i = .int .i64 (7 - (k : Int)) ∧ Own wr 5 1 o k (u8s (L.take k)) ∧ (∀ b, o.ownBlock = some b → w.heap.size ≤ b) ∧ Below w.heap.size w wr) (fun _ i _ => (intOf i + 1).toNat)
  case atStart =>
    have hal := (Below.refl w.heap.size w).alloc (Nat.le_refl _) (.cells #[] 5)
    exact ⟨0, by omega, rfl, Own.empty w 5 1, fun b hb => by simp [Value.ownBlock] at hb; omega, hal⟩
  case round =>
    obtain ⟨k, hk, rfl, ho, hob, hbl⟩ := hrel
    obtain ⟨Ao, co, rfl⟩ := ho.form
    have HO := Lib.hid ho
    have HOB := Lib.hid hob
    have HBL := Lib.hid hbl
    clear ho hob
    by_cases hlt : k < 8
    · have hbk := HBY.out k hlt
      obtain ⟨x, hx⟩ : ∃ x, x = L.getD k 0 := ⟨_, rfl⟩
      rw [← hx] at hbk
      have htk : L.take (k + 1) = L.take k ++ [x] := by
        rw [List.take_succ_eq_append_getElem (by rw [HL.out]; exact hlt), hx, List.getD_eq_getElem?_getD, List.getElem?_eq_getElem (by rw [HL.out]; exact hlt), Option.getD_some]
      have HTK := Lib.hid htk
      have hal := (Below.refl wr.heap.size wr).alloc (Nat.le_refl _) (.cells #[.int .u8 x.toNat] 5)
      have HAL := Lib.hid hal
      have HO2 := Lib.hid (show Own (wr.alloc (.cells #[.int .u8 x.toNat] 5)) 5 1 (.slice Ao k co) k (u8s (L.take k)) from own_keep HO.out fun b hb => hal.block b (own_lt HO.out hb))
      have HS2 := Lib.hid (Cs.of_new wr 5 (size := 1) 1 (cs := [.int .u8 x.toNat]) rfl (by simp only [maxLen]; decide))
      clear hx htk hal
      go_wp2_with (at_builtin; refine wpList_app _ rfl _ _ _ rfl Tryz.underlying77 info_u8 rfl (by decide) HO2.out rfl HS2.out rfl (by simp [Value.oneCell']) (by simp only [maxLen]; omega) (by omega) ?_; intro v6 w6 ho6 hc6 hnil6 hat6; clear hnil6; have HO6 := Lib.hid ho6; clear ho6; have HC6 := Lib.hid hc6; clear hc6; have HAT6 := Lib.hid hat6; clear hat6)
      have hsz := HBL.out.size
      have hsa := HAL.out.size
      refine ⟨⟨k + 1, by omega, by congr 1; push_cast; omega, by rw [HTK.out]; simpa [u8s] using HO6.out, fun b hb => ?_, (HBL.out.trans (HAL.out.mono hsz)).trans (HC6.out.below (by omega) fun b h => HOB.out b h)⟩, by simp only [intOf]; omega⟩
      rcases HAT6.out with h | h
      · exact HOB.out b (h ▸ hb)
      · rw [h] at hb; injection hb with hb; omega
    · have hk' : k = 8 := by omega
      subst hk'
      go_wp2_with fail
      go_ret
      have h1 := HO.out
      rw [show L.take 8 = L from List.take_of_length_le (by rw [HL.out]; omega)] at h1
      exact ⟨_, rfl, h1, HOB.out, HBL.out⟩
end
section
open Go.RowKit Go.Maps
set_option maxHeartbeats 2000000 in
set_option maxRecDepth 100000 in
theorem rJoin_any (w : World) {S : Nat → Prop} {v : Value} {rows : List (List UInt8)} (h : Bsr w S v rows) (hl : (joinB rows).length ≤ 140737488355328) (hS : ∀ b, S b → b < w.heap.size) :
    Calls Tryz.prog 54 #[v] w fun e w' => ∃ v', e = .returned v' ∧ Fresh w w' v' (joinB rows) := by
  obtain ⟨A, cap, rfl⟩ := h.form
  have H := Lib.hid h; clear h
  have hc := joinP_count rows
  rw [joinB_length] at hl
  have HA := Lib.hid (rnumber_any w rows.length (by omega))
  have hw := u64_wrap_nat rows.length (by omega)
  go_enter Tryz.func54, Tryz.ntmps54
  go_wp2_with fail
  refine HA.out.mono ?_
  rintro e w1 ⟨v1, rfl, ho, hv, hb1⟩
  obtain ⟨B0, hB0⟩ : ∃ B0, B0 = be8 rows.length := ⟨_, rfl⟩
  have ho : Own w1 5 1 v1 (B0 ++ joinP (rows.take 0)).length (u8s (B0 ++ joinP (rows.take 0))) := by
    rw [List.take_zero, show joinP [] = [] from rfl, List.append_nil, hB0, be8_length]; exact ho
  have hB8 : B0.length = 8 := by rw [hB0, be8_length]
  have HB8 := Lib.hid hB8
  have HB0 := Lib.hid hB0
  clear hB8 hB0 hw HA
  go_wp2_with fail
  go_loopw [3, 4] (fun o i wr => ∃ k : Nat, k ≤ rows.length ∧ i = .int .i64 k ∧ Own wr 5 1 o (B0 ++ joinP (rows.take k)).length (u8s (B0 ++ joinP (rows.take k))) ∧ (∀ b, o.ownBlock = some b → w.heap.size ≤ b) ∧ Below w.heap.size w wr) (fun _ i _ => rows.length - (intOf i).toNat)
  case atStart => exact ⟨0, Nat.zero_le _, rfl, ho, hv, hb1⟩
  case round =>
    obtain ⟨k, hk, rfl, ho, hv, hbl⟩ := hrel
    by_cases hlt : k < rows.length
    · obtain ⟨ba, oa, ua, rfl, hca, hua, hblt, hSb⟩ := (H.out.below hbl).at_ hlt
      have hT := joinP_take_le rows k
      have hT1 := joinP_take_le rows (k + 1)
      have hts := joinP_take_succ rows k hlt
      obtain ⟨x, hx⟩ : ∃ x, x = rows[k] := ⟨_, rfl⟩
      rw [← hx] at hua hts
      have hlen : (joinP (rows.take (k + 1))).length = (joinP (rows.take k)).length + 8 + x.length := by rw [hts, List.length_append, List.length_append, be8_length]
      obtain ⟨J, hJ⟩ : ∃ J, J = joinP (rows.take k) := ⟨_, rfl⟩
      rw [← hJ] at ho hT hts hlen
      obtain ⟨J', hJ'⟩ : ∃ J', J' = joinP (rows.take (k + 1)) := ⟨_, rfl⟩
      rw [← hJ'] at hT1 hts hlen
      have hB8 := HB8.out
      have hx2 := hua.2
      obtain ⟨Ax, cx, rfl⟩ := hua.form
      have HNUM := Lib.hid (rnumber_any wr x.length (by omega))
      have HUA := Lib.hid hua
      have HV := Lib.hid hv
      have HTS := Lib.hid hts
      have hw := u64_wrap_nat x.length (by omega)
      obtain ⟨m, hm⟩ : ∃ m, m = (B0 ++ J).length := ⟨_, rfl⟩
      have hml : m + 8 + x.length ≤ 140737488355328 := by rw [hm, List.length_append]; omega
      have HML := Lib.hid hml
      have HM := Lib.hid hm
      rw [← hm] at ho
      obtain ⟨Ao, co, rfl⟩ := ho.form
      have HO := Lib.hid ho
      have HCA := Lib.hid hca
      clear hua hv hts hx hJ hlen hT hT1 hx2 hB8 ho hm
      go_wp2_with fail
      refine HNUM.out.mono ?_
      rintro e w2 ⟨v2, rfl, ho2, hv2, hb2⟩
      have HO2 := Lib.hid (show Own w2 5 1 (.slice Ao m co) m (u8s (B0 ++ J)) from own_keep HO.out fun b hb => hb2.block b (own_lt HO.out hb))
      have HS2 := Lib.hid (show Cs w2 (fun b => wr.heap.size ≤ b) 1 v2 8 (u8s (be8 x.length)) from Cs.of_own ho2 hv2)
      obtain ⟨A2, c2, rfl⟩ := ho2.form
      have HUA2 := Lib.hid (HUA.out.below hb2)
      have hca2 : w2.cell? ⟨ba, oa + k, none⟩ = some (.slice Ax x.length cx) := (World.cell?_of_block (a := ⟨ba, oa + k, none⟩) (hb2.block ba hblt)).trans hca
      have HCA2 := Lib.hid hca2
      clear hw ho2 hca2 hca
      have hsb := hbl.size
      have hs2 := hb2.size
      go_wp2_with (first
        | (at_builtin; refine wpList_app _ rfl _ _ _ rfl Tryz.underlying77 info_u8 rfl (by decide) HO2.out rfl HS2.out rfl (u8s_one _) (by have := HML.out; simp only [maxLen]; omega) (by have := HML.out; omega) ?_; intro v3 w3 ho3 hg3 hnil3 hat3; clear hnil3
           obtain ⟨A3, c3, rfl⟩ := ho3.form
           have HO3 := Lib.hid ho3; clear ho3; have HG3 := Lib.hid hg3; clear hg3; have HAT3 := Lib.hid hat3; clear hat3
           have hca3 : w3.cell? ⟨ba, oa + k, none⟩ = some (.slice Ax x.length cx) := (World.cell?_of_block (a := ⟨ba, oa + k, none⟩) (HG3.out.block ba (ltle hblt hs2) fun h => by have h1 := HV.out ba h; have h2 := hS ba hSb; omega)).trans HCA2.out
           have HUA3 := Lib.hid (HUA2.out.chg HG3.out fun b hb h => by have h1 := HV.out b h; have h2 := hS b hb; omega))
        | (at_builtin; refine wpList_app _ rfl _ _ _ rfl Tryz.underlying77 info_u8 rfl (by decide) HO3.out rfl HUA3.out.1 rfl (u8s_one _) (by have := HML.out; simp only [maxLen]; omega) (by have := HML.out; omega) ?_; intro v4 w4 ho4 hg4 hnil4 hat4; clear hnil4
           have HO4 := Lib.hid ho4; clear ho4; have HG4 := Lib.hid hg4; clear hg4; have HAT4 := Lib.hid hat4; clear hat4))
      have hv3 : ∀ b, (Value.slice A3 (m + 8) c3).ownBlock = some b → w.heap.size ≤ b := fun b hb => HAT3.out.elim (fun h => HV.out b (h ▸ hb)) fun h => by rw [h] at hb; injection hb with hb; omega
      have hs3 := HG3.out.size
      have hv4 : ∀ b, v4.ownBlock = some b → w.heap.size ≤ b := fun b hb => HAT4.out.elim (fun h => hv3 b (h ▸ hb)) fun h => by rw [h] at hb; injection hb with hb; omega
      have hbl3 : Below w.heap.size w w3 := (hbl.trans (hb2.mono hsb)).trans (HG3.out.below (by omega) fun b h => HV.out b h)
      refine ⟨⟨k + 1, by omega, by push_cast; rfl, ?_, hv4, hbl3.trans (HG4.out.below hbl3.size fun b h => hv3 b h)⟩, by simp only [intOf]; omega⟩
      have h1 := HO4.out
      have h2 : u8s (B0 ++ J) ++ u8s (be8 x.length) ++ u8s x = u8s (B0 ++ J') := by rw [HTS.out]; simp [u8s]
      have h3 : m + 8 + x.length = (B0 ++ J').length := by rw [HTS.out, HM.out]; simp [be8_length]; omega
      rw [h2, h3] at h1
      exact hJ' ▸ h1
    · have hk' : k = rows.length := by omega
      subst hk'
      rw [List.take_length] at ho
      have HO := Lib.hid ho
      have HV := Lib.hid hv
      clear ho hv
      go_wp2_with fail
      go_ret
      have h1 := HO.out
      have h2 : B0 ++ joinP rows = joinB rows := by rw [HB0.out]; rfl
      rw [h2] at h1
      exact ⟨_, rfl, Fresh.of_own h1 hbl HV.out (by rw [joinB_length]; omega)⟩
end
section
open Go.RowKit Go.Maps
theorem Bs.of_range {w : World} {S : Nat → Prop} {b off : Nat} {x : List UInt8} (hS : S b) (hlt : b < w.heap.size) (h : w.rangeAt b off (u8s x)) (hl : x.length ≤ 1000) : Bs w S (.slice (some ⟨b, off, none⟩) x.length x.length) x :=
  ⟨⟨by simp [u8s], _, _, rfl, Nat.le_refl _, by simp only [maxLen]; omega, fun _ => ⟨b, off, rfl, hS, hlt, fun j u hj => h j u hj⟩⟩, by omega⟩
theorem Bs.of_range32 {w : World} {S : Nat → Prop} {b off : Nat} {x : List UInt8} (hS : S b) (hlt : b < w.heap.size) (h : w.rangeAt b off (u8s x)) (hl : x.length = 32) : Bs w S (.slice (some ⟨b, off, none⟩) 32 32) x := by
  have := Bs.of_range hS hlt h (by omega)
  rwa [hl] at this
theorem Bss.empty (w : World) (S T : Nat → Prop) (hS : S w.heap.size) : Bss (w.alloc (.cells #[] 77)) S T (.slice (some ⟨w.heap.size, 0, none⟩) 0 0) [] :=
  ⟨[], Own.empty w 77 1, fun k h => by simp [Value.ownBlock] at h; exact h ▸ hS, fun i x u h => by simp at h⟩
theorem Bss.empty1 (w : World) (o : Obj) : Bss ((w.alloc o).alloc (.cells #[] 77)) (fun b => w.heap.size + 1 ≤ b) (fun b => w.heap.size + 1 ≤ b) (.slice (some ⟨w.heap.size + 1, 0, none⟩) 0 0) [] := by
  have := Bss.empty (w.alloc o) (fun b => w.heap.size + 1 ≤ b) (fun b => w.heap.size + 1 ≤ b) (by simp)
  rwa [show (w.alloc o).heap.size = w.heap.size + 1 by simp] at this
theorem Bsr.drew_ {w : World} {S : Nat → Prop} {v : Value} {rows : List (List UInt8)} (h : Bsr w S v rows) : Bsr w.drew S v rows := by
  obtain ⟨vs, h1, h2⟩ := h
  exact ⟨vs, h1, h2⟩
theorem rNumI_any (w : World) (n : Int) : Calls Tryz.prog 55 #[.int .u64 (IntKind.u64.wrap n)] w fun e w' => ∃ v', e = .returned v' ∧ Fresh w w' v' (numB n) := by
  have := rNum_any w (n % 18446744073709551616).toNat (by omega)
  rw [show (((n % 18446744073709551616).toNat : Nat) : Int) = IntKind.u64.wrap n from by rw [show IntKind.u64 = nk false from rfl, wrap_u]; omega] at this
  exact this
theorem rNumU_any (w : World) (n : Int) (hn : (nk false).wrap n = n) : Calls Tryz.prog 55 #[.int .u64 n] w fun e w' => ∃ v', e = .returned v' ∧ Fresh w w' v' (numB n) := by
  have := rNumI_any w n
  rw [show IntKind.u64 = nk false from rfl, hn] at this
  exact this
end
section
open Go.RowKit Go.Maps
attribute [-simp] Tryz.isAgg37 Tryz.typeInfo37
set_option maxHeartbeats 8000000 in
set_option maxRecDepth 100000 in
theorem rHeader_any (w : World) {S : Nat → Prop} {x : tHeader.El} {cs : List Value} (h : tHeader.rep w S x cs) (hl : (tHeader.enc x).length ≤ 1099511627776) :
    Calls Tryz.prog 73 #[.agg cs.toArray] w fun e w' => ∃ v', e = .returned v' ∧ Fresh w w' v' (tHeader.enc x) := by
  obtain ⟨x0, x1, x2, x3, x4, x5, x6, x7, _⟩ := x
  obtain ⟨c0, _, rfl, ⟨rfl, _⟩, c1, _, rfl, ⟨rfl, _⟩, c2, _, rfl, ⟨rfl, _⟩, c3, _, rfl, ⟨rfl, _⟩, c4, _, rfl, ⟨rfl, l4⟩, c5, _, rfl, ⟨rfl, l5⟩, c6, _, rfl, ⟨rfl, l6⟩, c7, _, rfl, ⟨rfl, _⟩, rfl⟩ := h
  simp only [nk_t]
  obtain ⟨C, hC⟩ : ∃ C, C = [Value.int .i64 x0] ++ ([Value.int .i64 x1] ++ ([Value.int .i64 x2] ++ ([Value.int .i64 x3] ++ (u8s x4 ++ (u8s x5 ++ (u8s x6 ++ ([Value.int .i64 x7] ++ ([])))))))) := ⟨_, rfl⟩
  rw [← hC]
  have hf : ∀ w', Blk w' w.heap.size 125 C.toArray → w'.cell? ⟨w.heap.size, 0, none⟩ = some (.int .i64 x0) ∧ w'.cell? ⟨w.heap.size, 1, none⟩ = some (.int .i64 x1) ∧ w'.cell? ⟨w.heap.size, 2, none⟩ = some (.int .i64 x2) ∧ w'.cell? ⟨w.heap.size, 3, none⟩ = some (.int .i64 x3) ∧ w'.rangeAt w.heap.size 4 (u8s x4) ∧ w'.rangeAt w.heap.size 36 (u8s x5) ∧ w'.rangeAt w.heap.size 68 (u8s x6) ∧ w'.cell? ⟨w.heap.size, 100, none⟩ = some (.int .i64 x7) := fun w' hb => by
    have := hb.lies [[Value.int .i64 x0], [Value.int .i64 x1], [Value.int .i64 x2], [Value.int .i64 x3], u8s x4, u8s x5, u8s x6, [Value.int .i64 x7]] [] (by rw [hC]; simp)
    simp only [Lies, u8s_length, l4, l5, l6, List.length_cons, List.length_nil] at this
    obtain ⟨s0, s1, s2, s3, s4, s5, s6, s7, _⟩ := this
    exact ⟨Lies.one s0, Lies.one s1, Lies.one s2, Lies.one s3, s4, s5, s6, Lies.one s7⟩
  have HF := Lib.hid hf
  clear hf hC
  have L4 := Lib.hid l4; clear l4
  have L5 := Lib.hid l5; clear l5
  have L6 := Lib.hid l6; clear l6
  have hl' : (joinB [numB x0, numB x1, numB x2, numB x3, x4, x5, x6, numB x7]).length ≤ 1099511627776 := hl
  have HLL := Lib.hid hl'
  clear hl hl'
  go_enter Tryz.func73, Tryz.ntmps73
  go_wp2_with fail
  have hsz := (Blk.new w 125 C.toArray).lt
  have hb0 : Blk (w.alloc (.cells C.toArray 125)).drew w.heap.size 125 C.toArray := (Blk.new w 125 C.toArray).drew
  have hbw : Below w.heap.size w (w.alloc (.cells C.toArray 125)).drew := ((Below.refl w.heap.size w).alloc (Nat.le_refl _) _).drew
  have D4 := Lib.hid (Bs.of_range32 (S := fun b => b = w.heap.size) rfl hb0.lt ((HF.out _ hb0).2.2.2.2.1) L4.out)
  have D5 := Lib.hid (Bs.of_range32 (S := fun b => b = w.heap.size) rfl hb0.lt ((HF.out _ hb0).2.2.2.2.2.1) L5.out)
  have D6 := Lib.hid (Bs.of_range32 (S := fun b => b = w.heap.size) rfl hb0.lt ((HF.out _ hb0).2.2.2.2.2.2.1) L6.out)
  refine wp_region_hoist [0, 1, 2, 4, 5, 6, 8, 9, 10, 12, 13, 14, 16, 17, 18, 19, 20, 21, 22, 23, 24] [3, 7, 11, 15, 25] [26, 27, 28] (fun w' => Blk w' w.heap.size 125 C.toArray)
    (by kernel_rfl) (by kernel_rfl) (by kernel_rfl) (by kernel_rfl) (by kernel_rfl) (by kernel_rfl) hb0 ?_
  (refine HoistK.yes (by rfl) (by kernel_rfl) ⟨?_, fun w' hSw => ?_, ?_⟩; rotate_left; (· go_simp; try with_reducible rfl); simp only [Act.put, setIfInBounds_toArray, getElem_toArray, getElem_cons_zero, set_cons_succ, set_cons_zero])
  (refine HoistK.yes (by rfl) (by kernel_rfl) ⟨?_, fun w' hSw => ?_, ?_⟩; rotate_left; (· obtain ⟨s0, s1, s2, s3, s4, s5, s6, s7⟩ := HF.out _ hSw; go_simp; try with_reducible rfl); simp only [Act.put, setIfInBounds_toArray, getElem_toArray, getElem_cons_succ, getElem_cons_zero, set_cons_succ, set_cons_zero])
  iterate 2 (refine HoistK.yes (by rfl) (by kernel_rfl) ⟨?_, fun w' hSw => ?_, ?_⟩; rotate_left; (· go_simp; try with_reducible rfl); simp only [Act.put, setIfInBounds_toArray, getElem_toArray, getElem_cons_succ, getElem_cons_zero, set_cons_succ, set_cons_zero])
  (refine HoistK.yes (by rfl) (by kernel_rfl) ⟨?_, fun w' hSw => ?_, ?_⟩; rotate_left; (· obtain ⟨s0, s1, s2, s3, s4, s5, s6, s7⟩ := HF.out _ hSw; go_simp; try with_reducible rfl); simp only [Act.put, setIfInBounds_toArray, getElem_toArray, getElem_cons_succ, getElem_cons_zero, set_cons_succ, set_cons_zero])
  iterate 2 (refine HoistK.yes (by rfl) (by kernel_rfl) ⟨?_, fun w' hSw => ?_, ?_⟩; rotate_left; (· go_simp; try with_reducible rfl); simp only [Act.put, setIfInBounds_toArray, getElem_toArray, getElem_cons_succ, getElem_cons_zero, set_cons_succ, set_cons_zero])
  (refine HoistK.yes (by rfl) (by kernel_rfl) ⟨?_, fun w' hSw => ?_, ?_⟩; rotate_left; (· obtain ⟨s0, s1, s2, s3, s4, s5, s6, s7⟩ := HF.out _ hSw; go_simp; try with_reducible rfl); simp only [Act.put, setIfInBounds_toArray, getElem_toArray, getElem_cons_succ, getElem_cons_zero, set_cons_succ, set_cons_zero])
  iterate 2 (refine HoistK.yes (by rfl) (by kernel_rfl) ⟨?_, fun w' hSw => ?_, ?_⟩; rotate_left; (· go_simp; try with_reducible rfl); simp only [Act.put, setIfInBounds_toArray, getElem_toArray, getElem_cons_succ, getElem_cons_zero, set_cons_succ, set_cons_zero])
  (refine HoistK.yes (by rfl) (by kernel_rfl) ⟨?_, fun w' hSw => ?_, ?_⟩; rotate_left; (· obtain ⟨s0, s1, s2, s3, s4, s5, s6, s7⟩ := HF.out _ hSw; go_simp; try with_reducible rfl); simp only [Act.put, setIfInBounds_toArray, getElem_toArray, getElem_cons_succ, getElem_cons_zero, set_cons_succ, set_cons_zero])
  iterate 8 (refine HoistK.yes (by rfl) (by kernel_rfl) ⟨?_, fun w' hSw => ?_, ?_⟩; rotate_left; (· go_simp; try with_reducible rfl); simp only [Act.put, setIfInBounds_toArray, getElem_toArray, getElem_cons_succ, getElem_cons_zero, set_cons_succ, set_cons_zero])
  (refine HoistK.yes (by rfl) (by kernel_rfl) ⟨?_, fun w' hSw => ?_, ?_⟩; rotate_left; (· obtain ⟨s0, s1, s2, s3, s4, s5, s6, s7⟩ := HF.out _ hSw; go_simp; try with_reducible rfl); simp only [Act.put, setIfInBounds_toArray, getElem_toArray, getElem_cons_succ, getElem_cons_zero, set_cons_succ, set_cons_zero])
  (refine HoistK.yes (by rfl) (by kernel_rfl) ⟨?_, fun w' hSw => ?_, ?_⟩; rotate_left; (· go_simp; try with_reducible rfl); simp only [Act.put, setIfInBounds_toArray, getElem_toArray, getElem_cons_succ, getElem_cons_zero, set_cons_succ, set_cons_zero])
  refine HoistK.nil_ ?_
  simp only [opsAt, filterMap_cons, filterMap_nil, getElem?_toArray, getElem?_cons_succ, getElem?_cons_zero]
  have g0 : Got (w.alloc (.cells C.toArray 125)).drew (w.alloc (.cells C.toArray 125)).drew [] [] := Got.start (Below.refl _ _)
  refine Effects.cons_ fun _ hQ1 => ?_
  go_wp2_with fail
  refine (rNumI_any _ _).mono ?_
  rintro e u1 ⟨v1, rfl, f1⟩
  have g1 := g0.step f1
  have hb1 := hb0.below f1.2 hb0.lt
  clear f1
  go_wp2_with fail
  refine hQ1 _ _ hb1 (Effects.cons_ fun _ hQ2 => ?_)
  clear hQ1 hb0 g0
  go_wp2_with fail
  refine (rNumI_any _ _).mono ?_
  rintro e u2 ⟨v2, rfl, f2⟩
  have g2 := g1.step f2
  have hb2 := hb1.below f2.2 hb1.lt
  clear f2
  go_wp2_with fail
  refine hQ2 _ _ hb2 (Effects.cons_ fun _ hQ3 => ?_)
  clear hQ2 hb1 g1
  go_wp2_with fail
  refine (rNumI_any _ _).mono ?_
  rintro e u3 ⟨v3, rfl, f3⟩
  have g3 := g2.step f3
  have hb3 := hb2.below f3.2 hb2.lt
  clear f3
  go_wp2_with fail
  refine hQ3 _ _ hb3 (Effects.cons_ fun _ hQ4 => ?_)
  clear hQ3 hb2 g2
  go_wp2_with fail
  refine (rNumI_any _ _).mono ?_
  rintro e u4 ⟨v4, rfl, f4⟩
  have g4 := g3.step f4
  have hb4 := hb3.below f4.2 hb3.lt
  clear f4
  go_wp2_with fail
  refine hQ4 _ _ hb4 (Effects.cons_ fun _ hQ5 => ?_)
  clear hQ4 hb3 g3
  have g5 := g4.old D4.out
  clear g4
  have g6 := g5.old D5.out
  clear g5
  have g7 := g6.old D6.out
  clear g6
  go_wp2_with fail
  refine (rNumI_any _ _).mono ?_
  rintro e u5 ⟨v8, rfl, f5⟩
  have g8 := g7.step f5
  have hb5 := hb4.below f5.2 hb4.lt
  clear f5
  go_wp2_with fail
  refine hQ5 _ _ hb5 (Effects.nil_ fun _ hQ6 => ?_)
  clear hQ5 hb4 g7
  have hcs : ∀ v ∈ [v1, v2, v3, v4, (.slice (some ⟨w.heap.size, 4, none⟩) 32 32), (.slice (some ⟨w.heap.size, 36, none⟩) 32 32), (.slice (some ⟨w.heap.size, 68, none⟩) 32 32), v8], v.cells = #[v] := fun v hv => by
    obtain ⟨i, hi, rfl⟩ := List.getElem_of_mem hv
    obtain ⟨y, _, hr⟩ := g8.2.get i hi
    obtain ⟨A, c, e⟩ := hr.form
    have e' : [v1, v2, v3, v4, (.slice (some ⟨w.heap.size, 4, none⟩) 32 32), (.slice (some ⟨w.heap.size, 36, none⟩) 32 32), (.slice (some ⟨w.heap.size, 68, none⟩) 32 32), v8][i] = .slice A y.length c := e
    rw [e']; rfl
  refine wpList_rows rfl 8 _ rfl [v1, v2, v3, v4, (.slice (some ⟨w.heap.size, 4, none⟩) 32 32), (.slice (some ⟨w.heap.size, 36, none⟩) 32 32), (.slice (some ⟨w.heap.size, 68, none⟩) 32 32), v8] rfl (by decide) (by decide) hcs (by simp [Act.eval]) ?_
  have hr : Bsr (u5.alloc (.cells [v1, v2, v3, v4, (.slice (some ⟨w.heap.size, 4, none⟩) 32 32), (.slice (some ⟨w.heap.size, 36, none⟩) 32 32), (.slice (some ⟨w.heap.size, 68, none⟩) 32 32), v8].toArray 77)) (fun b => b < u5.heap.size + 1) (.slice (some ⟨u5.heap.size, 0, none⟩) 8 8) [numB x0, numB x1, numB x2, numB x3, x4, x5, x6, numB x7] := g8.row (by simp [maxLen]) 77
  have hj := rJoin_any _ hr (by have := HLL.out; omega) (fun b hb => by simpa using hb)
  have hbb : Below w.heap.size w (u5.alloc (.cells [v1, v2, v3, v4, (.slice (some ⟨w.heap.size, 4, none⟩) 32 32), (.slice (some ⟨w.heap.size, 36, none⟩) 32 32), (.slice (some ⟨w.heap.size, 68, none⟩) 32 32), v8].toArray 77)) := (hbw.trans (g8.1.mono hbw.size)).alloc (hbw.trans (g8.1.mono hbw.size)).size _
  have HJ := Lib.hid hj
  have HBB := Lib.hid hbb
  clear hj hbb hr g8 hcs
  go_wp2_with fail
  refine HJ.out.mono ?_
  rintro e uz ⟨vz, rfl, fz⟩
  go_wp2_with fail
  go_ret
  exact ⟨vz, rfl, fz.1.sub fun b hb _ => ⟨Nat.le_trans HBB.out.size hb.1, hb.2⟩, HBB.out.trans (fz.2.mono HBB.out.size)⟩
end
end Go.Proofs.YtkclkmjlodomkaaGreatDoor
