/- Texts joined: PnB. -/
import Derived.Test.YtkclkmjlodomkaaGreatDoorMg
namespace Go.Proofs.YtkclkmjlodomkaaGreatDoor
open List (setIfInBounds_toArray getElem_toArray getElem_cons_succ getElem_cons_zero set_cons_succ set_cons_zero filterMap_cons filterMap_nil getElem?_toArray getElem?_cons_succ getElem?_cons_zero)
section
open Go.RowKit Go.Maps
attribute [-simp] Tryz.isAgg34 Tryz.typeInfo34 Tryz.isAgg40 Tryz.typeInfo40 Tryz.isAgg37 Tryz.typeInfo37 Tryz.isAgg57 Tryz.typeInfo57
set_option maxHeartbeats 16000000 in
set_option maxRecDepth 100000 in
theorem lawWhole_any (w : World) {S T : Nat → Prop} {sent : Value} {x : StE} {ss : List Value} {y : Value} {l : List TxE} (hx : tState.rep w S x ss) (hxl : (tState.enc x).length ≤ 1099511627776) (hy : (Sh.list tTx).rep w T l [y]) (hyl : ((Sh.list tTx).enc l).length ≤ 1099511627776) (hk : Pk w sent) :
    Calls Tryz.prog 5 #[.agg ss.toArray, y] w fun e w' => e = .returned (.bool true) ∧ Below w.heap.size w w' := by
  have hal := (Below.refl w.heap.size w).alloc (Nat.le_refl _) (.cells ss.toArray 34)
  have hbx := Blk.new w 34 ss.toArray
  have hsta := sta_of hx (acc_len hxl)
  have hbr := base_range hx
  obtain ⟨la, hla⟩ : ∃ la, la = accX x := ⟨_, rfl⟩
  rw [← hla] at hsta hbr
  have HST := Lib.hid (st_of hsta)
  have HSA := Lib.hid hsta
  have HX := Lib.hid hx
  have HY := Lib.hid hy
  have HTL := Lib.hid (tx_len hyl)
  have HK := Lib.hid hk
  have HAL := Lib.hid hal
  have HBX := Lib.hid hbx
  have HBR := Lib.hid hbr
  clear hal hbx hx hy hyl hk hxl hla hsta hbr
  go_enter Tryz.func5, Tryz.ntmps5
  go_wp2_with fail
  refine (awakeP_any _ (HK.out.below HAL.out)).mono ?_
  rintro e w1 ⟨rfl, hb1⟩
  have HB1 := Lib.hid (HAL.out.trans (hb1.mono HAL.out.size))
  have HX1 := Lib.hid (blk_low HBX.out hb1)
  clear hb1 HAL HBX
  go_wp2_with (refine wpList_load_blk' rfl 34 _ rfl HX1.out rfl Tryz.underlying34 rfl HST.out ?_)
  refine (may_any w1 (Sh.rep_below HX.out HB1.out)).mono ?_
  rintro e w2 ⟨⟨r, rfl, -⟩, hb2⟩
  have HB2 := Lib.hid (HB1.out.trans (hb2.mono HB1.out.size))
  have HX2 := Lib.hid (blk_low HX1.out hb2)
  clear hb2 HX1 HB1 HX
  cases r
  · go_wp2_with fail
    go_ret
    exact ⟨rfl, HB2.out⟩
  go_wp2_with (refine wpList_load_blk' rfl 34 _ rfl HX2.out rfl Tryz.underlying34 rfl HST.out ?_)
  refine (fill_any w2 (HSA.out.below HB2.out) (Sh.rep_below HY.out HB2.out) HTL.out).mono ?_
  rintro e w3 ⟨gP, vP, rfl, hp3⟩
  obtain ⟨mm, hmm⟩ : ∃ mm, mm = (min (max (32 : Int) 0) 32).toNat := ⟨_, rfl⟩
  rw [← hmm] at hp3
  have hnd := fill_nodup la mm l
  obtain ⟨X, hX⟩ : ∃ X, X = fillX la mm l := ⟨_, rfl⟩
  rw [← hX] at hp3 hnd
  have hx32 : X.length ≤ 32 := by have h1 := hp3.1.1.1; have h2 := hp3.1.1.2.1; rw [List.length_map] at h2; omega
  have HXW := Lib.hid (show wellX X from hp3.1.2)
  have HND := Lib.hid hnd
  have HX32 := Lib.hid hx32
  have HP3 := Lib.hid hp3
  have HX3 := Lib.hid (blk_low HX2.out hp3.2.1)
  have HB3 := Lib.hid (HB2.out.trans (hp3.2.1.mono HB2.out.size))
  clear hp3 hmm hX hnd hx32 HX2 HB2 HTL HY
  go_wp2_with (refine wpList_load_blk' rfl 34 _ rfl HX3.out rfl Tryz.underlying34 rfl HST.out ?_)
  refine (poolNext_any w3 HP3.out.1 (HK.out.below HB3.out) (HSA.out.below HB3.out) (8)).mono ?_
  rintro e w4 ⟨vO, rfl, htx, hb⟩
  have HLO := Lib.hid htx.2.list
  have HP4 := Lib.hid (HP3.out.below hb)
  have HX4 := Lib.hid (HX3.out.below hb HX3.out.lt)
  have HB4 := Lib.hid (HB3.out.trans (hb.mono HB3.out.size))
  clear htx hb HX3 HB3 HP3
  go_wp2_with fail
  refine (poolAll_any w4 HP4.out.1 (HK.out.below HB4.out)).mono ?_
  rintro e w5 ⟨vA, rfl, htx, hb⟩
  have HLA := Lib.hid htx.2.list
  have HP5 := Lib.hid (HP4.out.below hb)
  have HX5 := Lib.hid (HX4.out.below hb HX4.out.lt)
  have HB5 := Lib.hid (HB4.out.trans (hb.mono HB4.out.size))
  have HLO := Lib.hid (Sh.rep_below HLO.out hb)
  clear htx hb HX4 HB4 HP4
  obtain ⟨OUT, hO⟩ : ∃ OUT, OUT = nextX la (min (8 : Int) 8).toNat X := ⟨_, rfl⟩
  rw [← hO] at HLO
  have hle := next_len la (min (8 : Int) 8).toNat X
  rw [← hO] at hle
  have HOUT := Lib.hid hO
  obtain ⟨AO, cO, rfl, -, -⟩ := list_at HLO.out
  obtain ⟨AX, cX, rfl, -, -⟩ := list_at HLA.out
  obtain ⟨nO, hnO⟩ : ∃ n, n = OUT.length := ⟨_, rfl⟩
  obtain ⟨nX, hnX⟩ : ∃ n, n = X.length := ⟨_, rfl⟩
  have hcO := list_cap HLO.out
  have hx32 := HX32.out
  rw [← hnO] at HLO hle hcO ⊢
  rw [← hnX] at HLA hx32 ⊢
  have HNO := Lib.hid hnO
  have HNX := Lib.hid hnX
  have HCO := Lib.hid hcO.2
  have hcO := hcO.1
  have HLEX := Lib.hid (show ∀ t ∈ X, (tTx.enc t).length ≤ 1099511627776 from fun t ht => by have := (HXW.out t ht).2; omega)
  have HLEO := Lib.hid (show ∀ t ∈ OUT, (tTx.enc t).length ≤ 1099511627776 from fun t ht => HLEX.out t (next_mem (by rw [← HOUT.out]; exact ht)))
  have HWB := Lib.hid (show ∀ w', Below w5.heap.size w5 w' → Blk w' w.heap.size 34 ss.toArray ∧ StA w' S la ss from fun w' h => ⟨blk_low HX5.out h, StA.below (HSA.out.below HB5.out) h⟩)
  clear hO hnO hnX
  have hle8 : nO ≤ 8 := by omega
  by_cases h8 : nO = 8
  · have h8i : (nO : Int) = 8 := by omega
    have HBE := Lib.hid HB5.out
    subst h8
    go_wp2_with fail
    go_ret
    exact ⟨rfl, HBE.out⟩
  have hlt8 : nO < 8 := by omega
  have h8b : ((nO : Int) == 8) = false := by simp; omega
  have h8c : ¬ (nO : Int) = 8 := by omega
  clear hle
  go_wp2_with fail
  clear h8 h8b h8c
  go_loopw [31] (fun i wr => ∃ k : Nat, k ≤ nX ∧ i = .int .i64 k ∧ Hid (Below w5.heap.size w5 wr)) (fun i _ => nX - (intOf i).toNat)
  case atStart => exact ⟨0, Nat.zero_le _, rfl, Lib.hid (Below.refl _ _)⟩
  case round =>
    obtain ⟨k, hk, rfl, hb⟩ := hrel
    by_cases hlt : k < nX
    · have hkX : k < X.length := by rw [← HNX.out]; exact hlt
      obtain ⟨b, off, C, rfl, HC, hCl⟩ := list_one (HLA.out) HNX.out hlt
      have HRS := Lib.hid (show inX OUT X[k] = false → fitsX la OUT X[k] = false from fun h => by
        rw [HOUT.out] at h ⊢
        exact next_rest (List.getElem_mem hkX) h (by rw [← HOUT.out, ← HNO.out]; exact hlt8))
      have HLT := Lib.hid (HLEX.out _ (List.getElem_mem hkX))
      obtain ⟨t, ht⟩ : ∃ t, t = X[k] := ⟨_, rfl⟩
      rw [← ht] at HRS HLT
      have HC := Lib.hid (show ∀ w', Below w5.heap.size w5 w' → w'.rangeAt b (off + k * 41) C ∧ tTx.rep w' _ t C from fun w' h => by rw [ht]; exact HC w' h)
      have HJ := Lib.hid (tx_size hCl)
      have hcs := tx_cells (HC.out _ (Below.refl _ _)).2
      obtain ⟨f, hf⟩ : ∃ f, f = fromX t := ⟨_, rfl⟩
      obtain ⟨nn, hnn⟩ : ∃ nn, nn = nonceX t := ⟨_, rfl⟩
      rw [← hf, ← hnn] at hcs
      have HF := Lib.hid hf
      have HNN := Lib.hid hnn
      have HCF := Lib.hid hcs.2.1
      have HCN := Lib.hid hcs.2.2.1
      have HRC := Lib.hid (HC.out _ hb.out).1
      have HIN := Lib.hid (rin_any wr (Sh.rep_below HLO.out hb.out) (HC.out _ hb.out).2 HLEO.out HLT.out)
      have HBW := Lib.hid hb.out
      clear ht hkX hCl hcs hf hnn hb
      go_wp2_with (refine wpList_load_mid rfl 40 _ rfl b (off + k * 41) rfl C _ HRC.out Tryz.underlying40 rfl HJ.out ?_)
      refine HIN.out.mono ?_
      rintro e w6 ⟨rfl, hb6⟩
      have HB6 := Lib.hid (HBW.out.trans (hb6.mono HBW.out.size))
      obtain ⟨q, hq⟩ : ∃ q, q = inX OUT t := ⟨_, rfl⟩
      rw [← hq] at HRS ⊢
      clear hb6 hq HBW HRC HIN
      cases q
      rotate_left
      · go_wp2_with fail
        exact ⟨⟨k + 1, by omega, by push_cast; rfl, HB6⟩, by simp only [intOf]; omega⟩
      go_wp2_with fail
      have hbd := HB6.out.trans (((Below.refl w6.heap.size w6).drew).mono HB6.out.size)
      have hSS : Blk w6.drew w.heap.size 34 ss.toArray ∧ w6.drew.rangeAt b (off + k * 41) C := ⟨(HWB.out _ hbd).1, (HC.out _ hbd).1⟩
      refine wp_region_segsV [([0, 1, 2, 3, 4, 5], [6]), ([7], [8])] (by kernel_rfl) (by kernel_rfl) (by kernel_rfl) (by kernel_rfl)
        (SegV.mk (fun w' => Blk w' w.heap.size 34 ss.toArray ∧ w'.rangeAt b (off + k * 41) C) (fun _ _ => trivial) hSS ?_)
      (refine HoistK.load (by rfl) (by kernel_rfl) 34 _ rfl w.heap.size 0 rfl ss _ (fun w' hw => hw.1.range) Tryz.underlying34 rfl HST.out ?_; simp only [Act.put, setIfInBounds_toArray, getElem_toArray, getElem_cons_zero, set_cons_succ, set_cons_zero])
      iterate 4 (refine HoistK.yes (by rfl) (by kernel_rfl) ⟨?_, fun w' hSw => ?_, ?_⟩; rotate_left; (· go_simp; try with_reducible rfl); simp only [Act.put, setIfInBounds_toArray, getElem_toArray, getElem_cons_succ, getElem_cons_zero, set_cons_succ, set_cons_zero])
      (refine HoistK.yes (by rfl) (by kernel_rfl) ⟨?_, fun w' hSw => ?_, ?_⟩; rotate_left; (· have hcf := hSw.2 1 _ HCF.out; go_simp; try with_reducible rfl); simp only [Act.put, setIfInBounds_toArray, getElem_toArray, getElem_cons_succ, getElem_cons_zero, set_cons_succ, set_cons_zero])
      refine HoistK.nil_ ?_
      simp only [opsAt, filterMap_cons, filterMap_nil, getElem?_toArray, getElem?_cons_succ, getElem?_cons_zero]
      refine EffS.cons_ fun _ hQ => ?_
      go_wp2_with fail
      refine (account_any w6.drew (HWB.out _ hbd).2 f).mono ?_
      rintro e w7 ⟨rfl, hb7⟩
      have hb57 := hbd.trans (hb7.mono hbd.size)
      have hS7 : Blk w7 w.heap.size 34 ss.toArray ∧ w7.rangeAt b (off + k * 41) C := ⟨(HWB.out _ hb57).1, (HC.out _ hb57).1⟩
      have HWN := Lib.hid (show (acctP la f).2.2.1 = wantX la (OUT.take 0) f from (want_nil (HBR.out f)).symm)
      obtain ⟨ac, hac⟩ : ∃ ac, ac = acctP la f := ⟨_, rfl⟩
      rw [← hac] at HWN ⊢
      have HB7 := Lib.hid hb57
      clear hac hb7 hbd hSS hb57
      go_wp2_with fail
      refine hQ _ _ hS7 (EffS.nil_ (SegV.mk (fun w' => Blk w' w.heap.size 34 ss.toArray ∧ w'.rangeAt b (off + k * 41) C) (fun _ h => h) hS7 ?_))
      (refine HoistK.yes (by rfl) (by kernel_rfl) ⟨?_, fun w' hSw => ?_, ?_⟩; rotate_left; (· have hfn := field_nonce ac w'; unfold acs; go_simp; try with_reducible rfl); simp only [Act.put, setIfInBounds_toArray, getElem_toArray, getElem_cons_succ, getElem_cons_zero, set_cons_succ, set_cons_zero])
      refine HoistK.nil_ ?_
      simp only [opsAt, filterMap_cons, filterMap_nil, getElem?_toArray, getElem?_cons_succ, getElem?_cons_zero]
      refine EffS.cons_ fun _ hQ => ?_
      go_wp2_with fail
      refine hQ _ _ hS7 (EffS.nil_ fun _ hQ => ?_)
      rw [HWN.out]
      obtain ⟨w0, hw0⟩ : ∃ z, z = wantX la (OUT.take 0) f := ⟨_, rfl⟩
      rw [← hw0]
      have HW0 := Lib.hid hw0
      clear hw0 hS7 HWN
      go_wp2_with fail
      go_loopw [10, 50] (fun wt j wr => ∃ j' : Nat, j' ≤ nO ∧ j = .int .i64 j' ∧ (∃ z, wt = .int .u64 z ∧ Hid (z = wantX la (OUT.take j') f)) ∧ Hid (Below w5.heap.size w5 wr)) (fun _ j _ => nO - (intOf j).toNat)
      case atStart => exact ⟨0, Nat.zero_le _, rfl, ⟨_, rfl, HW0⟩, HB7⟩
      case round =>
        obtain ⟨j, hj, rfl, ⟨z, rfl, hz⟩, hb⟩ := hrel
        by_cases hjO : j < nO
        · have hjL : j < OUT.length := by rw [← HNO.out]; exact hjO
          obtain ⟨b', off', D, rfl, HD, hDl⟩ := list_one (HLO.out) HNO.out hjO
          have HWS := Lib.hid (want_step la OUT f hjL)
          obtain ⟨u, hu⟩ : ∃ u, u = OUT[j] := ⟨_, rfl⟩
          rw [← hu] at HWS
          have HD := Lib.hid (show ∀ w', Below w5.heap.size w5 w' → w'.rangeAt b' (off' + j * 41) D ∧ tTx.rep w' _ u D from fun w' h => by rw [hu]; exact HD w' h)
          have HJD := Lib.hid (tx_size hDl)
          have hds := tx_cells (HD.out _ (Below.refl _ _)).2
          obtain ⟨g, hg⟩ : ∃ g, g = fromX u := ⟨_, rfl⟩
          rw [← hg] at hds HWS
          have HCG := Lib.hid hds.2.1
          have hbd := hb.out.trans (((Below.refl wr.heap.size wr).drew).mono hb.out.size)
          have hSS : wr.drew.rangeAt b' (off' + j * 41) D ∧ wr.drew.rangeAt b (off + k * 41) C := ⟨(HD.out _ hbd).1, (HC.out _ hbd).1⟩
          clear hu hjL hDl hds hg hb
          go_wp2_with fail
          refine wp_region_segsV [([0, 1, 2, 3], [4]), ([5, 6, 7, 8, 9, 10, 11, 12, 13, 14, 15, 16], [17])] (by kernel_rfl) (by kernel_rfl) (by kernel_rfl) (by kernel_rfl)
            (SegV.mk (fun w' => w'.rangeAt b' (off' + j * 41) D ∧ w'.rangeAt b (off + k * 41) C) (fun _ _ => trivial) hSS ?_)
          (refine HoistK.yes (by rfl) (by kernel_rfl) ⟨?_, fun w' hSw => ?_, ?_⟩; rotate_left; (· go_simp; try with_reducible rfl); simp only [Act.put, setIfInBounds_toArray, getElem_toArray, getElem_cons_zero, set_cons_succ, set_cons_zero])
          iterate 2 (refine HoistK.yes (by rfl) (by kernel_rfl) ⟨?_, fun w' hSw => ?_, ?_⟩; rotate_left; (· go_simp; try with_reducible rfl); simp only [Act.put, setIfInBounds_toArray, getElem_toArray, getElem_cons_succ, getElem_cons_zero, set_cons_succ, set_cons_zero])
          (refine HoistK.load (by rfl) (by kernel_rfl) 40 _ rfl b' (off' + j * 41) rfl D _ (fun w' hw => hw.1) Tryz.underlying40 rfl HJD.out ?_; simp only [Act.put, setIfInBounds_toArray, getElem_toArray, getElem_cons_succ, getElem_cons_zero, set_cons_succ, set_cons_zero])
          refine HoistK.nil_ ?_
          simp only [opsAt, filterMap_cons, filterMap_nil, getElem?_toArray, getElem?_cons_succ, getElem?_cons_zero]
          refine EffS.cons_ fun _ hQ => ?_
          go_wp2_with fail
          refine (rspends_any wr.drew (HD.out _ hbd).2).mono ?_
          rintro e w9 ⟨rfl, hb9⟩
          have hb59 := hbd.trans (hb9.mono hbd.size)
          have hS9 : w9.rangeAt b' (off' + j * 41) D ∧ w9.rangeAt b (off + k * 41) C := ⟨(HD.out _ hb59).1, (HC.out _ hb59).1⟩
          have HB9 := Lib.hid hb59
          obtain ⟨q, hq⟩ : ∃ q, q = spendsX u := ⟨_, rfl⟩
          rw [← hq] at HWS ⊢
          clear hq hbd hb9 hb59 hSS
          go_wp2_with fail
          refine hQ _ _ hS9 (EffS.nil_ (SegV.mk (fun w' => w'.rangeAt b' (off' + j * 41) D ∧ w'.rangeAt b (off + k * 41) C) (fun _ h => h) hS9 ?_))
          cases q
          · (refine HoistK.yes (by rfl) (by kernel_rfl) ⟨?_, fun w' hSw => ?_, ?_⟩; rotate_left; (· go_simp; try with_reducible rfl); simp only [Act.put, setIfInBounds_toArray, getElem_toArray, getElem_cons_succ, getElem_cons_zero, set_cons_succ, set_cons_zero])
            (refine HoistK.no (by rfl) (by kernel_rfl) ?_; simp only [Act.put, setIfInBounds_toArray, getElem_toArray, getElem_cons_succ, getElem_cons_zero, set_cons_succ, set_cons_zero])
            (refine HoistK.no (by rfl) (by kernel_rfl) ?_; simp only [Act.put, setIfInBounds_toArray, getElem_toArray, getElem_cons_succ, getElem_cons_zero, set_cons_succ, set_cons_zero])
            (refine HoistK.no (by rfl) (by kernel_rfl) ?_; simp only [Act.put, setIfInBounds_toArray, getElem_toArray, getElem_cons_succ, getElem_cons_zero, set_cons_succ, set_cons_zero])
            (refine HoistK.no (by rfl) (by kernel_rfl) ?_; simp only [Act.put, setIfInBounds_toArray, getElem_toArray, getElem_cons_succ, getElem_cons_zero, set_cons_succ, set_cons_zero])
            (refine HoistK.no (by rfl) (by kernel_rfl) ?_; simp only [Act.put, setIfInBounds_toArray, getElem_toArray, getElem_cons_succ, getElem_cons_zero, set_cons_succ, set_cons_zero])
            (refine HoistK.no (by rfl) (by kernel_rfl) ?_; simp only [Act.put, setIfInBounds_toArray, getElem_toArray, getElem_cons_succ, getElem_cons_zero, set_cons_succ, set_cons_zero])
            (refine HoistK.no (by rfl) (by kernel_rfl) ?_; simp only [Act.put, setIfInBounds_toArray, getElem_toArray, getElem_cons_succ, getElem_cons_zero, set_cons_succ, set_cons_zero])
            (refine HoistK.no (by rfl) (by kernel_rfl) ?_; simp only [Act.put, setIfInBounds_toArray, getElem_toArray, getElem_cons_succ, getElem_cons_zero, set_cons_succ, set_cons_zero])
            (refine HoistK.no (by rfl) (by kernel_rfl) ?_; simp only [Act.put, setIfInBounds_toArray, getElem_toArray, getElem_cons_succ, getElem_cons_zero, set_cons_succ, set_cons_zero])
            (refine HoistK.no (by rfl) (by kernel_rfl) ?_; simp only [Act.put, setIfInBounds_toArray, getElem_toArray, getElem_cons_succ, getElem_cons_zero, set_cons_succ, set_cons_zero])
            (refine HoistK.no (by rfl) (by kernel_rfl) ?_; simp only [Act.put, setIfInBounds_toArray, getElem_toArray, getElem_cons_succ, getElem_cons_zero, set_cons_succ, set_cons_zero])
            refine HoistK.nil_ ?_
            simp only [opsAt, filterMap_cons, filterMap_nil, getElem?_toArray, getElem?_cons_succ, getElem?_cons_zero]
            refine EffS.cons_ fun _ hQ => ?_
            go_wp2_with fail
            refine hQ _ _ hS9 (EffS.nil_ fun _ hQ => ?_)
            clear hS9
            have HZ2 := Lib.hid (show z = wantX la (OUT.take (j + 1)) f by rw [HWS.out]; exact hz.out)
            go_wp2_with fail
            exact ⟨⟨j + 1, by omega, by push_cast; rfl, ⟨_, rfl, HZ2⟩, HB9⟩, by simp only [intOf]; omega⟩
          · by_cases hgf : g = f
            · subst hgf
              iterate 5 (refine HoistK.yes (by rfl) (by kernel_rfl) ⟨?_, fun w' hSw => ?_, ?_⟩; rotate_left; (· go_simp; try with_reducible rfl); simp only [Act.put, setIfInBounds_toArray, getElem_toArray, getElem_cons_succ, getElem_cons_zero, set_cons_succ, set_cons_zero])
              (refine HoistK.yes (by rfl) (by kernel_rfl) ⟨?_, fun w' hSw => ?_, ?_⟩; rotate_left; (· have hcg := hSw.1 1 _ HCG.out; have hcf := hSw.2 1 _ HCF.out; go_simp; try with_reducible rfl); simp only [Act.put, setIfInBounds_toArray, getElem_toArray, getElem_cons_succ, getElem_cons_zero, set_cons_succ, set_cons_zero])
              iterate 4 (refine HoistK.yes (by rfl) (by kernel_rfl) ⟨?_, fun w' hSw => ?_, ?_⟩; rotate_left; (· go_simp; try with_reducible rfl); simp only [Act.put, setIfInBounds_toArray, getElem_toArray, getElem_cons_succ, getElem_cons_zero, set_cons_succ, set_cons_zero])
              (refine HoistK.yes (by rfl) (by kernel_rfl) ⟨?_, fun w' hSw => ?_, ?_⟩; rotate_left; (· have hcg := hSw.1 1 _ HCG.out; have hcf := hSw.2 1 _ HCF.out; go_simp; try with_reducible rfl); simp only [Act.put, setIfInBounds_toArray, getElem_toArray, getElem_cons_succ, getElem_cons_zero, set_cons_succ, set_cons_zero])
              (refine HoistK.yes (by rfl) (by kernel_rfl) ⟨?_, fun w' hSw => ?_, ?_⟩; rotate_left; (· go_simp; try with_reducible rfl); simp only [Act.put, setIfInBounds_toArray, getElem_toArray, getElem_cons_succ, getElem_cons_zero, set_cons_succ, set_cons_zero])
              refine HoistK.nil_ ?_
              simp only [opsAt, filterMap_cons, filterMap_nil, getElem?_toArray, getElem?_cons_succ, getElem?_cons_zero]
              refine EffS.cons_ fun _ hQ => ?_
              go_wp2_with fail
              refine hQ _ _ hS9 (EffS.nil_ fun _ hQ => ?_)
              clear hS9
              have HZ2 := Lib.hid (show (z + 1) % 18446744073709551616 = wantX la (OUT.take (j + 1)) g by rw [HWS.out, ← hz.out]; simp)
              have hwz : IntKind.u64.wrap (z + 1) = (z + 1) % 18446744073709551616 := wrap_u _
              obtain ⟨z2, hz2⟩ : ∃ z2, z2 = (z + 1) % 18446744073709551616 := ⟨_, rfl⟩
              rw [← hz2] at HZ2 hwz
              clear hz2 hz
              go_wp2_with fail
              exact ⟨⟨j + 1, by omega, by push_cast; rfl, ⟨_, rfl, HZ2⟩, HB9⟩, by simp only [intOf]; omega⟩
            · have hgb : (g == f) = false := by simpa using hgf
              iterate 5 (refine HoistK.yes (by rfl) (by kernel_rfl) ⟨?_, fun w' hSw => ?_, ?_⟩; rotate_left; (· go_simp; try with_reducible rfl); simp only [Act.put, setIfInBounds_toArray, getElem_toArray, getElem_cons_succ, getElem_cons_zero, set_cons_succ, set_cons_zero])
              (refine HoistK.yes (by rfl) (by kernel_rfl) ⟨?_, fun w' hSw => ?_, ?_⟩; rotate_left; (· have hcg := hSw.1 1 _ HCG.out; have hcf := hSw.2 1 _ HCF.out; go_simp; try with_reducible rfl); simp only [Act.put, setIfInBounds_toArray, getElem_toArray, getElem_cons_succ, getElem_cons_zero, set_cons_succ, set_cons_zero])
              iterate 4 (refine HoistK.yes (by rfl) (by kernel_rfl) ⟨?_, fun w' hSw => ?_, ?_⟩; rotate_left; (· go_simp; try with_reducible rfl); simp only [Act.put, setIfInBounds_toArray, getElem_toArray, getElem_cons_succ, getElem_cons_zero, set_cons_succ, set_cons_zero])
              (refine HoistK.yes (by rfl) (by kernel_rfl) ⟨?_, fun w' hSw => ?_, ?_⟩; rotate_left; (· have hcg := hSw.1 1 _ HCG.out; have hcf := hSw.2 1 _ HCF.out; go_simp; try with_reducible rfl); simp only [Act.put, setIfInBounds_toArray, getElem_toArray, getElem_cons_succ, getElem_cons_zero, set_cons_succ, set_cons_zero])
              (refine HoistK.yes (by rfl) (by kernel_rfl) ⟨?_, fun w' hSw => ?_, ?_⟩; rotate_left; (· go_simp; try with_reducible rfl); simp only [Act.put, setIfInBounds_toArray, getElem_toArray, getElem_cons_succ, getElem_cons_zero, set_cons_succ, set_cons_zero])
              refine HoistK.nil_ ?_
              simp only [opsAt, filterMap_cons, filterMap_nil, getElem?_toArray, getElem?_cons_succ, getElem?_cons_zero]
              refine EffS.cons_ fun _ hQ => ?_
              go_wp2_with fail
              refine hQ _ _ hS9 (EffS.nil_ fun _ hQ => ?_)
              clear hS9
              have HZ2 := Lib.hid (show z = wantX la (OUT.take (j + 1)) f by rw [HWS.out, hgb]; exact hz.out)
              go_wp2_with fail
              exact ⟨⟨j + 1, by omega, by push_cast; rfl, ⟨_, rfl, HZ2⟩, HB9⟩, by simp only [intOf]; omega⟩
        · have ej : j = nO := by omega
          subst ej
          have HRC := Lib.hid (HC.out _ hb.out).1
          have HSP := Lib.hid (rspends_any wr (HC.out _ hb.out).2)
          have HB10 := Lib.hid hb.out
          have hz2 := hz.out
          rw [HNO.out, List.take_length] at hz2
          have hff := HRS.out (by first | rfl | trivial)
          rw [fits_want, ← HF.out, ← hz2, ← HNN.out] at hff
          have hsp : spendsX t = true := by cases h : spendsX t <;> simp [h] at hff ⊢
          have hnz : (nn == z) = false := by rw [hsp] at hff; simpa using hff
          have hnz2 : ¬ nn = z := by simpa using hnz
          rw [hsp] at HSP
          clear hb hz hz2 hff hsp
          go_wp2_with (refine wpList_load_mid rfl 40 _ rfl b (off + k * 41) rfl C _ HRC.out Tryz.underlying40 rfl HJ.out ?_)
          refine HSP.out.mono ?_
          rintro e w10 ⟨rfl, hb10⟩
          have hb510 := HB10.out.trans (hb10.mono HB10.out.size)
          have hcn : w10.cell? ⟨b, off + k * 41 + 4, none⟩ = some (.int .u64 nn) := (HC.out _ hb510).1 4 _ HCN.out
          have HBE := Lib.hid hb510
          clear hb10 hb510
          go_wp2_with fail
          exact ⟨⟨k + 1, by omega, by push_cast; rfl, HBE⟩, by simp only [intOf]; omega⟩
    · have ek : k = nX := by omega
      subst ek
      have HBE := Lib.hid (HB5.out.trans (hb.out.mono HB5.out.size))
      clear hb
      go_wp2_with fail
      go_ret
      exact ⟨rfl, HBE.out⟩
end
end Go.Proofs.YtkclkmjlodomkaaGreatDoor
