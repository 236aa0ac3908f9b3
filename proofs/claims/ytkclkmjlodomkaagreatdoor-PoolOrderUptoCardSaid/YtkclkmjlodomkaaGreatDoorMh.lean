/- Texts joined: PnR PmZ. -/
import Derived.Test.YtkclkmjlodomkaaGreatDoorMg
namespace Go.Proofs.YtkclkmjlodomkaaGreatDoor
open List (setIfInBounds_toArray getElem_toArray getElem_cons_succ getElem_cons_zero set_cons_succ set_cons_zero filterMap_cons filterMap_nil getElem?_toArray getElem?_cons_succ getElem?_cons_zero)
section
abbrev nsp (t : TxE) : Bool := !spendsX t
def OrdI (X OUT R : List TxE) (a k : Nat) : Prop := (X.drop a).filter nsp = (OUT.drop k).filter nsp ++ R
theorem ord_start (la : List (Int × Int × Int × Unit)) (n : Nat) (X : List TxE) : OrdI X (nextX la n X) ((restX la n X).filter nsp) 0 0 := by
  have h := nextP_order (sp := spendsX) (fr := fromX) (no := nonceX) (base := baseX la) n X []
  unfold OrdI
  rw [List.drop_zero, List.drop_zero]
  exact h
theorem rest_none {la : List (Int × Int × Int × Unit)} {n : Nat} {X : List TxE} (h : (nextX la n X).length < n) : (restX la n X).filter nsp = [] := by
  rw [List.filter_eq_nil_iff]
  intro t ht hs
  have := restP_done n X [] (by rw [List.length_nil, Nat.zero_add]; exact h) t ht
  unfold fitsP at this
  have hs : (!spendsX t) = true := hs
  rw [hs] at this
  cases this
theorem drop_filter {X : List TxE} {a : Nat} (ha : a < X.length) : (X.drop a).filter nsp = (if nsp X[a] then [X[a]] else []) ++ (X.drop (a + 1)).filter nsp := by
  rw [List.drop_eq_getElem_cons ha, List.filter_cons]
  cases nsp X[a] <;> rfl
theorem OrdI.skipO {X OUT R : List TxE} {a k : Nat} (h : OrdI X OUT R a k) (hk : k < OUT.length) (hs : spendsX OUT[k] = true) : OrdI X OUT R a (k + 1) := by
  unfold OrdI at *
  rw [drop_filter hk] at h
  have : nsp OUT[k] = false := by unfold nsp; rw [hs]; rfl
  rw [this] at h
  exact h
theorem OrdI.skipX {X OUT R : List TxE} {a k : Nat} (h : OrdI X OUT R a k) (ha : a < X.length) (hs : spendsX X[a] = true) : OrdI X OUT R (a + 1) k := by
  unfold OrdI at *
  rw [drop_filter ha] at h
  have : nsp X[a] = false := by unfold nsp; rw [hs]; rfl
  rw [this] at h
  exact h
theorem OrdI.both {X OUT R : List TxE} {a k : Nat} (h : OrdI X OUT R a k) (ha : a < X.length) (hk : k < OUT.length) (he : X[a] = OUT[k]) : OrdI X OUT R (a + 1) (k + 1) := by
  unfold OrdI at *
  rw [drop_filter ha, drop_filter hk, he, List.append_assoc] at h
  exact List.append_cancel_left h
theorem OrdI.head {X OUT R : List TxE} {a k : Nat} (h : OrdI X OUT R a k) (ha : a < X.length) (hk : k < OUT.length) (h1 : spendsX OUT[k] = false) (h2 : spendsX X[a] = false) : X[a] = OUT[k] := by
  unfold OrdI at *
  rw [drop_filter ha, drop_filter hk] at h
  have e1 : nsp X[a] = true := by unfold nsp; rw [h2]; rfl
  have e2 : nsp OUT[k] = true := by unfold nsp; rw [h1]; rfl
  rw [e1, e2] at h
  exact (List.cons.inj h).1
theorem OrdI.more {X OUT R : List TxE} {a k : Nat} (h : OrdI X OUT R a k) (hk : k < OUT.length) (h1 : spendsX OUT[k] = false) : a < X.length := by
  rcases Nat.lt_or_ge a X.length with h2 | h2
  · exact h2
  · unfold OrdI at h
    rw [List.drop_eq_nil_of_le h2, drop_filter hk] at h
    have e2 : nsp OUT[k] = true := by unfold nsp; rw [h1]; rfl
    rw [e2] at h
    cases h
theorem OrdI.end_ {X OUT : List TxE} {a k : Nat} (h : OrdI X OUT [] a k) (hk : k = OUT.length) (ha : a < X.length) : spendsX X[a] = true := by
  unfold OrdI at h
  rw [hk, List.drop_length, drop_filter ha] at h
  cases hs : spendsX X[a] with
  | true => rfl
  | false =>
    have e1 : nsp X[a] = true := by unfold nsp; rw [hs]; rfl
    rw [e1] at h
    cases h
end
section
open Go.RowKit Go.Maps
attribute [-simp] Tryz.isAgg34 Tryz.typeInfo34 Tryz.isAgg40 Tryz.typeInfo40 Tryz.isAgg37 Tryz.typeInfo37 Tryz.isAgg57 Tryz.typeInfo57
set_option maxHeartbeats 16000000 in
set_option maxRecDepth 100000 in
theorem lawOrder_any (w : World) {S T : Nat → Prop} {sent : Value} {x : StE} {ss : List Value} {y : Value} {l : List TxE} (hx : tState.rep w S x ss) (hxl : (tState.enc x).length ≤ 1099511627776) (hy : (Sh.list tTx).rep w T l [y]) (hyl : ((Sh.list tTx).enc l).length ≤ 1099511627776) (hk : Pk w sent) :
    Calls Tryz.prog 8 #[.agg ss.toArray, y] w fun e w' => e = .returned (.bool true) ∧ Below w.heap.size w w' := by
  have hal := (Below.refl w.heap.size w).alloc (Nat.le_refl _) (.cells ss.toArray 34)
  have hbx := Blk.new w 34 ss.toArray
  have hsta := sta_of hx (acc_len hxl)
  have hbr := base_range hx
  obtain ⟨la, hla⟩ : ∃ la, la = accX x := ⟨_, rfl⟩
  rw [← hla] at hsta hbr
  have HST := Lib.hid (st_of hsta)
  have HSA := Lib.hid hsta
  have HX := Lib.hid hx
  have HY := Lib.hid hy
  have HTL := Lib.hid (tx_len hyl)
  have HK := Lib.hid hk
  have HAL := Lib.hid hal
  have HBX := Lib.hid hbx
  have HBR := Lib.hid hbr
  clear hal hbx hx hy hyl hk hxl hla hsta hbr
  go_enter Tryz.func8, Tryz.ntmps8
  go_wp2_with fail
  refine (awakeP_any _ (HK.out.below HAL.out)).mono ?_
  rintro e w1 ⟨rfl, hb1⟩
  have HB1 := Lib.hid (HAL.out.trans (hb1.mono HAL.out.size))
  have HX1 := Lib.hid (blk_low HBX.out hb1)
  clear hb1 HAL HBX
  go_wp2_with (refine wpList_load_blk' rfl 34 _ rfl HX1.out rfl Tryz.underlying34 rfl HST.out ?_)
  refine (may_any w1 (Sh.rep_below HX.out HB1.out)).mono ?_
  rintro e w2 ⟨⟨r, rfl, -⟩, hb2⟩
  have HB2 := Lib.hid (HB1.out.trans (hb2.mono HB1.out.size))
  have HX2 := Lib.hid (blk_low HX1.out hb2)
  clear hb2 HX1 HB1 HX
  cases r
  · go_wp2_with fail
    go_ret
    exact ⟨rfl, HB2.out⟩
  go_wp2_with (refine wpList_load_blk' rfl 34 _ rfl HX2.out rfl Tryz.underlying34 rfl HST.out ?_)
  refine (fill_any w2 (HSA.out.below HB2.out) (Sh.rep_below HY.out HB2.out) HTL.out).mono ?_
  rintro e w3 ⟨gP, vP, rfl, hp3⟩
  obtain ⟨mm, hmm⟩ : ∃ mm, mm = (min (max (32 : Int) 0) 32).toNat := ⟨_, rfl⟩
  rw [← hmm] at hp3
  have hnd := fill_nodup la mm l
  obtain ⟨X, hX⟩ : ∃ X, X = fillX la mm l := ⟨_, rfl⟩
  rw [← hX] at hp3 hnd
  have hx32 : X.length ≤ 32 := by have h1 := hp3.1.1.1; have h2 := hp3.1.1.2.1; rw [List.length_map] at h2; omega
  have HXW := Lib.hid (show wellX X from hp3.1.2)
  have HND := Lib.hid hnd
  have HX32 := Lib.hid hx32
  have HP3 := Lib.hid hp3
  have HX3 := Lib.hid (blk_low HX2.out hp3.2.1)
  have HB3 := Lib.hid (HB2.out.trans (hp3.2.1.mono HB2.out.size))
  clear hp3 hmm hX hnd hx32 HX2 HB2 HTL HY
  go_wp2_with fail
  refine (poolAll_any w3 HP3.out.1 (HK.out.below HB3.out)).mono ?_
  rintro e w4 ⟨vA, rfl, htx, hb⟩
  have HLA := Lib.hid htx.2.list
  have HP4 := Lib.hid (HP3.out.below hb)
  have HX4 := Lib.hid (HX3.out.below hb HX3.out.lt)
  have HB4 := Lib.hid (HB3.out.trans (hb.mono HB3.out.size))
  clear htx hb HX3 HB3 HP3
  go_wp2_with (refine wpList_load_blk' rfl 34 _ rfl HX4.out rfl Tryz.underlying34 rfl HST.out ?_)
  refine (poolNext_any w4 HP4.out.1 (HK.out.below HB4.out) (HSA.out.below HB4.out) (8)).mono ?_
  rintro e w5 ⟨vO, rfl, htx, hb⟩
  have HLO := Lib.hid htx.2.list
  have HP5 := Lib.hid (HP4.out.below hb)
  have HX5 := Lib.hid (HX4.out.below hb HX4.out.lt)
  have HB5 := Lib.hid (HB4.out.trans (hb.mono HB4.out.size))
  have HLA := Lib.hid (Sh.rep_below HLA.out hb)
  clear htx hb HX4 HB4 HP4
  obtain ⟨OUT, hO⟩ : ∃ OUT, OUT = nextX la (min (8 : Int) 8).toNat X := ⟨_, rfl⟩
  rw [← hO] at HLO
  have hle := next_len la (min (8 : Int) 8).toNat X
  rw [← hO] at hle
  have HOUT := Lib.hid hO
  obtain ⟨AO, cO, rfl, -, -⟩ := list_at HLO.out
  obtain ⟨AX, cX, rfl, -, -⟩ := list_at HLA.out
  obtain ⟨nO, hnO⟩ : ∃ n, n = OUT.length := ⟨_, rfl⟩
  obtain ⟨nX, hnX⟩ : ∃ n, n = X.length := ⟨_, rfl⟩
  have hcO := list_cap HLO.out
  have hx32 := HX32.out
  rw [← hnO] at HLO hle hcO ⊢
  rw [← hnX] at HLA hx32 ⊢
  have HNO := Lib.hid hnO
  have HNX := Lib.hid hnX
  have HCO := Lib.hid hcO.2
  have hcO := hcO.1
  have HLEX := Lib.hid (show ∀ t ∈ X, (tTx.enc t).length ≤ 1099511627776 from fun t ht => by have := (HXW.out t ht).2; omega)
  have HLEO := Lib.hid (show ∀ t ∈ OUT, (tTx.enc t).length ≤ 1099511627776 from fun t ht => HLEX.out t (next_mem (by rw [← HOUT.out]; exact ht)))
  have HWB := Lib.hid (show ∀ w', Below w5.heap.size w5 w' → Blk w' w.heap.size 34 ss.toArray ∧ StA w' S la ss from fun w' h => ⟨blk_low HX5.out h, StA.below (HSA.out.below HB5.out) h⟩)
  clear hO hnO hnX
  have hord := ord_start la (min (8 : Int) 8).toNat X
  rw [← HOUT.out] at hord
  have hrn : nO < 8 → (restX la (min (8 : Int) 8).toNat X).filter nsp = [] := fun h => rest_none (by rw [← HOUT.out, ← HNO.out]; exact h)
  obtain ⟨RS, hRS⟩ : ∃ RS, RS = (restX la (min (8 : Int) 8).toNat X).filter nsp := ⟨_, rfl⟩
  rw [← hRS] at hord hrn
  have HORD := Lib.hid hord
  have HRN := Lib.hid hrn
  have hle8 : nO ≤ 8 := by omega
  clear hle hord hrn hRS
  go_wp2_with fail
  go_loopw [9, 27] (fun at_ i wr => ∃ a k : Nat, a ≤ nX ∧ k ≤ nO ∧ at_ = .int .i64 a ∧ i = .int .i64 k ∧ Hid (OrdI X OUT RS a k) ∧ Hid (Below w5.heap.size w5 wr)) (fun _ i _ => nO - (intOf i).toNat)
  case atStart => exact ⟨0, 0, Nat.zero_le _, Nat.zero_le _, rfl, rfl, HORD, Lib.hid (Below.refl _ _)⟩
  case round =>
    obtain ⟨a, k, ha, hk, rfl, rfl, ho, hb⟩ := hrel
    by_cases hlt : k < nO
    · have hkO : k < OUT.length := by rw [← HNO.out]; exact hlt
      obtain ⟨b, off, C, rfl, HC, hCl⟩ := list_one (HLO.out) HNO.out hlt
      obtain ⟨t, ht⟩ : ∃ t, t = OUT[k] := ⟨_, rfl⟩
      have HT := Lib.hid (show ∀ h : k < OUT.length, t = OUT[k]'h from fun _ => ht)
      have HLT := Lib.hid (show (tTx.enc t).length ≤ 1099511627776 by rw [ht]; exact HLEO.out _ (List.getElem_mem hkO))
      have HC := Lib.hid (show ∀ w', Below w5.heap.size w5 w' → w'.rangeAt b (off + k * 41) C ∧ tTx.rep w' _ t C from fun w' h => by rw [ht]; exact HC w' h)
      have HJ := Lib.hid (tx_size hCl)
      have HRC := Lib.hid (HC.out _ hb.out).1
      have HSP := Lib.hid (rspends_any wr (HC.out _ hb.out).2)
      have HBW := Lib.hid hb.out
      have HKO := Lib.hid hkO
      clear ht hCl hb
      go_wp2_with (refine wpList_load_mid rfl 40 _ rfl b (off + k * 41) rfl C _ HRC.out Tryz.underlying40 rfl HJ.out ?_)
      refine HSP.out.mono ?_
      rintro e w6 ⟨rfl, hb6⟩
      have HB6 := Lib.hid (HBW.out.trans (hb6.mono HBW.out.size))
      obtain ⟨q, hq⟩ : ∃ q, q = spendsX t := ⟨_, rfl⟩
      rw [← hq]
      have HQ := Lib.hid hq
      clear hb6 hq HBW HRC HSP
      cases q
      rotate_left
      · have HO2 := Lib.hid (ho.out.skipO hkO (by rw [← HT.out hkO]; exact HQ.out.symm))
        clear ho hkO
        go_wp2_with fail
        exact ⟨⟨a, k + 1, ha, by omega, rfl, by push_cast; rfl, HO2, HB6⟩, by simp only [intOf]; omega⟩
      clear hkO
      go_wp2_with fail
      go_loopw [9] (fun at_ wr => ∃ a : Nat, a ≤ nX ∧ at_ = .int .i64 a ∧ Hid (OrdI X OUT RS a k) ∧ Hid (Below w5.heap.size w5 wr)) (fun at_ _ => nX - (intOf at_).toNat)
      case atStart => exact ⟨a, ha, rfl, ho, HB6⟩
      case round =>
        obtain ⟨a, ha, rfl, ho, hb⟩ := hrel
        have hkO := HKO.out
        have haL : a < X.length := ho.out.more hkO (by rw [← HT.out hkO]; exact HQ.out.symm)
        have haX : a < nX := by rw [HNX.out]; exact haL
        obtain ⟨b', off', D, rfl, HD, hDl⟩ := list_one (HLA.out) HNX.out haX
        obtain ⟨u, hu⟩ : ∃ u, u = X[a] := ⟨_, rfl⟩
        have HSAME := Lib.hid (show sameX u t = true → u = t from fun h => by
          rw [hu, HT.out hkO] at h ⊢
          exact enc_inj HXW.out (List.getElem_mem haL) (next_mem (by rw [← HOUT.out]; exact List.getElem_mem hkO)) (of_decide_eq_true h))
        have HHEAD := Lib.hid (show spendsX u = false → u = t from fun h => by
          rw [hu] at h ⊢
          rw [HT.out hkO]
          exact ho.out.head haL hkO (by rw [← HT.out hkO]; exact HQ.out.symm) h)
        have HBOTH := Lib.hid (show u = t → OrdI X OUT RS (a + 1) (k + 1) from fun h => ho.out.both haL hkO (by rw [← hu, h, HT.out hkO]))
        have HSKIP := Lib.hid (show spendsX u = true → OrdI X OUT RS (a + 1) k from fun h => ho.out.skipX haL (by rw [← hu]; exact h))
        have HLU := Lib.hid (show (tTx.enc u).length ≤ 1099511627776 by rw [hu]; exact HLEX.out _ (List.getElem_mem haL))
        have HD := Lib.hid (show ∀ w', Below w5.heap.size w5 w' → w'.rangeAt b' (off' + a * 41) D ∧ tTx.rep w' _ u D from fun w' h => by rw [hu]; exact HD w' h)
        have HJD := Lib.hid (tx_size hDl)
        have hbd := hb.out.trans (((Below.refl wr.heap.size wr).drew).mono hb.out.size)
        have hSS : wr.drew.rangeAt b' (off' + a * 41) D ∧ wr.drew.rangeAt b (off + k * 41) C := ⟨(HD.out _ hbd).1, (HC.out _ hbd).1⟩
        clear hu hDl hb hkO haL ho
        go_wp2_with fail
        refine wp_region_segsV [([0, 1, 2, 3, 4, 5, 6, 7, 8, 9, 10, 11, 12], [13]), ([14], [15])] (by kernel_rfl) (by kernel_rfl) (by kernel_rfl) (by kernel_rfl)
          (SegV.mk (fun w' => w'.rangeAt b' (off' + a * 41) D ∧ w'.rangeAt b (off + k * 41) C) (fun _ _ => trivial) hSS ?_)
        (refine HoistK.yes (by rfl) (by kernel_rfl) ⟨?_, fun w' hSw => ?_, ?_⟩; rotate_left; (· go_simp; try with_reducible rfl); simp only [Act.put, setIfInBounds_toArray, getElem_toArray, getElem_cons_zero, set_cons_succ, set_cons_zero])
        iterate 7 (refine HoistK.yes (by rfl) (by kernel_rfl) ⟨?_, fun w' hSw => ?_, ?_⟩; rotate_left; (· go_simp; try with_reducible rfl); simp only [Act.put, setIfInBounds_toArray, getElem_toArray, getElem_cons_succ, getElem_cons_zero, set_cons_succ, set_cons_zero])
        (refine HoistK.load (by rfl) (by kernel_rfl) 40 _ rfl b' (off' + a * 41) rfl D _ (fun w' hw => hw.1) Tryz.underlying40 rfl HJD.out ?_; simp only [Act.put, setIfInBounds_toArray, getElem_toArray, getElem_cons_succ, getElem_cons_zero, set_cons_succ, set_cons_zero])
        iterate 3 (refine HoistK.yes (by rfl) (by kernel_rfl) ⟨?_, fun w' hSw => ?_, ?_⟩; rotate_left; (· go_simp; try with_reducible rfl); simp only [Act.put, setIfInBounds_toArray, getElem_toArray, getElem_cons_succ, getElem_cons_zero, set_cons_succ, set_cons_zero])
        (refine HoistK.load (by rfl) (by kernel_rfl) 40 _ rfl b (off + k * 41) rfl C _ (fun w' hw => hw.2) Tryz.underlying40 rfl HJ.out ?_; simp only [Act.put, setIfInBounds_toArray, getElem_toArray, getElem_cons_succ, getElem_cons_zero, set_cons_succ, set_cons_zero])
        refine HoistK.nil_ ?_
        simp only [opsAt, filterMap_cons, filterMap_nil, getElem?_toArray, getElem?_cons_succ, getElem?_cons_zero]
        refine EffS.cons_ fun _ hQ => ?_
        go_wp2_with fail
        refine (rsame_any wr.drew (HD.out _ hbd).2 (HC.out _ hbd).2 HLU.out HLT.out).mono ?_
        rintro e w7 ⟨rfl, hb7⟩
        have hb57 := hbd.trans (hb7.mono hbd.size)
        have hS7 : w7.rangeAt b' (off' + a * 41) D ∧ w7.rangeAt b (off + k * 41) C := ⟨(HD.out _ hb57).1, (HC.out _ hb57).1⟩
        have HB7 := Lib.hid hb57
        obtain ⟨q, hq⟩ : ∃ q, q = sameX u t := ⟨_, rfl⟩
        rw [← hq]
        have HQ2 := Lib.hid hq
        clear hq hb7 hbd hSS hb57
        go_wp2_with fail
        refine hQ _ _ hS7 (EffS.nil_ (SegV.mk (fun w' => w'.rangeAt b' (off' + a * 41) D ∧ w'.rangeAt b (off + k * 41) C) (fun _ h => h) hS7 ?_))
        (refine HoistK.yes (by rfl) (by kernel_rfl) ⟨?_, fun w' hSw => ?_, ?_⟩; rotate_left; (· go_simp; try with_reducible rfl); simp only [Act.put, setIfInBounds_toArray, getElem_toArray, getElem_cons_succ, getElem_cons_zero, set_cons_succ, set_cons_zero])
        refine HoistK.nil_ ?_
        simp only [opsAt, filterMap_cons, filterMap_nil, getElem?_toArray, getElem?_cons_succ, getElem?_cons_zero]
        refine EffS.cons_ fun _ hQ => ?_
        go_wp2_with fail
        refine hQ _ _ hS7 (EffS.nil_ fun _ hQ => ?_)
        clear hS7
        cases q
        · have hqf : sameX u t = false := HQ2.out.symm
          have hsu : spendsX u = true := by
            cases h : spendsX u with
            | true => rfl
            | false =>
              have e := HHEAD.out h
              rw [e, sameX_self] at hqf
              cases hqf
          have HRD := Lib.hid (HD.out _ HB7.out).1
          have HSU := Lib.hid (rspends_any w7 (HD.out _ HB7.out).2)
          have HO2 := Lib.hid (HSKIP.out hsu)
          rw [hsu] at HSU
          clear hqf hsu
          go_wp2_with (refine wpList_load_mid rfl 40 _ rfl b' (off' + a * 41) rfl D _ HRD.out Tryz.underlying40 rfl HJD.out ?_)
          refine HSU.out.mono ?_
          rintro e w8 ⟨rfl, hb8⟩
          have HB8 := Lib.hid (HB7.out.trans (hb8.mono HB7.out.size))
          clear hb8
          go_wp2_with fail
          exact ⟨⟨a + 1, by omega, by push_cast; rfl, HO2, HB8⟩, by simp only [intOf]; omega⟩
        · have HO2 := Lib.hid (HBOTH.out (HSAME.out HQ2.out.symm))
          have hne : ((a : Int) == (nX : Int)) = false := by simp; omega
          have hne2 : ¬ (a : Int) = (nX : Int) := by omega
          have hne3 : ¬ a = nX := by omega
          go_wp2_with fail
          exact ⟨⟨a + 1, k + 1, by omega, by omega, by push_cast; rfl, by push_cast; rfl, HO2, HB7⟩, by simp only [intOf]; omega⟩
    · have ek : k = nO := by omega
      have HO2 := Lib.hid (show OrdI X OUT RS a OUT.length by rw [← HNO.out, ← ek]; exact ho.out)
      have HBW := hb
      clear ho hb
      subst ek
      go_wp2_with fail
      go_loopw [9] (fun at_ wr => ∃ a : Nat, a ≤ nX ∧ at_ = .int .i64 a ∧ Hid (OrdI X OUT RS a OUT.length) ∧ Hid (Below w5.heap.size w5 wr)) (fun at_ _ => nX - (intOf at_).toNat)
      case atStart => exact ⟨a, ha, rfl, HO2, HBW⟩
      case round =>
        obtain ⟨a, ha, rfl, ho, hb⟩ := hrel
        have HBE := Lib.hid (HB5.out.trans (hb.out.mono HB5.out.size))
        by_cases haX : a < nX
        · by_cases h8 : k < 8
          · have haL : a < X.length := by rw [← HNX.out]; exact haX
            obtain ⟨b', off', D, rfl, HD, hDl⟩ := list_one (HLA.out) HNX.out haX
            obtain ⟨u, hu⟩ : ∃ u, u = X[a] := ⟨_, rfl⟩
            have hsu : spendsX u = true := by
              have h := ho.out
              rw [HRN.out h8] at h
              rw [hu]
              exact h.end_ rfl haL
            have HO3 := Lib.hid (ho.out.skipX haL (by rw [← hu]; exact hsu))
            have HRD := Lib.hid (HD _ hb.out).1
            have HJD := Lib.hid (tx_size hDl)
            have HSU := Lib.hid (rspends_any wr (show tTx.rep wr _ u D by rw [hu]; exact (HD _ hb.out).2))
            rw [hsu] at HSU
            have HBW := Lib.hid hb.out
            have h8i : (k : Int) < 8 := by omega
            clear hu hDl hb haL ho HD hsu HBE
            go_wp2_with (refine wpList_load_mid rfl 40 _ rfl b' (off' + a * 41) rfl D _ HRD.out Tryz.underlying40 rfl HJD.out ?_)
            refine HSU.out.mono ?_
            rintro e w8 ⟨rfl, hb8⟩
            have HB8 := Lib.hid (HBW.out.trans (hb8.mono HBW.out.size))
            clear hb8
            go_wp2_with fail
            exact ⟨⟨a + 1, by omega, by push_cast; rfl, HO3, HB8⟩, by simp only [intOf]; omega⟩
          · have h8i : ¬ (k : Int) < 8 := by omega
            clear ho hb
            go_wp2_with fail
            go_ret
            exact ⟨rfl, HBE.out⟩
        · have ea : a = nX := by omega
          subst ea
          clear ho hb
          go_wp2_with fail
          go_ret
          exact ⟨rfl, HBE.out⟩
end
end Go.Proofs.YtkclkmjlodomkaaGreatDoor
