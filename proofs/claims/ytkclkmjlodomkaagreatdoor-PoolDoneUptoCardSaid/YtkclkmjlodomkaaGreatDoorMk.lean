/- Texts joined: PnC. -/
import Derived.Test.YtkclkmjlodomkaaGreatDoorMg
namespace Go.Proofs.YtkclkmjlodomkaaGreatDoor
open List (setIfInBounds_toArray getElem_toArray getElem_cons_succ getElem_cons_zero set_cons_succ set_cons_zero filterMap_cons filterMap_nil getElem?_toArray getElem?_cons_succ getElem?_cons_zero)
section
open Go.RowKit Go.Maps
attribute [-simp] Tryz.isAgg34 Tryz.typeInfo34 Tryz.isAgg40 Tryz.typeInfo40 Tryz.isAgg37 Tryz.typeInfo37 Tryz.isAgg57 Tryz.typeInfo57
theorem stale_is (lb : List (Int × Int × Int × Unit)) (t : TxE) : staleX lb t = (spendsX t && decide (nonceX t < (acctP lb (fromX t)).2.2.1)) := rfl
set_option maxHeartbeats 16000000 in
set_option maxRecDepth 100000 in
theorem lawDone_any (w : World) {S S' T : Nat → Prop} {sent : Value} {x x' : StE} {ss ss' : List Value} {n : Int} {y : Value} {l : List TxE} (hx : tState.rep w S x ss) (hxl : (tState.enc x).length ≤ 1099511627776) (hx' : tState.rep w S' x' ss') (hxl' : (tState.enc x').length ≤ 1099511627776) (hy : (Sh.list tTx).rep w T l [y]) (hyl : ((Sh.list tTx).enc l).length ≤ 1099511627776) (hk : Pk w sent) :
    Calls Tryz.prog 6 #[.agg ss.toArray, .agg ss'.toArray, y, .int .i64 n] w fun e w' => e = .returned (.bool true) ∧ Below w.heap.size w w' := by
  have hal := ((Below.refl w.heap.size w).alloc (Nat.le_refl _) (.cells ss.toArray 34)).alloc (by simp) (.cells ss'.toArray 34)
  have hbx := (Blk.new w 34 ss.toArray).alloc (.cells ss'.toArray 34)
  have hby := Blk.new (w.alloc (.cells ss.toArray 34)) 34 ss'.toArray
  rw [show (w.alloc (.cells ss.toArray 34)).heap.size = w.heap.size + 1 by simp] at hby
  have hsta := sta_of hx (acc_len hxl)
  have hstb := sta_of hx' (acc_len hxl')
  obtain ⟨la, hla⟩ : ∃ la, la = accX x := ⟨_, rfl⟩
  obtain ⟨lb, hlb⟩ : ∃ lb, lb = accX x' := ⟨_, rfl⟩
  rw [← hla] at hsta
  rw [← hlb] at hstb
  have HST := Lib.hid (st_of hsta)
  have HSU := Lib.hid (st_of hstb)
  have HSA := Lib.hid hsta
  have HSB := Lib.hid hstb
  have HX := Lib.hid hx
  have HX' := Lib.hid hx'
  have HY := Lib.hid hy
  have HTL := Lib.hid (tx_len hyl)
  have HK := Lib.hid hk
  have HAL := Lib.hid hal
  have HBX := Lib.hid (And.intro hbx hby)
  clear hal hbx hby hx hy hyl hk hxl hla hlb hsta hstb hx' hxl'
  go_enter Tryz.func6, Tryz.ntmps6
  go_wp2_with fail
  refine (awakeP_any _ (HK.out.below HAL.out)).mono ?_
  rintro e w1 ⟨rfl, hb1⟩
  have HB1 := Lib.hid (HAL.out.trans (hb1.mono HAL.out.size))
  have HX1 := Lib.hid (blk_low HBX.out.1 hb1)
  have HZ1 := Lib.hid (blk_low HBX.out.2 hb1)
  clear hb1 HAL HBX
  go_wp2_with (refine wpList_load_blk' rfl 34 _ rfl HX1.out rfl Tryz.underlying34 rfl HST.out ?_)
  refine (may_any w1 (Sh.rep_below HX.out HB1.out)).mono ?_
  rintro e w1' ⟨⟨r, rfl, -⟩, hb2⟩
  have HB1' := Lib.hid (HB1.out.trans (hb2.mono HB1.out.size))
  have HX1' := Lib.hid (blk_low HX1.out hb2)
  have HZ1' := Lib.hid (blk_low HZ1.out hb2)
  clear hb2 HX1 HZ1 HB1 HX
  go_wp2_with (refine wpList_load_blk' rfl 34 _ rfl HZ1'.out rfl Tryz.underlying34 rfl HSU.out ?_)
  refine (may_any w1' (Sh.rep_below HX'.out HB1'.out)).mono ?_
  rintro e w2 ⟨⟨r', rfl, -⟩, hb2⟩
  have HB2 := Lib.hid (HB1'.out.trans (hb2.mono HB1'.out.size))
  have HX2 := Lib.hid (blk_low HX1'.out hb2)
  have HZ2 := Lib.hid (blk_low HZ1'.out hb2)
  clear hb2 HX1' HZ1' HB1' HX'
  cases r
  · cases r' <;>
    · go_wp2_with fail
      go_ret
      exact ⟨rfl, HB2.out⟩
  cases r'
  · go_wp2_with fail
    go_ret
    exact ⟨rfl, HB2.out⟩
  go_wp2_with (refine wpList_load_blk' rfl 34 _ rfl HX2.out rfl Tryz.underlying34 rfl HST.out ?_)
  refine (fill_any w2 (HSA.out.below HB2.out) (Sh.rep_below HY.out HB2.out) HTL.out).mono ?_
  rintro e w3 ⟨gP, vP, rfl, hp3⟩
  obtain ⟨mm, hmm⟩ : ∃ mm, mm = (min (max (32 : Int) 0) 32).toNat := ⟨_, rfl⟩
  rw [← hmm] at hp3
  obtain ⟨X, hX⟩ : ∃ X, X = fillX la mm l := ⟨_, rfl⟩
  rw [← hX] at hp3
  have hx32 : X.length ≤ 32 := by have h1 := hp3.1.1.1; have h2 := hp3.1.1.2.1; rw [List.length_map] at h2; omega
  have HXW := Lib.hid (show wellX X from hp3.1.2)
  have HX32 := Lib.hid hx32
  have HP3 := Lib.hid hp3
  have HZ3 := Lib.hid (blk_low HZ2.out hp3.2.1)
  have HB3 := Lib.hid (HB2.out.trans (hp3.2.1.mono HB2.out.size))
  have HB2' := HB2
  have HZ2' := HZ2
  clear hp3 hmm hX hx32 HX2 HB2 HZ2 HTL HY
  go_wp2_with fail
  refine (poolAll_any w3 HP3.out.1 (HK.out.below HB3.out)).mono ?_
  rintro e w4 ⟨vA, rfl, htx, hb⟩
  have HLA := Lib.hid (Sh.rep_sub (S' := fun b => w3.heap.size ≤ b) htx.2.list fun b hb _ => by
    rcases hb with hb | hb
    · exact hb.1.1
    · exact htx.1 b hb)
  have HP4 := Lib.hid (HP3.out.below hb)
  have HZ4 := Lib.hid (HZ3.out.below hb HZ3.out.lt)
  have HB4 := Lib.hid (HB3.out.trans (hb.mono HB3.out.size))
  have HGV := Lib.hid (show gP < w3.heap.size ∧ ∀ b, vP.ownBlock = some b → b < w3.heap.size from ⟨HP3.out.1.1.lt, fun b hb => own_lt HP3.out.1.own hb⟩)
  clear htx hb HZ3 HB3 HP3
  obtain ⟨AX, cX, rfl, -, -⟩ := list_at HLA.out
  obtain ⟨nX, hnX⟩ : ∃ n, n = X.length := ⟨_, rfl⟩
  have hcX := list_cap HLA.out
  have hx32 := HX32.out
  rw [← hnX] at HLA hx32 hcX ⊢
  have HNX := Lib.hid hnX
  have hcX1 := hcX.1
  have HCX := Lib.hid hcX.2
  have HLEX := Lib.hid (show ∀ t ∈ X, (tTx.enc t).length ≤ 1099511627776 from fun t ht => by have := (HXW.out t ht).2; omega)
  clear hnX hcX
  obtain ⟨d, hd⟩ : ∃ d : Nat, d = (min (max n 0) (nX : Int)).toNat := ⟨_, rfl⟩
  have hdX : d ≤ nX := by omega
  have hnd : (n < 0 ∧ d = 0) ∨ (¬ n < 0 ∧ ¬ (nX : Int) < n ∧ n = (d : Int)) ∨ (¬ n < 0 ∧ (nX : Int) < n ∧ d = nX) := by omega
  clear hd
  have HLD0 := Lib.hid (list_take HLA.out hdX)
  obtain ⟨Dn, hDn⟩ : ∃ Dn, Dn = X.take d := ⟨_, rfl⟩
  rw [← hDn] at HLD0
  have HDX := Lib.hid (show ∀ t ∈ Dn, t ∈ X from fun t ht => List.mem_of_mem_take (by rw [← hDn]; exact ht))
  clear hDn
  have g4 : (0 : Int) ≤ (nX : Int) := by omega
  have g5 : ¬ (nX : Int) < 0 := by omega
  rcases hnd with ⟨g1, g2⟩ | ⟨g1, g2, g3⟩ | ⟨g1, g2, g3⟩
  rotate_left
  · subst g3
    have hdc : (d : Int) ≤ (cX : Int) := by omega
    have hdc2 : d ≤ cX := by omega
    have HLD := HLD0
    clear HLD0
    go_wp2_with (refine wpList_load_blk' rfl 34 _ rfl HZ4.out rfl Tryz.underlying34 rfl HSU.out ?_)
    have hst : ∀ w', Chg (fun b => vP.ownBlock = some b) w4 w' → StA w' S' lb ss' ∧ Pk w' sent := fun w' hc => by
      have h2 : Below w2.heap.size w2 w' := HP4.out.2.1.trans (hc.below HP4.out.2.1.size fun b hb => HP4.out.2.2.2 b hb)
      have h1 := HB2'.out.trans (h2.mono HB2'.out.size)
      exact ⟨HSB.out.below h1, HK.out.below h1⟩
    have HD := Lib.hid (poolDone_any w4 hst HP4.out.1 HLD.out (fun t ht => HLEX.out t (HDX.out t ht)))
    clear hst
    refine HD.out.mono ?_
    rintro e w5 ⟨v5, rfl, hob, hp5, hc5⟩
    obtain ⟨Y, hY⟩ : ∃ Y, Y = stayX lb (encsX Dn) X := ⟨_, rfl⟩
    rw [← hY] at hp5
    have HY := Lib.hid hY
    have hy32 : Y.length ≤ 32 := by have h1 := hp5.1.1; have h2 := hp5.1.2.1; rw [List.length_map] at h2; omega
    have HYW := Lib.hid (show wellX Y from hp5.2)
    have HPB := Lib.hid (HP4.out.to hp5 hc5 (.inl hob))
    have hno : ∀ b, w3.heap.size ≤ b → ¬ (b = gP ∨ vP.ownBlock = some b) := fun b hb h => by
      rcases h with h | h
      · have := HGV.out.1; omega
      · have := HGV.out.2 b h; omega
    have HLA5 := Lib.hid (Sh.rep_chg HLA.out hc5 hno)
    have HLD5 := Lib.hid (Sh.rep_chg HLD.out hc5 hno)
    have HZ5 := Lib.hid (show Blk w5 (w.heap.size + 1) 34 ss'.toArray from blk_low HZ2'.out HPB.out.2.1)
    have HB5 := Lib.hid (HB2'.out.trans (HPB.out.2.1.mono HB2'.out.size))
    clear hY hp5 hc5 hob hno HLA HLD HD HP4 HZ4 HB4
    go_wp2_with fail
    refine (poolAll_any w5 HPB.out.1 (HK.out.below HB5.out)).mono ?_
    rintro e w6 ⟨vB, rfl, htx, hb⟩
    have HLB := Lib.hid htx.2.list
    have HLA6 := Lib.hid (Sh.rep_below HLA5.out hb)
    have HLD6 := Lib.hid (Sh.rep_below HLD5.out hb)
    have HZ6 := Lib.hid (HZ5.out.below hb HZ5.out.lt)
    have HB6 := Lib.hid (HB5.out.trans (hb.mono HB5.out.size))
    clear htx hb HLA5 HLD5 HZ5 HB5 HPB
    obtain ⟨AB, cB, rfl, -, -⟩ := list_at HLB.out
    obtain ⟨nY, hnY⟩ : ∃ n, n = Y.length := ⟨_, rfl⟩
    rw [← hnY] at HLB hy32 ⊢
    have HNY := Lib.hid hnY
    have HLEY := Lib.hid (show ∀ t ∈ Y, (tTx.enc t).length ≤ 1099511627776 from fun t ht => by have := (HYW.out t ht).2; omega)
    have HWB := Lib.hid (show ∀ w', Below w6.heap.size w6 w' → Blk w' (w.heap.size + 1) 34 ss'.toArray ∧ StA w' S' lb ss' from fun w' h => ⟨blk_low HZ6.out h, StA.below (HSB.out.below HB6.out) h⟩)
    clear hnY
    go_wp2_with fail
    go_loopw [15, 51] (fun at_ i wr => ∃ a k : Nat, k ≤ nX ∧ a ≤ nY ∧ at_ = .int .i64 a ∧ i = .int .i64 k ∧ Hid (a = (stayX lb (encsX Dn) (X.take k)).length) ∧ Hid (Below w6.heap.size w6 wr)) (fun _ i _ => nX - (intOf i).toNat)
    case atStart => exact ⟨0, 0, Nat.zero_le _, Nat.zero_le _, rfl, rfl, Lib.hid rfl, Lib.hid (Below.refl _ _)⟩
    case round =>
      obtain ⟨a, k, hk, ha, rfl, rfl, hak, hb⟩ := hrel
      by_cases hlt : k < nX
      · have hkX : k < X.length := by rw [← HNX.out]; exact hlt
        obtain ⟨b, off, C, hAX, HC, hCl⟩ := list_one (HLA6.out) HNX.out hlt
        subst hAX
        have HSN := Lib.hid (stayX_snoc lb (encsX Dn) X hkX)
        have HSA2 := Lib.hid (show goneP lb (encsX Dn) X[k] = false → ∃ h : a < Y.length, Y[a] = X[k] from fun h => by
          obtain ⟨h1, h2⟩ := stay_at hkX h
          rw [hak.out]
          simp only [HY.out]
          exact ⟨h1, h2⟩)
        have HLT := Lib.hid (HLEX.out _ (List.getElem_mem hkX))
        obtain ⟨t, ht⟩ : ∃ t, t = X[k] := ⟨_, rfl⟩
        rw [← ht] at HSN HSA2 HLT
        have HC := Lib.hid (show ∀ w', Below w6.heap.size w6 w' → w'.rangeAt b (off + k * 41) C ∧ tTx.rep w' _ t C from fun w' h => by rw [ht]; exact HC w' h)
        have HJ := Lib.hid (tx_size hCl)
        have HCL := Lib.hid hCl
        have HRC := Lib.hid (HC.out _ hb.out).1
        have HC1 := Lib.hid (Sh.rep_one _ _ _ (HC.out _ hb.out).2)
        have hcs := tx_cells (HC.out _ hb.out).2
        obtain ⟨f, hf⟩ : ∃ f, f = fromX t := ⟨_, rfl⟩
        obtain ⟨nn, hnn⟩ : ∃ nn, nn = nonceX t := ⟨_, rfl⟩
        rw [← hf, ← hnn] at hcs
        have HG0 := Lib.hid (show goneP lb (encsX Dn) t = (inX Dn t || (spendsX t && decide (nn < (acctP lb f).2.2.1))) by rw [inX_iff, hf, hnn]; rfl)
        have HCF := Lib.hid hcs.2.1
        have HCN := Lib.hid hcs.2.2.1
        clear ht hkX hCl hcs hf hnn
        go_wp2_with (first
          | (refine wpList_load_mid rfl 40 _ rfl b (off + k * 41) rfl C _ HRC.out Tryz.underlying40 rfl HJ.out ?_)
          | (refine wpList_store_blk (cs0 := [.int .i64 0, .int .u64 0, .int .u64 0, .int .u64 0, .int .u64 0, .int .i64 0, .int .i64 0] ++ List.replicate 32 (.int .u8 0) ++ [.int .i64 0, .slice none 0 0]) (cs := C) rfl 40 _ _ rfl (Blk.new wr _ _) rfl rfl (by rw [HCL.out]; rfl) HJ.out HC1.out ?_; intro w7 hb7 hc7; have HB7 := Lib.hid hb7; have HC7 := Lib.hid hc7; clear hb7 hc7))
        have hal1 := (Below.refl wr.heap.size wr).alloc (Nat.le_refl _) (.cells (([.int .i64 0, .int .u64 0, .int .u64 0, .int .u64 0, .int .u64 0, .int .i64 0, .int .i64 0] ++ List.replicate 32 (.int .u8 0) ++ [.int .i64 0, .slice none 0 0] : List Value)).toArray 40)
        have hw7 := hb.out.trans ((hal1.trans (HC7.out.below hal1.size fun k hk => Nat.le_of_eq hk.symm)).mono hb.out.size)
        have hbd := hw7.trans (((Below.refl w7.heap.size w7).drew).mono hw7.size)
        obtain ⟨gt, hgt⟩ : ∃ gt, gt = wr.heap.size := ⟨_, rfl⟩
        rw [← hgt] at HB7 ⊢
        have hSS : Blk w7.drew gt 40 C.toArray ∧ Blk w7.drew (w.heap.size + 1) 34 ss'.toArray := ⟨HB7.out.drew, (HWB.out _ hbd).1⟩
        have HIN := Lib.hid (rin_any w7.drew (Sh.rep_below HLD6.out hbd) (HC.out _ hbd).2 (fun t ht => HLEX.out t (HDX.out t ht)) HLT.out)
        clear hal1 hw7 hb hgt HB7 HC7
        refine wp_region_segsV [([0, 1], [2]), ([3, 4], [5]), ([6, 7, 8, 9, 10, 11], [12]), ([13, 14, 15, 16], [17])] (by kernel_rfl) (by kernel_rfl) (by kernel_rfl) (by kernel_rfl)
          (SegV.mk (fun w' => Blk w' gt 40 C.toArray ∧ Blk w' (w.heap.size + 1) 34 ss'.toArray) (fun _ _ => trivial) hSS ?_)
        (refine HoistK.yes (by rfl) (by kernel_rfl) ⟨?_, fun w' hSw => ?_, ?_⟩; rotate_left; (· go_simp; try with_reducible rfl); simp only [Act.put, setIfInBounds_toArray, getElem_toArray, getElem_cons_zero, set_cons_succ, set_cons_zero])
        (refine HoistK.load (by rfl) (by kernel_rfl) 40 _ rfl gt 0 rfl C _ (fun w' hw => hw.1.range) Tryz.underlying40 rfl HJ.out ?_; simp only [Act.put, setIfInBounds_toArray, getElem_toArray, getElem_cons_succ, getElem_cons_zero, set_cons_succ, set_cons_zero])
        refine HoistK.nil_ ?_
        simp only [opsAt, filterMap_cons, filterMap_nil, getElem?_toArray, getElem?_cons_succ, getElem?_cons_zero]
        refine EffS.cons_ fun _ hQ => ?_
        go_wp2_with fail
        refine HIN.out.mono ?_
        rintro e w8 ⟨rfl, hb8⟩
        have hb68 := hbd.trans (hb8.mono hbd.size)
        have hS8 : Blk w8 gt 40 C.toArray ∧ Blk w8 (w.heap.size + 1) 34 ss'.toArray := ⟨hSS.1.below hb8 hSS.1.lt, (HWB.out _ hb68).1⟩
        have HB8 := Lib.hid hb68
        obtain ⟨q1, hq1⟩ : ∃ q, q = inX Dn t := ⟨_, rfl⟩
        rw [← hq1] at HG0 ⊢
        clear hq1 hbd hb8 hSS hb68 HIN
        go_wp2_with fail
        refine hQ _ _ hS8 (EffS.nil_ (SegV.mk (fun w' => Blk w' gt 40 C.toArray ∧ Blk w' (w.heap.size + 1) 34 ss'.toArray) (fun _ h => h) hS8 ?_))
        cases q1
        rotate_left
        · (refine HoistK.yes (by rfl) (by kernel_rfl) ⟨?_, fun w' hSw => ?_, ?_⟩; rotate_left; (· go_simp; try with_reducible rfl); simp only [Act.put, setIfInBounds_toArray, getElem_toArray, getElem_cons_succ, getElem_cons_zero, set_cons_succ, set_cons_zero])
          (refine HoistK.no (by rfl) (by kernel_rfl) ?_; simp only [Act.put, setIfInBounds_toArray, getElem_toArray, getElem_cons_succ, getElem_cons_zero, set_cons_succ, set_cons_zero])
          refine HoistK.nil_ ?_
          simp only [opsAt, filterMap_cons, filterMap_nil, getElem?_toArray, getElem?_cons_succ, getElem?_cons_zero]
          refine EffS.cons_ fun _ hQ => ?_
          go_wp2_with fail
          refine hQ _ _ hS8 (EffS.nil_ (SegV.mk (fun w' => Blk w' gt 40 C.toArray ∧ Blk w' (w.heap.size + 1) 34 ss'.toArray) (fun _ h => h) hS8 ?_))
          (refine HoistK.no (by rfl) (by kernel_rfl) ?_; simp only [Act.put, setIfInBounds_toArray, getElem_toArray, getElem_cons_succ, getElem_cons_zero, set_cons_succ, set_cons_zero])
          (refine HoistK.no (by rfl) (by kernel_rfl) ?_; simp only [Act.put, setIfInBounds_toArray, getElem_toArray, getElem_cons_succ, getElem_cons_zero, set_cons_succ, set_cons_zero])
          (refine HoistK.no (by rfl) (by kernel_rfl) ?_; simp only [Act.put, setIfInBounds_toArray, getElem_toArray, getElem_cons_succ, getElem_cons_zero, set_cons_succ, set_cons_zero])
          (refine HoistK.no (by rfl) (by kernel_rfl) ?_; simp only [Act.put, setIfInBounds_toArray, getElem_toArray, getElem_cons_succ, getElem_cons_zero, set_cons_succ, set_cons_zero])
          (refine HoistK.no (by rfl) (by kernel_rfl) ?_; simp only [Act.put, setIfInBounds_toArray, getElem_toArray, getElem_cons_succ, getElem_cons_zero, set_cons_succ, set_cons_zero])
          (refine HoistK.no (by rfl) (by kernel_rfl) ?_; simp only [Act.put, setIfInBounds_toArray, getElem_toArray, getElem_cons_succ, getElem_cons_zero, set_cons_succ, set_cons_zero])
          refine HoistK.nil_ ?_
          simp only [opsAt, filterMap_cons, filterMap_nil, getElem?_toArray, getElem?_cons_succ, getElem?_cons_zero]
          refine EffS.cons_ fun _ hQ => ?_
          go_wp2_with fail
          refine hQ _ _ hS8 (EffS.nil_ (SegV.mk (fun w' => Blk w' gt 40 C.toArray ∧ Blk w' (w.heap.size + 1) 34 ss'.toArray) (fun _ h => h) hS8 ?_))
          (refine HoistK.no (by rfl) (by kernel_rfl) ?_; simp only [Act.put, setIfInBounds_toArray, getElem_toArray, getElem_cons_succ, getElem_cons_zero, set_cons_succ, set_cons_zero])
          (refine HoistK.no (by rfl) (by kernel_rfl) ?_; simp only [Act.put, setIfInBounds_toArray, getElem_toArray, getElem_cons_succ, getElem_cons_zero, set_cons_succ, set_cons_zero])
          (refine HoistK.no (by rfl) (by kernel_rfl) ?_; simp only [Act.put, setIfInBounds_toArray, getElem_toArray, getElem_cons_succ, getElem_cons_zero, set_cons_succ, set_cons_zero])
          (refine HoistK.yes (by rfl) (by kernel_rfl) ⟨?_, fun w' hSw => ?_, ?_⟩; rotate_left; (· go_simp; try with_reducible rfl); simp only [Act.put, setIfInBounds_toArray, getElem_toArray, getElem_cons_succ, getElem_cons_zero, set_cons_succ, set_cons_zero])
          refine HoistK.nil_ ?_
          simp only [opsAt, filterMap_cons, filterMap_nil, getElem?_toArray, getElem?_cons_succ, getElem?_cons_zero]
          refine EffS.cons_ fun _ hQ => ?_
          go_wp2_with fail
          refine hQ _ _ hS8 (EffS.nil_ fun _ hQ => ?_)
          clear hS8
          have HA2 := Lib.hid (show a = (stayX lb (encsX Dn) (X.take (k + 1))).length by rw [HSN.out, HG0.out]; simpa using hak.out)
          clear hak
          go_wp2_with fail
          exact ⟨⟨a, k + 1, by omega, ha, rfl, by push_cast; rfl, HA2, HB8⟩, by simp only [intOf]; omega⟩
        (refine HoistK.yes (by rfl) (by kernel_rfl) ⟨?_, fun w' hSw => ?_, ?_⟩; rotate_left; (· go_simp; try with_reducible rfl); simp only [Act.put, setIfInBounds_toArray, getElem_toArray, getElem_cons_succ, getElem_cons_zero, set_cons_succ, set_cons_zero])
        (refine HoistK.load (by rfl) (by kernel_rfl) 40 _ rfl gt 0 rfl C _ (fun w' hw => hw.1.range) Tryz.underlying40 rfl HJ.out ?_; simp only [Act.put, setIfInBounds_toArray, getElem_toArray, getElem_cons_succ, getElem_cons_zero, set_cons_succ, set_cons_zero])
        refine HoistK.nil_ ?_
        simp only [opsAt, filterMap_cons, filterMap_nil, getElem?_toArray, getElem?_cons_succ, getElem?_cons_zero]
        refine EffS.cons_ fun _ hQ => ?_
        go_wp2_with fail
        refine (rspends_any w8 (HC.out _ HB8.out).2).mono ?_
        rintro e w9 ⟨rfl, hb9⟩
        have hb69 := HB8.out.trans (hb9.mono HB8.out.size)
        have hS9 : Blk w9 gt 40 C.toArray ∧ Blk w9 (w.heap.size + 1) 34 ss'.toArray := ⟨hS8.1.below hb9 hS8.1.lt, (HWB.out _ hb69).1⟩
        have HB9 := Lib.hid hb69
        obtain ⟨q2, hq2⟩ : ∃ q, q = spendsX t := ⟨_, rfl⟩
        rw [← hq2] at HG0 ⊢
        clear hq2 hb9 hS8 hb69
        go_wp2_with fail
        refine hQ _ _ hS9 (EffS.nil_ (SegV.mk (fun w' => Blk w' gt 40 C.toArray ∧ Blk w' (w.heap.size + 1) 34 ss'.toArray) (fun _ h => h) hS9 ?_))
        have hex : ∃ w10 : World, Blk w10 gt 40 C.toArray ∧ Below w6.heap.size w6 w10 := ⟨w9, hS9.1, HB9.out⟩
        clear hex
        cases q2
        · (refine HoistK.yes (by rfl) (by kernel_rfl) ⟨?_, fun w' hSw => ?_, ?_⟩; rotate_left; (· go_simp; try with_reducible rfl); simp only [Act.put, setIfInBounds_toArray, getElem_toArray, getElem_cons_succ, getElem_cons_zero, set_cons_succ, set_cons_zero])
          (refine HoistK.no (by rfl) (by kernel_rfl) ?_; simp only [Act.put, setIfInBounds_toArray, getElem_toArray, getElem_cons_succ, getElem_cons_zero, set_cons_succ, set_cons_zero])
          (refine HoistK.no (by rfl) (by kernel_rfl) ?_; simp only [Act.put, setIfInBounds_toArray, getElem_toArray, getElem_cons_succ, getElem_cons_zero, set_cons_succ, set_cons_zero])
          (refine HoistK.no (by rfl) (by kernel_rfl) ?_; simp only [Act.put, setIfInBounds_toArray, getElem_toArray, getElem_cons_succ, getElem_cons_zero, set_cons_succ, set_cons_zero])
          (refine HoistK.no (by rfl) (by kernel_rfl) ?_; simp only [Act.put, setIfInBounds_toArray, getElem_toArray, getElem_cons_succ, getElem_cons_zero, set_cons_succ, set_cons_zero])
          (refine HoistK.no (by rfl) (by kernel_rfl) ?_; simp only [Act.put, setIfInBounds_toArray, getElem_toArray, getElem_cons_succ, getElem_cons_zero, set_cons_succ, set_cons_zero])
          refine HoistK.nil_ ?_
          simp only [opsAt, filterMap_cons, filterMap_nil, getElem?_toArray, getElem?_cons_succ, getElem?_cons_zero]
          refine EffS.cons_ fun _ hQ => ?_
          go_wp2_with fail
          refine hQ _ _ hS9 (EffS.nil_ (SegV.mk (fun w' => Blk w' gt 40 C.toArray ∧ Blk w' (w.heap.size + 1) 34 ss'.toArray) (fun _ h => h) hS9 ?_))
          (refine HoistK.no (by rfl) (by kernel_rfl) ?_; simp only [Act.put, setIfInBounds_toArray, getElem_toArray, getElem_cons_succ, getElem_cons_zero, set_cons_succ, set_cons_zero])
          (refine HoistK.no (by rfl) (by kernel_rfl) ?_; simp only [Act.put, setIfInBounds_toArray, getElem_toArray, getElem_cons_succ, getElem_cons_zero, set_cons_succ, set_cons_zero])
          iterate 2 (refine HoistK.yes (by rfl) (by kernel_rfl) ⟨?_, fun w' hSw => ?_, ?_⟩; rotate_left; (· go_simp; try with_reducible rfl); simp only [Act.put, setIfInBounds_toArray, getElem_toArray, getElem_cons_succ, getElem_cons_zero, set_cons_succ, set_cons_zero])
          refine HoistK.nil_ ?_
          simp only [opsAt, filterMap_cons, filterMap_nil, getElem?_toArray, getElem?_cons_succ, getElem?_cons_zero]
          refine EffS.cons_ fun _ hQ => ?_
          go_wp2_with fail
          refine hQ _ _ hS9 (EffS.nil_ fun _ hQ => ?_)
          obtain ⟨haY, hya⟩ := HSA2.out HG0.out
          have haN : a < nY := by rw [HNY.out]; exact haY
          obtain ⟨b', off', D, rfl, HD, hDl⟩ := list_one (HLB.out) HNY.out haN
          have HD := Lib.hid (show ∀ w', Below w6.heap.size w6 w' → w'.rangeAt b' (off' + a * 41) D ∧ tTx.rep w' _ t D from fun w' h => by rw [← hya]; exact HD w' h)
          have HJD := Lib.hid (tx_size hDl)
          have HA2 := Lib.hid (show a + 1 = (stayX lb (encsX Dn) (X.take (k + 1))).length by rw [HSN.out, HG0.out, List.length_append, ← hak.out]; rfl)
          have HGT := Lib.hid hS9.1
          clear hak hya haY hDl hS9
          have hge : ¬ (nY : Int) ≤ (a : Int) := by omega
          have hge2 : ¬ nY ≤ a := by omega
          go_wp2_with fail
          have hbd := HB9.out.trans (((Below.refl w9.heap.size w9).drew).mono HB9.out.size)
          have hSS : w9.drew.rangeAt b' (off' + a * 41) D ∧ Blk w9.drew gt 40 C.toArray := ⟨(HD.out _ hbd).1, HGT.out.drew⟩
          refine wp_region_segsV [([0, 1, 2, 3, 4, 5, 6, 7, 8, 9], [10]), ([11], [12])] (by kernel_rfl) (by kernel_rfl) (by kernel_rfl) (by kernel_rfl)
            (SegV.mk (fun w' => w'.rangeAt b' (off' + a * 41) D ∧ Blk w' gt 40 C.toArray) (fun _ _ => trivial) hSS ?_)
          (refine HoistK.yes (by rfl) (by kernel_rfl) ⟨?_, fun w' hSw => ?_, ?_⟩; rotate_left; (· go_simp; try with_reducible rfl); simp only [Act.put, setIfInBounds_toArray, getElem_toArray, getElem_cons_zero, set_cons_succ, set_cons_zero])
          iterate 7 (refine HoistK.yes (by rfl) (by kernel_rfl) ⟨?_, fun w' hSw => ?_, ?_⟩; rotate_left; (· go_simp; try with_reducible rfl); simp only [Act.put, setIfInBounds_toArray, getElem_toArray, getElem_cons_succ, getElem_cons_zero, set_cons_succ, set_cons_zero])
          (refine HoistK.load (by rfl) (by kernel_rfl) 40 _ rfl b' (off' + a * 41) rfl D _ (fun w' hw => hw.1) Tryz.underlying40 rfl HJD.out ?_; simp only [Act.put, setIfInBounds_toArray, getElem_toArray, getElem_cons_succ, getElem_cons_zero, set_cons_succ, set_cons_zero])
          (refine HoistK.load (by rfl) (by kernel_rfl) 40 _ rfl gt 0 rfl C _ (fun w' hw => hw.2.range) Tryz.underlying40 rfl HJ.out ?_; simp only [Act.put, setIfInBounds_toArray, getElem_toArray, getElem_cons_succ, getElem_cons_zero, set_cons_succ, set_cons_zero])
          refine HoistK.nil_ ?_
          simp only [opsAt, filterMap_cons, filterMap_nil, getElem?_toArray, getElem?_cons_succ, getElem?_cons_zero]
          refine EffS.cons_ fun _ hQ => ?_
          go_wp2_with fail
          refine (rsame_any w9.drew (HD.out _ hbd).2 (HC.out _ hbd).2 HLT.out HLT.out).mono ?_
          rw [sameX_self]
          rintro e w12 ⟨rfl, hb12⟩
          have hb612 := hbd.trans (hb12.mono hbd.size)
          have hS12 : w12.rangeAt b' (off' + a * 41) D ∧ Blk w12 gt 40 C.toArray := ⟨(HD.out _ hb612).1, hSS.2.below hb12 hSS.2.lt⟩
          have HB12 := Lib.hid hb612
          clear hb12 hbd hSS hb612
          go_wp2_with fail
          refine hQ _ _ hS12 (EffS.nil_ (SegV.mk (fun w' => w'.rangeAt b' (off' + a * 41) D ∧ Blk w' gt 40 C.toArray) (fun _ h => h) hS12 ?_))
          (refine HoistK.yes (by rfl) (by kernel_rfl) ⟨?_, fun w' hSw => ?_, ?_⟩; rotate_left; (· go_simp; try with_reducible rfl); simp only [Act.put, setIfInBounds_toArray, getElem_toArray, getElem_cons_succ, getElem_cons_zero, set_cons_succ, set_cons_zero])
          refine HoistK.nil_ ?_
          simp only [opsAt, filterMap_cons, filterMap_nil, getElem?_toArray, getElem?_cons_succ, getElem?_cons_zero]
          refine EffS.cons_ fun _ hQ => ?_
          go_wp2_with fail
          refine hQ _ _ hS12 (EffS.nil_ fun _ hQ => ?_)
          clear hS12
          go_wp2_with fail
          exact ⟨⟨a + 1, k + 1, by omega, by omega, by push_cast; rfl, by push_cast; rfl, HA2, HB12⟩, by simp only [intOf]; omega⟩
        · (refine HoistK.yes (by rfl) (by kernel_rfl) ⟨?_, fun w' hSw => ?_, ?_⟩; rotate_left; (· go_simp; try with_reducible rfl); simp only [Act.put, setIfInBounds_toArray, getElem_toArray, getElem_cons_succ, getElem_cons_zero, set_cons_succ, set_cons_zero])
          (refine HoistK.yes (by rfl) (by kernel_rfl) ⟨?_, fun w' hSw => ?_, ?_⟩; rotate_left; (· go_simp; try with_reducible rfl); simp only [Act.put, setIfInBounds_toArray, getElem_toArray, getElem_cons_succ, getElem_cons_zero, set_cons_succ, set_cons_zero])
          (refine HoistK.yes (by rfl) (by kernel_rfl) ⟨?_, fun w' hSw => ?_, ?_⟩; rotate_left; (· have hcn := hSw.1.cell 4; rw [getElem?_toArray, HCN.out] at hcn; have hcf := hSw.1.cell 1; rw [getElem?_toArray, HCF.out] at hcf; go_simp; try with_reducible rfl); simp only [Act.put, setIfInBounds_toArray, getElem_toArray, getElem_cons_succ, getElem_cons_zero, set_cons_succ, set_cons_zero])
          (refine HoistK.load (by rfl) (by kernel_rfl) 34 _ rfl (w.heap.size + 1) 0 rfl ss' _ (fun w' hw => hw.2.range) Tryz.underlying34 rfl HSU.out ?_; simp only [Act.put, setIfInBounds_toArray, getElem_toArray, getElem_cons_succ, getElem_cons_zero, set_cons_succ, set_cons_zero])
          (refine HoistK.yes (by rfl) (by kernel_rfl) ⟨?_, fun w' hSw => ?_, ?_⟩; rotate_left; (· go_simp; try with_reducible rfl); simp only [Act.put, setIfInBounds_toArray, getElem_toArray, getElem_cons_succ, getElem_cons_zero, set_cons_succ, set_cons_zero])
          (refine HoistK.yes (by rfl) (by kernel_rfl) ⟨?_, fun w' hSw => ?_, ?_⟩; rotate_left; (· have hcn := hSw.1.cell 4; rw [getElem?_toArray, HCN.out] at hcn; have hcf := hSw.1.cell 1; rw [getElem?_toArray, HCF.out] at hcf; go_simp; try with_reducible rfl); simp only [Act.put, setIfInBounds_toArray, getElem_toArray, getElem_cons_succ, getElem_cons_zero, set_cons_succ, set_cons_zero])
          refine HoistK.nil_ ?_
          simp only [opsAt, filterMap_cons, filterMap_nil, getElem?_toArray, getElem?_cons_succ, getElem?_cons_zero]
          refine EffS.cons_ fun _ hQ => ?_
          go_wp2_with fail
          refine (account_any w9 (HWB.out _ HB9.out).2 f).mono ?_
          rintro e w10 ⟨rfl, hb10⟩
          have hb610 := HB9.out.trans (hb10.mono HB9.out.size)
          have hS10 : Blk w10 gt 40 C.toArray ∧ Blk w10 (w.heap.size + 1) 34 ss'.toArray := ⟨hS9.1.below hb10 hS9.1.lt, (HWB.out _ hb610).1⟩
          have HB10 := Lib.hid hb610
          obtain ⟨ac, hac⟩ : ∃ ac, ac = acctP lb f := ⟨_, rfl⟩
          rw [← hac] at HG0 ⊢
          clear hac hb10 hS9 hb610
          go_wp2_with fail
          refine hQ _ _ hS10 (EffS.nil_ (SegV.mk (fun w' => Blk w' gt 40 C.toArray ∧ Blk w' (w.heap.size + 1) 34 ss'.toArray) (fun _ h => h) hS10 ?_))
          by_cases hnb : nn < ac.2.2.1
          · have hd : decide (nn < ac.2.2.1) = true := decide_eq_true hnb
            rw [hd] at HG0
            (refine HoistK.yes (by rfl) (by kernel_rfl) ⟨?_, fun w' hSw => ?_, ?_⟩; rotate_left; (· have hfn := field_nonce ac w'; unfold acs; go_simp; try with_reducible rfl); simp only [Act.put, setIfInBounds_toArray, getElem_toArray, getElem_cons_succ, getElem_cons_zero, set_cons_succ, set_cons_zero])
            iterate 3 (refine HoistK.yes (by rfl) (by kernel_rfl) ⟨?_, fun w' hSw => ?_, ?_⟩; rotate_left; (· go_simp; try with_reducible rfl); simp only [Act.put, setIfInBounds_toArray, getElem_toArray, getElem_cons_succ, getElem_cons_zero, set_cons_succ, set_cons_zero])
            refine HoistK.nil_ ?_
            simp only [opsAt, filterMap_cons, filterMap_nil, getElem?_toArray, getElem?_cons_succ, getElem?_cons_zero]
            refine EffS.cons_ fun _ hQ => ?_
            go_wp2_with fail
            refine hQ _ _ hS10 (EffS.nil_ fun _ hQ => ?_)
            clear hS10
            have HA2 := Lib.hid (show a = (stayX lb (encsX Dn) (X.take (k + 1))).length by rw [HSN.out, HG0.out]; simpa using hak.out)
            clear hak
            go_wp2_with fail
            exact ⟨⟨a, k + 1, by omega, ha, rfl, by push_cast; rfl, HA2, HB10⟩, by simp only [intOf]; omega⟩
          · have hd : decide (nn < ac.2.2.1) = false := decide_eq_false hnb
            rw [hd] at HG0
            clear hnb
            (refine HoistK.yes (by rfl) (by kernel_rfl) ⟨?_, fun w' hSw => ?_, ?_⟩; rotate_left; (· have hfn := field_nonce ac w'; unfold acs; go_simp; try with_reducible rfl); simp only [Act.put, setIfInBounds_toArray, getElem_toArray, getElem_cons_succ, getElem_cons_zero, set_cons_succ, set_cons_zero])
            iterate 3 (refine HoistK.yes (by rfl) (by kernel_rfl) ⟨?_, fun w' hSw => ?_, ?_⟩; rotate_left; (· go_simp; try with_reducible rfl); simp only [Act.put, setIfInBounds_toArray, getElem_toArray, getElem_cons_succ, getElem_cons_zero, set_cons_succ, set_cons_zero])
            refine HoistK.nil_ ?_
            simp only [opsAt, filterMap_cons, filterMap_nil, getElem?_toArray, getElem?_cons_succ, getElem?_cons_zero]
            refine EffS.cons_ fun _ hQ => ?_
            go_wp2_with fail
            refine hQ _ _ hS10 (EffS.nil_ fun _ hQ => ?_)
            obtain ⟨haY, hya⟩ := HSA2.out HG0.out
            have haN : a < nY := by rw [HNY.out]; exact haY
            obtain ⟨b', off', D, rfl, HD, hDl⟩ := list_one (HLB.out) HNY.out haN
            have HD := Lib.hid (show ∀ w', Below w6.heap.size w6 w' → w'.rangeAt b' (off' + a * 41) D ∧ tTx.rep w' _ t D from fun w' h => by rw [← hya]; exact HD w' h)
            have HJD := Lib.hid (tx_size hDl)
            have HA2 := Lib.hid (show a + 1 = (stayX lb (encsX Dn) (X.take (k + 1))).length by rw [HSN.out, HG0.out, List.length_append, ← hak.out]; rfl)
            have HGT := Lib.hid hS10.1
            clear hak hya haY hDl hS10
            have hge : ¬ (nY : Int) ≤ (a : Int) := by omega
            have hge2 : ¬ nY ≤ a := by omega
            go_wp2_with fail
            have hbd := HB10.out.trans (((Below.refl w10.heap.size w10).drew).mono HB10.out.size)
            have hSS : w10.drew.rangeAt b' (off' + a * 41) D ∧ Blk w10.drew gt 40 C.toArray := ⟨(HD.out _ hbd).1, HGT.out.drew⟩
            refine wp_region_segsV [([0, 1, 2, 3, 4, 5, 6, 7, 8, 9], [10]), ([11], [12])] (by kernel_rfl) (by kernel_rfl) (by kernel_rfl) (by kernel_rfl)
              (SegV.mk (fun w' => w'.rangeAt b' (off' + a * 41) D ∧ Blk w' gt 40 C.toArray) (fun _ _ => trivial) hSS ?_)
            (refine HoistK.yes (by rfl) (by kernel_rfl) ⟨?_, fun w' hSw => ?_, ?_⟩; rotate_left; (· go_simp; try with_reducible rfl); simp only [Act.put, setIfInBounds_toArray, getElem_toArray, getElem_cons_zero, set_cons_succ, set_cons_zero])
            iterate 7 (refine HoistK.yes (by rfl) (by kernel_rfl) ⟨?_, fun w' hSw => ?_, ?_⟩; rotate_left; (· go_simp; try with_reducible rfl); simp only [Act.put, setIfInBounds_toArray, getElem_toArray, getElem_cons_succ, getElem_cons_zero, set_cons_succ, set_cons_zero])
            (refine HoistK.load (by rfl) (by kernel_rfl) 40 _ rfl b' (off' + a * 41) rfl D _ (fun w' hw => hw.1) Tryz.underlying40 rfl HJD.out ?_; simp only [Act.put, setIfInBounds_toArray, getElem_toArray, getElem_cons_succ, getElem_cons_zero, set_cons_succ, set_cons_zero])
            (refine HoistK.load (by rfl) (by kernel_rfl) 40 _ rfl gt 0 rfl C _ (fun w' hw => hw.2.range) Tryz.underlying40 rfl HJ.out ?_; simp only [Act.put, setIfInBounds_toArray, getElem_toArray, getElem_cons_succ, getElem_cons_zero, set_cons_succ, set_cons_zero])
            refine HoistK.nil_ ?_
            simp only [opsAt, filterMap_cons, filterMap_nil, getElem?_toArray, getElem?_cons_succ, getElem?_cons_zero]
            refine EffS.cons_ fun _ hQ => ?_
            go_wp2_with fail
            refine (rsame_any w10.drew (HD.out _ hbd).2 (HC.out _ hbd).2 HLT.out HLT.out).mono ?_
            rw [sameX_self]
            rintro e w12 ⟨rfl, hb12⟩
            have hb612 := hbd.trans (hb12.mono hbd.size)
            have hS12 : w12.rangeAt b' (off' + a * 41) D ∧ Blk w12 gt 40 C.toArray := ⟨(HD.out _ hb612).1, hSS.2.below hb12 hSS.2.lt⟩
            have HB12 := Lib.hid hb612
            clear hb12 hbd hSS hb612
            go_wp2_with fail
            refine hQ _ _ hS12 (EffS.nil_ (SegV.mk (fun w' => w'.rangeAt b' (off' + a * 41) D ∧ Blk w' gt 40 C.toArray) (fun _ h => h) hS12 ?_))
            (refine HoistK.yes (by rfl) (by kernel_rfl) ⟨?_, fun w' hSw => ?_, ?_⟩; rotate_left; (· go_simp; try with_reducible rfl); simp only [Act.put, setIfInBounds_toArray, getElem_toArray, getElem_cons_succ, getElem_cons_zero, set_cons_succ, set_cons_zero])
            refine HoistK.nil_ ?_
            simp only [opsAt, filterMap_cons, filterMap_nil, getElem?_toArray, getElem?_cons_succ, getElem?_cons_zero]
            refine EffS.cons_ fun _ hQ => ?_
            go_wp2_with fail
            refine hQ _ _ hS12 (EffS.nil_ fun _ hQ => ?_)
            clear hS12
            go_wp2_with fail
            exact ⟨⟨a + 1, k + 1, by omega, by omega, by push_cast; rfl, by push_cast; rfl, HA2, HB12⟩, by simp only [intOf]; omega⟩
      · have ek : k = nX := by omega
        subst ek
        have ea : a = nY := by
          have h := hak.out
          rw [HNX.out, List.take_length, ← HY.out, ← HNY.out] at h
          exact h
        subst ea
        have HBE := Lib.hid (HB6.out.trans (hb.out.mono HB6.out.size))
        clear hb hak
        go_wp2_with fail
        go_ret
        exact ⟨by simp, HBE.out⟩
  · have g3' := g3.symm
    clear g3
    subst g3'
    have hdc : (nX : Int) ≤ (cX : Int) := by omega
    have HLD := HLD0
    clear HLD0
    go_wp2_with (refine wpList_load_blk' rfl 34 _ rfl HZ4.out rfl Tryz.underlying34 rfl HSU.out ?_)
    have hst : ∀ w', Chg (fun b => vP.ownBlock = some b) w4 w' → StA w' S' lb ss' ∧ Pk w' sent := fun w' hc => by
      have h2 : Below w2.heap.size w2 w' := HP4.out.2.1.trans (hc.below HP4.out.2.1.size fun b hb => HP4.out.2.2.2 b hb)
      have h1 := HB2'.out.trans (h2.mono HB2'.out.size)
      exact ⟨HSB.out.below h1, HK.out.below h1⟩
    have HD := Lib.hid (poolDone_any w4 hst HP4.out.1 HLD.out (fun t ht => HLEX.out t (HDX.out t ht)))
    clear hst
    refine HD.out.mono ?_
    rintro e w5 ⟨v5, rfl, hob, hp5, hc5⟩
    obtain ⟨Y, hY⟩ : ∃ Y, Y = stayX lb (encsX Dn) X := ⟨_, rfl⟩
    rw [← hY] at hp5
    have HY := Lib.hid hY
    have hy32 : Y.length ≤ 32 := by have h1 := hp5.1.1; have h2 := hp5.1.2.1; rw [List.length_map] at h2; omega
    have HYW := Lib.hid (show wellX Y from hp5.2)
    have HPB := Lib.hid (HP4.out.to hp5 hc5 (.inl hob))
    have hno : ∀ b, w3.heap.size ≤ b → ¬ (b = gP ∨ vP.ownBlock = some b) := fun b hb h => by
      rcases h with h | h
      · have := HGV.out.1; omega
      · have := HGV.out.2 b h; omega
    have HLA5 := Lib.hid (Sh.rep_chg HLA.out hc5 hno)
    have HLD5 := Lib.hid (Sh.rep_chg HLD.out hc5 hno)
    have HZ5 := Lib.hid (show Blk w5 (w.heap.size + 1) 34 ss'.toArray from blk_low HZ2'.out HPB.out.2.1)
    have HB5 := Lib.hid (HB2'.out.trans (HPB.out.2.1.mono HB2'.out.size))
    clear hY hp5 hc5 hob hno HLA HLD HD HP4 HZ4 HB4
    go_wp2_with fail
    refine (poolAll_any w5 HPB.out.1 (HK.out.below HB5.out)).mono ?_
    rintro e w6 ⟨vB, rfl, htx, hb⟩
    have HLB := Lib.hid htx.2.list
    have HLA6 := Lib.hid (Sh.rep_below HLA5.out hb)
    have HLD6 := Lib.hid (Sh.rep_below HLD5.out hb)
    have HZ6 := Lib.hid (HZ5.out.below hb HZ5.out.lt)
    have HB6 := Lib.hid (HB5.out.trans (hb.mono HB5.out.size))
    clear htx hb HLA5 HLD5 HZ5 HB5 HPB
    obtain ⟨AB, cB, rfl, -, -⟩ := list_at HLB.out
    obtain ⟨nY, hnY⟩ : ∃ n, n = Y.length := ⟨_, rfl⟩
    rw [← hnY] at HLB hy32 ⊢
    have HNY := Lib.hid hnY
    have HLEY := Lib.hid (show ∀ t ∈ Y, (tTx.enc t).length ≤ 1099511627776 from fun t ht => by have := (HYW.out t ht).2; omega)
    have HWB := Lib.hid (show ∀ w', Below w6.heap.size w6 w' → Blk w' (w.heap.size + 1) 34 ss'.toArray ∧ StA w' S' lb ss' from fun w' h => ⟨blk_low HZ6.out h, StA.below (HSB.out.below HB6.out) h⟩)
    clear hnY
    go_wp2_with fail
    go_loopw [15, 51] (fun at_ i wr => ∃ a k : Nat, k ≤ nX ∧ a ≤ nY ∧ at_ = .int .i64 a ∧ i = .int .i64 k ∧ Hid (a = (stayX lb (encsX Dn) (X.take k)).length) ∧ Hid (Below w6.heap.size w6 wr)) (fun _ i _ => nX - (intOf i).toNat)
    case atStart => exact ⟨0, 0, Nat.zero_le _, Nat.zero_le _, rfl, rfl, Lib.hid rfl, Lib.hid (Below.refl _ _)⟩
    case round =>
      obtain ⟨a, k, hk, ha, rfl, rfl, hak, hb⟩ := hrel
      by_cases hlt : k < nX
      · have hkX : k < X.length := by rw [← HNX.out]; exact hlt
        obtain ⟨b, off, C, hAX, HC, hCl⟩ := list_one (HLA6.out) HNX.out hlt
        subst hAX
        have HSN := Lib.hid (stayX_snoc lb (encsX Dn) X hkX)
        have HSA2 := Lib.hid (show goneP lb (encsX Dn) X[k] = false → ∃ h : a < Y.length, Y[a] = X[k] from fun h => by
          obtain ⟨h1, h2⟩ := stay_at hkX h
          rw [hak.out]
          simp only [HY.out]
          exact ⟨h1, h2⟩)
        have HLT := Lib.hid (HLEX.out _ (List.getElem_mem hkX))
        obtain ⟨t, ht⟩ : ∃ t, t = X[k] := ⟨_, rfl⟩
        rw [← ht] at HSN HSA2 HLT
        have HC := Lib.hid (show ∀ w', Below w6.heap.size w6 w' → w'.rangeAt b (off + k * 41) C ∧ tTx.rep w' _ t C from fun w' h => by rw [ht]; exact HC w' h)
        have HJ := Lib.hid (tx_size hCl)
        have HCL := Lib.hid hCl
        have HRC := Lib.hid (HC.out _ hb.out).1
        have HC1 := Lib.hid (Sh.rep_one _ _ _ (HC.out _ hb.out).2)
        have hcs := tx_cells (HC.out _ hb.out).2
        obtain ⟨f, hf⟩ : ∃ f, f = fromX t := ⟨_, rfl⟩
        obtain ⟨nn, hnn⟩ : ∃ nn, nn = nonceX t := ⟨_, rfl⟩
        rw [← hf, ← hnn] at hcs
        have HG0 := Lib.hid (show goneP lb (encsX Dn) t = (inX Dn t || (spendsX t && decide (nn < (acctP lb f).2.2.1))) by rw [inX_iff, hf, hnn]; rfl)
        have HCF := Lib.hid hcs.2.1
        have HCN := Lib.hid hcs.2.2.1
        clear ht hkX hCl hcs hf hnn
        go_wp2_with (first
          | (refine wpList_load_mid rfl 40 _ rfl b (off + k * 41) rfl C _ HRC.out Tryz.underlying40 rfl HJ.out ?_)
          | (refine wpList_store_blk (cs0 := [.int .i64 0, .int .u64 0, .int .u64 0, .int .u64 0, .int .u64 0, .int .i64 0, .int .i64 0] ++ List.replicate 32 (.int .u8 0) ++ [.int .i64 0, .slice none 0 0]) (cs := C) rfl 40 _ _ rfl (Blk.new wr _ _) rfl rfl (by rw [HCL.out]; rfl) HJ.out HC1.out ?_; intro w7 hb7 hc7; have HB7 := Lib.hid hb7; have HC7 := Lib.hid hc7; clear hb7 hc7))
        have hal1 := (Below.refl wr.heap.size wr).alloc (Nat.le_refl _) (.cells (([.int .i64 0, .int .u64 0, .int .u64 0, .int .u64 0, .int .u64 0, .int .i64 0, .int .i64 0] ++ List.replicate 32 (.int .u8 0) ++ [.int .i64 0, .slice none 0 0] : List Value)).toArray 40)
        have hw7 := hb.out.trans ((hal1.trans (HC7.out.below hal1.size fun k hk => Nat.le_of_eq hk.symm)).mono hb.out.size)
        have hbd := hw7.trans (((Below.refl w7.heap.size w7).drew).mono hw7.size)
        obtain ⟨gt, hgt⟩ : ∃ gt, gt = wr.heap.size := ⟨_, rfl⟩
        rw [← hgt] at HB7 ⊢
        have hSS : Blk w7.drew gt 40 C.toArray ∧ Blk w7.drew (w.heap.size + 1) 34 ss'.toArray := ⟨HB7.out.drew, (HWB.out _ hbd).1⟩
        have HIN := Lib.hid (rin_any w7.drew (Sh.rep_below HLD6.out hbd) (HC.out _ hbd).2 (fun t ht => HLEX.out t (HDX.out t ht)) HLT.out)
        clear hal1 hw7 hb hgt HB7 HC7
        refine wp_region_segsV [([0, 1], [2]), ([3, 4], [5]), ([6, 7, 8, 9, 10, 11], [12]), ([13, 14, 15, 16], [17])] (by kernel_rfl) (by kernel_rfl) (by kernel_rfl) (by kernel_rfl)
          (SegV.mk (fun w' => Blk w' gt 40 C.toArray ∧ Blk w' (w.heap.size + 1) 34 ss'.toArray) (fun _ _ => trivial) hSS ?_)
        (refine HoistK.yes (by rfl) (by kernel_rfl) ⟨?_, fun w' hSw => ?_, ?_⟩; rotate_left; (· go_simp; try with_reducible rfl); simp only [Act.put, setIfInBounds_toArray, getElem_toArray, getElem_cons_zero, set_cons_succ, set_cons_zero])
        (refine HoistK.load (by rfl) (by kernel_rfl) 40 _ rfl gt 0 rfl C _ (fun w' hw => hw.1.range) Tryz.underlying40 rfl HJ.out ?_; simp only [Act.put, setIfInBounds_toArray, getElem_toArray, getElem_cons_succ, getElem_cons_zero, set_cons_succ, set_cons_zero])
        refine HoistK.nil_ ?_
        simp only [opsAt, filterMap_cons, filterMap_nil, getElem?_toArray, getElem?_cons_succ, getElem?_cons_zero]
        refine EffS.cons_ fun _ hQ => ?_
        go_wp2_with fail
        refine HIN.out.mono ?_
        rintro e w8 ⟨rfl, hb8⟩
        have hb68 := hbd.trans (hb8.mono hbd.size)
        have hS8 : Blk w8 gt 40 C.toArray ∧ Blk w8 (w.heap.size + 1) 34 ss'.toArray := ⟨hSS.1.below hb8 hSS.1.lt, (HWB.out _ hb68).1⟩
        have HB8 := Lib.hid hb68
        obtain ⟨q1, hq1⟩ : ∃ q, q = inX Dn t := ⟨_, rfl⟩
        rw [← hq1] at HG0 ⊢
        clear hq1 hbd hb8 hSS hb68 HIN
        go_wp2_with fail
        refine hQ _ _ hS8 (EffS.nil_ (SegV.mk (fun w' => Blk w' gt 40 C.toArray ∧ Blk w' (w.heap.size + 1) 34 ss'.toArray) (fun _ h => h) hS8 ?_))
        cases q1
        rotate_left
        · (refine HoistK.yes (by rfl) (by kernel_rfl) ⟨?_, fun w' hSw => ?_, ?_⟩; rotate_left; (· go_simp; try with_reducible rfl); simp only [Act.put, setIfInBounds_toArray, getElem_toArray, getElem_cons_succ, getElem_cons_zero, set_cons_succ, set_cons_zero])
          (refine HoistK.no (by rfl) (by kernel_rfl) ?_; simp only [Act.put, setIfInBounds_toArray, getElem_toArray, getElem_cons_succ, getElem_cons_zero, set_cons_succ, set_cons_zero])
          refine HoistK.nil_ ?_
          simp only [opsAt, filterMap_cons, filterMap_nil, getElem?_toArray, getElem?_cons_succ, getElem?_cons_zero]
          refine EffS.cons_ fun _ hQ => ?_
          go_wp2_with fail
          refine hQ _ _ hS8 (EffS.nil_ (SegV.mk (fun w' => Blk w' gt 40 C.toArray ∧ Blk w' (w.heap.size + 1) 34 ss'.toArray) (fun _ h => h) hS8 ?_))
          (refine HoistK.no (by rfl) (by kernel_rfl) ?_; simp only [Act.put, setIfInBounds_toArray, getElem_toArray, getElem_cons_succ, getElem_cons_zero, set_cons_succ, set_cons_zero])
          (refine HoistK.no (by rfl) (by kernel_rfl) ?_; simp only [Act.put, setIfInBounds_toArray, getElem_toArray, getElem_cons_succ, getElem_cons_zero, set_cons_succ, set_cons_zero])
          (refine HoistK.no (by rfl) (by kernel_rfl) ?_; simp only [Act.put, setIfInBounds_toArray, getElem_toArray, getElem_cons_succ, getElem_cons_zero, set_cons_succ, set_cons_zero])
          (refine HoistK.no (by rfl) (by kernel_rfl) ?_; simp only [Act.put, setIfInBounds_toArray, getElem_toArray, getElem_cons_succ, getElem_cons_zero, set_cons_succ, set_cons_zero])
          (refine HoistK.no (by rfl) (by kernel_rfl) ?_; simp only [Act.put, setIfInBounds_toArray, getElem_toArray, getElem_cons_succ, getElem_cons_zero, set_cons_succ, set_cons_zero])
          (refine HoistK.no (by rfl) (by kernel_rfl) ?_; simp only [Act.put, setIfInBounds_toArray, getElem_toArray, getElem_cons_succ, getElem_cons_zero, set_cons_succ, set_cons_zero])
          refine HoistK.nil_ ?_
          simp only [opsAt, filterMap_cons, filterMap_nil, getElem?_toArray, getElem?_cons_succ, getElem?_cons_zero]
          refine EffS.cons_ fun _ hQ => ?_
          go_wp2_with fail
          refine hQ _ _ hS8 (EffS.nil_ (SegV.mk (fun w' => Blk w' gt 40 C.toArray ∧ Blk w' (w.heap.size + 1) 34 ss'.toArray) (fun _ h => h) hS8 ?_))
          (refine HoistK.no (by rfl) (by kernel_rfl) ?_; simp only [Act.put, setIfInBounds_toArray, getElem_toArray, getElem_cons_succ, getElem_cons_zero, set_cons_succ, set_cons_zero])
          (refine HoistK.no (by rfl) (by kernel_rfl) ?_; simp only [Act.put, setIfInBounds_toArray, getElem_toArray, getElem_cons_succ, getElem_cons_zero, set_cons_succ, set_cons_zero])
          (refine HoistK.no (by rfl) (by kernel_rfl) ?_; simp only [Act.put, setIfInBounds_toArray, getElem_toArray, getElem_cons_succ, getElem_cons_zero, set_cons_succ, set_cons_zero])
          (refine HoistK.yes (by rfl) (by kernel_rfl) ⟨?_, fun w' hSw => ?_, ?_⟩; rotate_left; (· go_simp; try with_reducible rfl); simp only [Act.put, setIfInBounds_toArray, getElem_toArray, getElem_cons_succ, getElem_cons_zero, set_cons_succ, set_cons_zero])
          refine HoistK.nil_ ?_
          simp only [opsAt, filterMap_cons, filterMap_nil, getElem?_toArray, getElem?_cons_succ, getElem?_cons_zero]
          refine EffS.cons_ fun _ hQ => ?_
          go_wp2_with fail
          refine hQ _ _ hS8 (EffS.nil_ fun _ hQ => ?_)
          clear hS8
          have HA2 := Lib.hid (show a = (stayX lb (encsX Dn) (X.take (k + 1))).length by rw [HSN.out, HG0.out]; simpa using hak.out)
          clear hak
          go_wp2_with fail
          exact ⟨⟨a, k + 1, by omega, ha, rfl, by push_cast; rfl, HA2, HB8⟩, by simp only [intOf]; omega⟩
        (refine HoistK.yes (by rfl) (by kernel_rfl) ⟨?_, fun w' hSw => ?_, ?_⟩; rotate_left; (· go_simp; try with_reducible rfl); simp only [Act.put, setIfInBounds_toArray, getElem_toArray, getElem_cons_succ, getElem_cons_zero, set_cons_succ, set_cons_zero])
        (refine HoistK.load (by rfl) (by kernel_rfl) 40 _ rfl gt 0 rfl C _ (fun w' hw => hw.1.range) Tryz.underlying40 rfl HJ.out ?_; simp only [Act.put, setIfInBounds_toArray, getElem_toArray, getElem_cons_succ, getElem_cons_zero, set_cons_succ, set_cons_zero])
        refine HoistK.nil_ ?_
        simp only [opsAt, filterMap_cons, filterMap_nil, getElem?_toArray, getElem?_cons_succ, getElem?_cons_zero]
        refine EffS.cons_ fun _ hQ => ?_
        go_wp2_with fail
        refine (rspends_any w8 (HC.out _ HB8.out).2).mono ?_
        rintro e w9 ⟨rfl, hb9⟩
        have hb69 := HB8.out.trans (hb9.mono HB8.out.size)
        have hS9 : Blk w9 gt 40 C.toArray ∧ Blk w9 (w.heap.size + 1) 34 ss'.toArray := ⟨hS8.1.below hb9 hS8.1.lt, (HWB.out _ hb69).1⟩
        have HB9 := Lib.hid hb69
        obtain ⟨q2, hq2⟩ : ∃ q, q = spendsX t := ⟨_, rfl⟩
        rw [← hq2] at HG0 ⊢
        clear hq2 hb9 hS8 hb69
        go_wp2_with fail
        refine hQ _ _ hS9 (EffS.nil_ (SegV.mk (fun w' => Blk w' gt 40 C.toArray ∧ Blk w' (w.heap.size + 1) 34 ss'.toArray) (fun _ h => h) hS9 ?_))
        have hex : ∃ w10 : World, Blk w10 gt 40 C.toArray ∧ Below w6.heap.size w6 w10 := ⟨w9, hS9.1, HB9.out⟩
        clear hex
        cases q2
        · (refine HoistK.yes (by rfl) (by kernel_rfl) ⟨?_, fun w' hSw => ?_, ?_⟩; rotate_left; (· go_simp; try with_reducible rfl); simp only [Act.put, setIfInBounds_toArray, getElem_toArray, getElem_cons_succ, getElem_cons_zero, set_cons_succ, set_cons_zero])
          (refine HoistK.no (by rfl) (by kernel_rfl) ?_; simp only [Act.put, setIfInBounds_toArray, getElem_toArray, getElem_cons_succ, getElem_cons_zero, set_cons_succ, set_cons_zero])
          (refine HoistK.no (by rfl) (by kernel_rfl) ?_; simp only [Act.put, setIfInBounds_toArray, getElem_toArray, getElem_cons_succ, getElem_cons_zero, set_cons_succ, set_cons_zero])
          (refine HoistK.no (by rfl) (by kernel_rfl) ?_; simp only [Act.put, setIfInBounds_toArray, getElem_toArray, getElem_cons_succ, getElem_cons_zero, set_cons_succ, set_cons_zero])
          (refine HoistK.no (by rfl) (by kernel_rfl) ?_; simp only [Act.put, setIfInBounds_toArray, getElem_toArray, getElem_cons_succ, getElem_cons_zero, set_cons_succ, set_cons_zero])
          (refine HoistK.no (by rfl) (by kernel_rfl) ?_; simp only [Act.put, setIfInBounds_toArray, getElem_toArray, getElem_cons_succ, getElem_cons_zero, set_cons_succ, set_cons_zero])
          refine HoistK.nil_ ?_
          simp only [opsAt, filterMap_cons, filterMap_nil, getElem?_toArray, getElem?_cons_succ, getElem?_cons_zero]
          refine EffS.cons_ fun _ hQ => ?_
          go_wp2_with fail
          refine hQ _ _ hS9 (EffS.nil_ (SegV.mk (fun w' => Blk w' gt 40 C.toArray ∧ Blk w' (w.heap.size + 1) 34 ss'.toArray) (fun _ h => h) hS9 ?_))
          (refine HoistK.no (by rfl) (by kernel_rfl) ?_; simp only [Act.put, setIfInBounds_toArray, getElem_toArray, getElem_cons_succ, getElem_cons_zero, set_cons_succ, set_cons_zero])
          (refine HoistK.no (by rfl) (by kernel_rfl) ?_; simp only [Act.put, setIfInBounds_toArray, getElem_toArray, getElem_cons_succ, getElem_cons_zero, set_cons_succ, set_cons_zero])
          iterate 2 (refine HoistK.yes (by rfl) (by kernel_rfl) ⟨?_, fun w' hSw => ?_, ?_⟩; rotate_left; (· go_simp; try with_reducible rfl); simp only [Act.put, setIfInBounds_toArray, getElem_toArray, getElem_cons_succ, getElem_cons_zero, set_cons_succ, set_cons_zero])
          refine HoistK.nil_ ?_
          simp only [opsAt, filterMap_cons, filterMap_nil, getElem?_toArray, getElem?_cons_succ, getElem?_cons_zero]
          refine EffS.cons_ fun _ hQ => ?_
          go_wp2_with fail
          refine hQ _ _ hS9 (EffS.nil_ fun _ hQ => ?_)
          obtain ⟨haY, hya⟩ := HSA2.out HG0.out
          have haN : a < nY := by rw [HNY.out]; exact haY
          obtain ⟨b', off', D, rfl, HD, hDl⟩ := list_one (HLB.out) HNY.out haN
          have HD := Lib.hid (show ∀ w', Below w6.heap.size w6 w' → w'.rangeAt b' (off' + a * 41) D ∧ tTx.rep w' _ t D from fun w' h => by rw [← hya]; exact HD w' h)
          have HJD := Lib.hid (tx_size hDl)
          have HA2 := Lib.hid (show a + 1 = (stayX lb (encsX Dn) (X.take (k + 1))).length by rw [HSN.out, HG0.out, List.length_append, ← hak.out]; rfl)
          have HGT := Lib.hid hS9.1
          clear hak hya haY hDl hS9
          have hge : ¬ (nY : Int) ≤ (a : Int) := by omega
          have hge2 : ¬ nY ≤ a := by omega
          go_wp2_with fail
          have hbd := HB9.out.trans (((Below.refl w9.heap.size w9).drew).mono HB9.out.size)
          have hSS : w9.drew.rangeAt b' (off' + a * 41) D ∧ Blk w9.drew gt 40 C.toArray := ⟨(HD.out _ hbd).1, HGT.out.drew⟩
          refine wp_region_segsV [([0, 1, 2, 3, 4, 5, 6, 7, 8, 9], [10]), ([11], [12])] (by kernel_rfl) (by kernel_rfl) (by kernel_rfl) (by kernel_rfl)
            (SegV.mk (fun w' => w'.rangeAt b' (off' + a * 41) D ∧ Blk w' gt 40 C.toArray) (fun _ _ => trivial) hSS ?_)
          (refine HoistK.yes (by rfl) (by kernel_rfl) ⟨?_, fun w' hSw => ?_, ?_⟩; rotate_left; (· go_simp; try with_reducible rfl); simp only [Act.put, setIfInBounds_toArray, getElem_toArray, getElem_cons_zero, set_cons_succ, set_cons_zero])
          iterate 7 (refine HoistK.yes (by rfl) (by kernel_rfl) ⟨?_, fun w' hSw => ?_, ?_⟩; rotate_left; (· go_simp; try with_reducible rfl); simp only [Act.put, setIfInBounds_toArray, getElem_toArray, getElem_cons_succ, getElem_cons_zero, set_cons_succ, set_cons_zero])
          (refine HoistK.load (by rfl) (by kernel_rfl) 40 _ rfl b' (off' + a * 41) rfl D _ (fun w' hw => hw.1) Tryz.underlying40 rfl HJD.out ?_; simp only [Act.put, setIfInBounds_toArray, getElem_toArray, getElem_cons_succ, getElem_cons_zero, set_cons_succ, set_cons_zero])
          (refine HoistK.load (by rfl) (by kernel_rfl) 40 _ rfl gt 0 rfl C _ (fun w' hw => hw.2.range) Tryz.underlying40 rfl HJ.out ?_; simp only [Act.put, setIfInBounds_toArray, getElem_toArray, getElem_cons_succ, getElem_cons_zero, set_cons_succ, set_cons_zero])
          refine HoistK.nil_ ?_
          simp only [opsAt, filterMap_cons, filterMap_nil, getElem?_toArray, getElem?_cons_succ, getElem?_cons_zero]
          refine EffS.cons_ fun _ hQ => ?_
          go_wp2_with fail
          refine (rsame_any w9.drew (HD.out _ hbd).2 (HC.out _ hbd).2 HLT.out HLT.out).mono ?_
          rw [sameX_self]
          rintro e w12 ⟨rfl, hb12⟩
          have hb612 := hbd.trans (hb12.mono hbd.size)
          have hS12 : w12.rangeAt b' (off' + a * 41) D ∧ Blk w12 gt 40 C.toArray := ⟨(HD.out _ hb612).1, hSS.2.below hb12 hSS.2.lt⟩
          have HB12 := Lib.hid hb612
          clear hb12 hbd hSS hb612
          go_wp2_with fail
          refine hQ _ _ hS12 (EffS.nil_ (SegV.mk (fun w' => w'.rangeAt b' (off' + a * 41) D ∧ Blk w' gt 40 C.toArray) (fun _ h => h) hS12 ?_))
          (refine HoistK.yes (by rfl) (by kernel_rfl) ⟨?_, fun w' hSw => ?_, ?_⟩; rotate_left; (· go_simp; try with_reducible rfl); simp only [Act.put, setIfInBounds_toArray, getElem_toArray, getElem_cons_succ, getElem_cons_zero, set_cons_succ, set_cons_zero])
          refine HoistK.nil_ ?_
          simp only [opsAt, filterMap_cons, filterMap_nil, getElem?_toArray, getElem?_cons_succ, getElem?_cons_zero]
          refine EffS.cons_ fun _ hQ => ?_
          go_wp2_with fail
          refine hQ _ _ hS12 (EffS.nil_ fun _ hQ => ?_)
          clear hS12
          go_wp2_with fail
          exact ⟨⟨a + 1, k + 1, by omega, by omega, by push_cast; rfl, by push_cast; rfl, HA2, HB12⟩, by simp only [intOf]; omega⟩
        · (refine HoistK.yes (by rfl) (by kernel_rfl) ⟨?_, fun w' hSw => ?_, ?_⟩; rotate_left; (· go_simp; try with_reducible rfl); simp only [Act.put, setIfInBounds_toArray, getElem_toArray, getElem_cons_succ, getElem_cons_zero, set_cons_succ, set_cons_zero])
          (refine HoistK.yes (by rfl) (by kernel_rfl) ⟨?_, fun w' hSw => ?_, ?_⟩; rotate_left; (· go_simp; try with_reducible rfl); simp only [Act.put, setIfInBounds_toArray, getElem_toArray, getElem_cons_succ, getElem_cons_zero, set_cons_succ, set_cons_zero])
          (refine HoistK.yes (by rfl) (by kernel_rfl) ⟨?_, fun w' hSw => ?_, ?_⟩; rotate_left; (· have hcn := hSw.1.cell 4; rw [getElem?_toArray, HCN.out] at hcn; have hcf := hSw.1.cell 1; rw [getElem?_toArray, HCF.out] at hcf; go_simp; try with_reducible rfl); simp only [Act.put, setIfInBounds_toArray, getElem_toArray, getElem_cons_succ, getElem_cons_zero, set_cons_succ, set_cons_zero])
          (refine HoistK.load (by rfl) (by kernel_rfl) 34 _ rfl (w.heap.size + 1) 0 rfl ss' _ (fun w' hw => hw.2.range) Tryz.underlying34 rfl HSU.out ?_; simp only [Act.put, setIfInBounds_toArray, getElem_toArray, getElem_cons_succ, getElem_cons_zero, set_cons_succ, set_cons_zero])
          (refine HoistK.yes (by rfl) (by kernel_rfl) ⟨?_, fun w' hSw => ?_, ?_⟩; rotate_left; (· go_simp; try with_reducible rfl); simp only [Act.put, setIfInBounds_toArray, getElem_toArray, getElem_cons_succ, getElem_cons_zero, set_cons_succ, set_cons_zero])
          (refine HoistK.yes (by rfl) (by kernel_rfl) ⟨?_, fun w' hSw => ?_, ?_⟩; rotate_left; (· have hcn := hSw.1.cell 4; rw [getElem?_toArray, HCN.out] at hcn; have hcf := hSw.1.cell 1; rw [getElem?_toArray, HCF.out] at hcf; go_simp; try with_reducible rfl); simp only [Act.put, setIfInBounds_toArray, getElem_toArray, getElem_cons_succ, getElem_cons_zero, set_cons_succ, set_cons_zero])
          refine HoistK.nil_ ?_
          simp only [opsAt, filterMap_cons, filterMap_nil, getElem?_toArray, getElem?_cons_succ, getElem?_cons_zero]
          refine EffS.cons_ fun _ hQ => ?_
          go_wp2_with fail
          refine (account_any w9 (HWB.out _ HB9.out).2 f).mono ?_
          rintro e w10 ⟨rfl, hb10⟩
          have hb610 := HB9.out.trans (hb10.mono HB9.out.size)
          have hS10 : Blk w10 gt 40 C.toArray ∧ Blk w10 (w.heap.size + 1) 34 ss'.toArray := ⟨hS9.1.below hb10 hS9.1.lt, (HWB.out _ hb610).1⟩
          have HB10 := Lib.hid hb610
          obtain ⟨ac, hac⟩ : ∃ ac, ac = acctP lb f := ⟨_, rfl⟩
          rw [← hac] at HG0 ⊢
          clear hac hb10 hS9 hb610
          go_wp2_with fail
          refine hQ _ _ hS10 (EffS.nil_ (SegV.mk (fun w' => Blk w' gt 40 C.toArray ∧ Blk w' (w.heap.size + 1) 34 ss'.toArray) (fun _ h => h) hS10 ?_))
          by_cases hnb : nn < ac.2.2.1
          · have hd : decide (nn < ac.2.2.1) = true := decide_eq_true hnb
            rw [hd] at HG0
            (refine HoistK.yes (by rfl) (by kernel_rfl) ⟨?_, fun w' hSw => ?_, ?_⟩; rotate_left; (· have hfn := field_nonce ac w'; unfold acs; go_simp; try with_reducible rfl); simp only [Act.put, setIfInBounds_toArray, getElem_toArray, getElem_cons_succ, getElem_cons_zero, set_cons_succ, set_cons_zero])
            iterate 3 (refine HoistK.yes (by rfl) (by kernel_rfl) ⟨?_, fun w' hSw => ?_, ?_⟩; rotate_left; (· go_simp; try with_reducible rfl); simp only [Act.put, setIfInBounds_toArray, getElem_toArray, getElem_cons_succ, getElem_cons_zero, set_cons_succ, set_cons_zero])
            refine HoistK.nil_ ?_
            simp only [opsAt, filterMap_cons, filterMap_nil, getElem?_toArray, getElem?_cons_succ, getElem?_cons_zero]
            refine EffS.cons_ fun _ hQ => ?_
            go_wp2_with fail
            refine hQ _ _ hS10 (EffS.nil_ fun _ hQ => ?_)
            clear hS10
            have HA2 := Lib.hid (show a = (stayX lb (encsX Dn) (X.take (k + 1))).length by rw [HSN.out, HG0.out]; simpa using hak.out)
            clear hak
            go_wp2_with fail
            exact ⟨⟨a, k + 1, by omega, ha, rfl, by push_cast; rfl, HA2, HB10⟩, by simp only [intOf]; omega⟩
          · have hd : decide (nn < ac.2.2.1) = false := decide_eq_false hnb
            rw [hd] at HG0
            clear hnb
            (refine HoistK.yes (by rfl) (by kernel_rfl) ⟨?_, fun w' hSw => ?_, ?_⟩; rotate_left; (· have hfn := field_nonce ac w'; unfold acs; go_simp; try with_reducible rfl); simp only [Act.put, setIfInBounds_toArray, getElem_toArray, getElem_cons_succ, getElem_cons_zero, set_cons_succ, set_cons_zero])
            iterate 3 (refine HoistK.yes (by rfl) (by kernel_rfl) ⟨?_, fun w' hSw => ?_, ?_⟩; rotate_left; (· go_simp; try with_reducible rfl); simp only [Act.put, setIfInBounds_toArray, getElem_toArray, getElem_cons_succ, getElem_cons_zero, set_cons_succ, set_cons_zero])
            refine HoistK.nil_ ?_
            simp only [opsAt, filterMap_cons, filterMap_nil, getElem?_toArray, getElem?_cons_succ, getElem?_cons_zero]
            refine EffS.cons_ fun _ hQ => ?_
            go_wp2_with fail
            refine hQ _ _ hS10 (EffS.nil_ fun _ hQ => ?_)
            obtain ⟨haY, hya⟩ := HSA2.out HG0.out
            have haN : a < nY := by rw [HNY.out]; exact haY
            obtain ⟨b', off', D, rfl, HD, hDl⟩ := list_one (HLB.out) HNY.out haN
            have HD := Lib.hid (show ∀ w', Below w6.heap.size w6 w' → w'.rangeAt b' (off' + a * 41) D ∧ tTx.rep w' _ t D from fun w' h => by rw [← hya]; exact HD w' h)
            have HJD := Lib.hid (tx_size hDl)
            have HA2 := Lib.hid (show a + 1 = (stayX lb (encsX Dn) (X.take (k + 1))).length by rw [HSN.out, HG0.out, List.length_append, ← hak.out]; rfl)
            have HGT := Lib.hid hS10.1
            clear hak hya haY hDl hS10
            have hge : ¬ (nY : Int) ≤ (a : Int) := by omega
            have hge2 : ¬ nY ≤ a := by omega
            go_wp2_with fail
            have hbd := HB10.out.trans (((Below.refl w10.heap.size w10).drew).mono HB10.out.size)
            have hSS : w10.drew.rangeAt b' (off' + a * 41) D ∧ Blk w10.drew gt 40 C.toArray := ⟨(HD.out _ hbd).1, HGT.out.drew⟩
            refine wp_region_segsV [([0, 1, 2, 3, 4, 5, 6, 7, 8, 9], [10]), ([11], [12])] (by kernel_rfl) (by kernel_rfl) (by kernel_rfl) (by kernel_rfl)
              (SegV.mk (fun w' => w'.rangeAt b' (off' + a * 41) D ∧ Blk w' gt 40 C.toArray) (fun _ _ => trivial) hSS ?_)
            (refine HoistK.yes (by rfl) (by kernel_rfl) ⟨?_, fun w' hSw => ?_, ?_⟩; rotate_left; (· go_simp; try with_reducible rfl); simp only [Act.put, setIfInBounds_toArray, getElem_toArray, getElem_cons_zero, set_cons_succ, set_cons_zero])
            iterate 7 (refine HoistK.yes (by rfl) (by kernel_rfl) ⟨?_, fun w' hSw => ?_, ?_⟩; rotate_left; (· go_simp; try with_reducible rfl); simp only [Act.put, setIfInBounds_toArray, getElem_toArray, getElem_cons_succ, getElem_cons_zero, set_cons_succ, set_cons_zero])
            (refine HoistK.load (by rfl) (by kernel_rfl) 40 _ rfl b' (off' + a * 41) rfl D _ (fun w' hw => hw.1) Tryz.underlying40 rfl HJD.out ?_; simp only [Act.put, setIfInBounds_toArray, getElem_toArray, getElem_cons_succ, getElem_cons_zero, set_cons_succ, set_cons_zero])
            (refine HoistK.load (by rfl) (by kernel_rfl) 40 _ rfl gt 0 rfl C _ (fun w' hw => hw.2.range) Tryz.underlying40 rfl HJ.out ?_; simp only [Act.put, setIfInBounds_toArray, getElem_toArray, getElem_cons_succ, getElem_cons_zero, set_cons_succ, set_cons_zero])
            refine HoistK.nil_ ?_
            simp only [opsAt, filterMap_cons, filterMap_nil, getElem?_toArray, getElem?_cons_succ, getElem?_cons_zero]
            refine EffS.cons_ fun _ hQ => ?_
            go_wp2_with fail
            refine (rsame_any w10.drew (HD.out _ hbd).2 (HC.out _ hbd).2 HLT.out HLT.out).mono ?_
            rw [sameX_self]
            rintro e w12 ⟨rfl, hb12⟩
            have hb612 := hbd.trans (hb12.mono hbd.size)
            have hS12 : w12.rangeAt b' (off' + a * 41) D ∧ Blk w12 gt 40 C.toArray := ⟨(HD.out _ hb612).1, hSS.2.below hb12 hSS.2.lt⟩
            have HB12 := Lib.hid hb612
            clear hb12 hbd hSS hb612
            go_wp2_with fail
            refine hQ _ _ hS12 (EffS.nil_ (SegV.mk (fun w' => w'.rangeAt b' (off' + a * 41) D ∧ Blk w' gt 40 C.toArray) (fun _ h => h) hS12 ?_))
            (refine HoistK.yes (by rfl) (by kernel_rfl) ⟨?_, fun w' hSw => ?_, ?_⟩; rotate_left; (· go_simp; try with_reducible rfl); simp only [Act.put, setIfInBounds_toArray, getElem_toArray, getElem_cons_succ, getElem_cons_zero, set_cons_succ, set_cons_zero])
            refine HoistK.nil_ ?_
            simp only [opsAt, filterMap_cons, filterMap_nil, getElem?_toArray, getElem?_cons_succ, getElem?_cons_zero]
            refine EffS.cons_ fun _ hQ => ?_
            go_wp2_with fail
            refine hQ _ _ hS12 (EffS.nil_ fun _ hQ => ?_)
            clear hS12
            go_wp2_with fail
            exact ⟨⟨a + 1, k + 1, by omega, by omega, by push_cast; rfl, by push_cast; rfl, HA2, HB12⟩, by simp only [intOf]; omega⟩
      · have ek : k = nX := by omega
        subst ek
        have ea : a = nY := by
          have h := hak.out
          rw [HNX.out, List.take_length, ← HY.out, ← HNY.out] at h
          exact h
        subst ea
        have HBE := Lib.hid (HB6.out.trans (hb.out.mono HB6.out.size))
        clear hb hak
        go_wp2_with fail
        go_ret
        exact ⟨by simp, HBE.out⟩
  · subst g2
    have HLD := HLD0
    clear HLD0
    go_wp2_with (refine wpList_load_blk' rfl 34 _ rfl HZ4.out rfl Tryz.underlying34 rfl HSU.out ?_)
    have hst : ∀ w', Chg (fun b => vP.ownBlock = some b) w4 w' → StA w' S' lb ss' ∧ Pk w' sent := fun w' hc => by
      have h2 : Below w2.heap.size w2 w' := HP4.out.2.1.trans (hc.below HP4.out.2.1.size fun b hb => HP4.out.2.2.2 b hb)
      have h1 := HB2'.out.trans (h2.mono HB2'.out.size)
      exact ⟨HSB.out.below h1, HK.out.below h1⟩
    have HD := Lib.hid (poolDone_any w4 hst HP4.out.1 HLD.out (fun t ht => HLEX.out t (HDX.out t ht)))
    clear hst
    refine HD.out.mono ?_
    rintro e w5 ⟨v5, rfl, hob, hp5, hc5⟩
    obtain ⟨Y, hY⟩ : ∃ Y, Y = stayX lb (encsX Dn) X := ⟨_, rfl⟩
    rw [← hY] at hp5
    have HY := Lib.hid hY
    have hy32 : Y.length ≤ 32 := by have h1 := hp5.1.1; have h2 := hp5.1.2.1; rw [List.length_map] at h2; omega
    have HYW := Lib.hid (show wellX Y from hp5.2)
    have HPB := Lib.hid (HP4.out.to hp5 hc5 (.inl hob))
    have hno : ∀ b, w3.heap.size ≤ b → ¬ (b = gP ∨ vP.ownBlock = some b) := fun b hb h => by
      rcases h with h | h
      · have := HGV.out.1; omega
      · have := HGV.out.2 b h; omega
    have HLA5 := Lib.hid (Sh.rep_chg HLA.out hc5 hno)
    have HLD5 := Lib.hid (Sh.rep_chg HLD.out hc5 hno)
    have HZ5 := Lib.hid (show Blk w5 (w.heap.size + 1) 34 ss'.toArray from blk_low HZ2'.out HPB.out.2.1)
    have HB5 := Lib.hid (HB2'.out.trans (HPB.out.2.1.mono HB2'.out.size))
    clear hY hp5 hc5 hob hno HLA HLD HD HP4 HZ4 HB4
    go_wp2_with fail
    refine (poolAll_any w5 HPB.out.1 (HK.out.below HB5.out)).mono ?_
    rintro e w6 ⟨vB, rfl, htx, hb⟩
    have HLB := Lib.hid htx.2.list
    have HLA6 := Lib.hid (Sh.rep_below HLA5.out hb)
    have HLD6 := Lib.hid (Sh.rep_below HLD5.out hb)
    have HZ6 := Lib.hid (HZ5.out.below hb HZ5.out.lt)
    have HB6 := Lib.hid (HB5.out.trans (hb.mono HB5.out.size))
    clear htx hb HLA5 HLD5 HZ5 HB5 HPB
    obtain ⟨AB, cB, rfl, -, -⟩ := list_at HLB.out
    obtain ⟨nY, hnY⟩ : ∃ n, n = Y.length := ⟨_, rfl⟩
    rw [← hnY] at HLB hy32 ⊢
    have HNY := Lib.hid hnY
    have HLEY := Lib.hid (show ∀ t ∈ Y, (tTx.enc t).length ≤ 1099511627776 from fun t ht => by have := (HYW.out t ht).2; omega)
    have HWB := Lib.hid (show ∀ w', Below w6.heap.size w6 w' → Blk w' (w.heap.size + 1) 34 ss'.toArray ∧ StA w' S' lb ss' from fun w' h => ⟨blk_low HZ6.out h, StA.below (HSB.out.below HB6.out) h⟩)
    clear hnY
    go_wp2_with fail
    go_loopw [15, 51] (fun at_ i wr => ∃ a k : Nat, k ≤ nX ∧ a ≤ nY ∧ at_ = .int .i64 a ∧ i = .int .i64 k ∧ Hid (a = (stayX lb (encsX Dn) (X.take k)).length) ∧ Hid (Below w6.heap.size w6 wr)) (fun _ i _ => nX - (intOf i).toNat)
    case atStart => exact ⟨0, 0, Nat.zero_le _, Nat.zero_le _, rfl, rfl, Lib.hid rfl, Lib.hid (Below.refl _ _)⟩
    case round =>
      obtain ⟨a, k, hk, ha, rfl, rfl, hak, hb⟩ := hrel
      by_cases hlt : k < nX
      · have hkX : k < X.length := by rw [← HNX.out]; exact hlt
        obtain ⟨b, off, C, hAX, HC, hCl⟩ := list_one (HLA6.out) HNX.out hlt
        subst hAX
        have HSN := Lib.hid (stayX_snoc lb (encsX Dn) X hkX)
        have HSA2 := Lib.hid (show goneP lb (encsX Dn) X[k] = false → ∃ h : a < Y.length, Y[a] = X[k] from fun h => by
          obtain ⟨h1, h2⟩ := stay_at hkX h
          rw [hak.out]
          simp only [HY.out]
          exact ⟨h1, h2⟩)
        have HLT := Lib.hid (HLEX.out _ (List.getElem_mem hkX))
        obtain ⟨t, ht⟩ : ∃ t, t = X[k] := ⟨_, rfl⟩
        rw [← ht] at HSN HSA2 HLT
        have HC := Lib.hid (show ∀ w', Below w6.heap.size w6 w' → w'.rangeAt b (off + k * 41) C ∧ tTx.rep w' _ t C from fun w' h => by rw [ht]; exact HC w' h)
        have HJ := Lib.hid (tx_size hCl)
        have HCL := Lib.hid hCl
        have HRC := Lib.hid (HC.out _ hb.out).1
        have HC1 := Lib.hid (Sh.rep_one _ _ _ (HC.out _ hb.out).2)
        have hcs := tx_cells (HC.out _ hb.out).2
        obtain ⟨f, hf⟩ : ∃ f, f = fromX t := ⟨_, rfl⟩
        obtain ⟨nn, hnn⟩ : ∃ nn, nn = nonceX t := ⟨_, rfl⟩
        rw [← hf, ← hnn] at hcs
        have HG0 := Lib.hid (show goneP lb (encsX Dn) t = (inX Dn t || (spendsX t && decide (nn < (acctP lb f).2.2.1))) by rw [inX_iff, hf, hnn]; rfl)
        have HCF := Lib.hid hcs.2.1
        have HCN := Lib.hid hcs.2.2.1
        clear ht hkX hCl hcs hf hnn
        go_wp2_with (first
          | (refine wpList_load_mid rfl 40 _ rfl b (off + k * 41) rfl C _ HRC.out Tryz.underlying40 rfl HJ.out ?_)
          | (refine wpList_store_blk (cs0 := [.int .i64 0, .int .u64 0, .int .u64 0, .int .u64 0, .int .u64 0, .int .i64 0, .int .i64 0] ++ List.replicate 32 (.int .u8 0) ++ [.int .i64 0, .slice none 0 0]) (cs := C) rfl 40 _ _ rfl (Blk.new wr _ _) rfl rfl (by rw [HCL.out]; rfl) HJ.out HC1.out ?_; intro w7 hb7 hc7; have HB7 := Lib.hid hb7; have HC7 := Lib.hid hc7; clear hb7 hc7))
        have hal1 := (Below.refl wr.heap.size wr).alloc (Nat.le_refl _) (.cells (([.int .i64 0, .int .u64 0, .int .u64 0, .int .u64 0, .int .u64 0, .int .i64 0, .int .i64 0] ++ List.replicate 32 (.int .u8 0) ++ [.int .i64 0, .slice none 0 0] : List Value)).toArray 40)
        have hw7 := hb.out.trans ((hal1.trans (HC7.out.below hal1.size fun k hk => Nat.le_of_eq hk.symm)).mono hb.out.size)
        have hbd := hw7.trans (((Below.refl w7.heap.size w7).drew).mono hw7.size)
        obtain ⟨gt, hgt⟩ : ∃ gt, gt = wr.heap.size := ⟨_, rfl⟩
        rw [← hgt] at HB7 ⊢
        have hSS : Blk w7.drew gt 40 C.toArray ∧ Blk w7.drew (w.heap.size + 1) 34 ss'.toArray := ⟨HB7.out.drew, (HWB.out _ hbd).1⟩
        have HIN := Lib.hid (rin_any w7.drew (Sh.rep_below HLD6.out hbd) (HC.out _ hbd).2 (fun t ht => HLEX.out t (HDX.out t ht)) HLT.out)
        clear hal1 hw7 hb hgt HB7 HC7
        refine wp_region_segsV [([0, 1], [2]), ([3, 4], [5]), ([6, 7, 8, 9, 10, 11], [12]), ([13, 14, 15, 16], [17])] (by kernel_rfl) (by kernel_rfl) (by kernel_rfl) (by kernel_rfl)
          (SegV.mk (fun w' => Blk w' gt 40 C.toArray ∧ Blk w' (w.heap.size + 1) 34 ss'.toArray) (fun _ _ => trivial) hSS ?_)
        (refine HoistK.yes (by rfl) (by kernel_rfl) ⟨?_, fun w' hSw => ?_, ?_⟩; rotate_left; (· go_simp; try with_reducible rfl); simp only [Act.put, setIfInBounds_toArray, getElem_toArray, getElem_cons_zero, set_cons_succ, set_cons_zero])
        (refine HoistK.load (by rfl) (by kernel_rfl) 40 _ rfl gt 0 rfl C _ (fun w' hw => hw.1.range) Tryz.underlying40 rfl HJ.out ?_; simp only [Act.put, setIfInBounds_toArray, getElem_toArray, getElem_cons_succ, getElem_cons_zero, set_cons_succ, set_cons_zero])
        refine HoistK.nil_ ?_
        simp only [opsAt, filterMap_cons, filterMap_nil, getElem?_toArray, getElem?_cons_succ, getElem?_cons_zero]
        refine EffS.cons_ fun _ hQ => ?_
        go_wp2_with fail
        refine HIN.out.mono ?_
        rintro e w8 ⟨rfl, hb8⟩
        have hb68 := hbd.trans (hb8.mono hbd.size)
        have hS8 : Blk w8 gt 40 C.toArray ∧ Blk w8 (w.heap.size + 1) 34 ss'.toArray := ⟨hSS.1.below hb8 hSS.1.lt, (HWB.out _ hb68).1⟩
        have HB8 := Lib.hid hb68
        obtain ⟨q1, hq1⟩ : ∃ q, q = inX Dn t := ⟨_, rfl⟩
        rw [← hq1] at HG0 ⊢
        clear hq1 hbd hb8 hSS hb68 HIN
        go_wp2_with fail
        refine hQ _ _ hS8 (EffS.nil_ (SegV.mk (fun w' => Blk w' gt 40 C.toArray ∧ Blk w' (w.heap.size + 1) 34 ss'.toArray) (fun _ h => h) hS8 ?_))
        cases q1
        rotate_left
        · (refine HoistK.yes (by rfl) (by kernel_rfl) ⟨?_, fun w' hSw => ?_, ?_⟩; rotate_left; (· go_simp; try with_reducible rfl); simp only [Act.put, setIfInBounds_toArray, getElem_toArray, getElem_cons_succ, getElem_cons_zero, set_cons_succ, set_cons_zero])
          (refine HoistK.no (by rfl) (by kernel_rfl) ?_; simp only [Act.put, setIfInBounds_toArray, getElem_toArray, getElem_cons_succ, getElem_cons_zero, set_cons_succ, set_cons_zero])
          refine HoistK.nil_ ?_
          simp only [opsAt, filterMap_cons, filterMap_nil, getElem?_toArray, getElem?_cons_succ, getElem?_cons_zero]
          refine EffS.cons_ fun _ hQ => ?_
          go_wp2_with fail
          refine hQ _ _ hS8 (EffS.nil_ (SegV.mk (fun w' => Blk w' gt 40 C.toArray ∧ Blk w' (w.heap.size + 1) 34 ss'.toArray) (fun _ h => h) hS8 ?_))
          (refine HoistK.no (by rfl) (by kernel_rfl) ?_; simp only [Act.put, setIfInBounds_toArray, getElem_toArray, getElem_cons_succ, getElem_cons_zero, set_cons_succ, set_cons_zero])
          (refine HoistK.no (by rfl) (by kernel_rfl) ?_; simp only [Act.put, setIfInBounds_toArray, getElem_toArray, getElem_cons_succ, getElem_cons_zero, set_cons_succ, set_cons_zero])
          (refine HoistK.no (by rfl) (by kernel_rfl) ?_; simp only [Act.put, setIfInBounds_toArray, getElem_toArray, getElem_cons_succ, getElem_cons_zero, set_cons_succ, set_cons_zero])
          (refine HoistK.no (by rfl) (by kernel_rfl) ?_; simp only [Act.put, setIfInBounds_toArray, getElem_toArray, getElem_cons_succ, getElem_cons_zero, set_cons_succ, set_cons_zero])
          (refine HoistK.no (by rfl) (by kernel_rfl) ?_; simp only [Act.put, setIfInBounds_toArray, getElem_toArray, getElem_cons_succ, getElem_cons_zero, set_cons_succ, set_cons_zero])
          (refine HoistK.no (by rfl) (by kernel_rfl) ?_; simp only [Act.put, setIfInBounds_toArray, getElem_toArray, getElem_cons_succ, getElem_cons_zero, set_cons_succ, set_cons_zero])
          refine HoistK.nil_ ?_
          simp only [opsAt, filterMap_cons, filterMap_nil, getElem?_toArray, getElem?_cons_succ, getElem?_cons_zero]
          refine EffS.cons_ fun _ hQ => ?_
          go_wp2_with fail
          refine hQ _ _ hS8 (EffS.nil_ (SegV.mk (fun w' => Blk w' gt 40 C.toArray ∧ Blk w' (w.heap.size + 1) 34 ss'.toArray) (fun _ h => h) hS8 ?_))
          (refine HoistK.no (by rfl) (by kernel_rfl) ?_; simp only [Act.put, setIfInBounds_toArray, getElem_toArray, getElem_cons_succ, getElem_cons_zero, set_cons_succ, set_cons_zero])
          (refine HoistK.no (by rfl) (by kernel_rfl) ?_; simp only [Act.put, setIfInBounds_toArray, getElem_toArray, getElem_cons_succ, getElem_cons_zero, set_cons_succ, set_cons_zero])
          (refine HoistK.no (by rfl) (by kernel_rfl) ?_; simp only [Act.put, setIfInBounds_toArray, getElem_toArray, getElem_cons_succ, getElem_cons_zero, set_cons_succ, set_cons_zero])
          (refine HoistK.yes (by rfl) (by kernel_rfl) ⟨?_, fun w' hSw => ?_, ?_⟩; rotate_left; (· go_simp; try with_reducible rfl); simp only [Act.put, setIfInBounds_toArray, getElem_toArray, getElem_cons_succ, getElem_cons_zero, set_cons_succ, set_cons_zero])
          refine HoistK.nil_ ?_
          simp only [opsAt, filterMap_cons, filterMap_nil, getElem?_toArray, getElem?_cons_succ, getElem?_cons_zero]
          refine EffS.cons_ fun _ hQ => ?_
          go_wp2_with fail
          refine hQ _ _ hS8 (EffS.nil_ fun _ hQ => ?_)
          clear hS8
          have HA2 := Lib.hid (show a = (stayX lb (encsX Dn) (X.take (k + 1))).length by rw [HSN.out, HG0.out]; simpa using hak.out)
          clear hak
          go_wp2_with fail
          exact ⟨⟨a, k + 1, by omega, ha, rfl, by push_cast; rfl, HA2, HB8⟩, by simp only [intOf]; omega⟩
        (refine HoistK.yes (by rfl) (by kernel_rfl) ⟨?_, fun w' hSw => ?_, ?_⟩; rotate_left; (· go_simp; try with_reducible rfl); simp only [Act.put, setIfInBounds_toArray, getElem_toArray, getElem_cons_succ, getElem_cons_zero, set_cons_succ, set_cons_zero])
        (refine HoistK.load (by rfl) (by kernel_rfl) 40 _ rfl gt 0 rfl C _ (fun w' hw => hw.1.range) Tryz.underlying40 rfl HJ.out ?_; simp only [Act.put, setIfInBounds_toArray, getElem_toArray, getElem_cons_succ, getElem_cons_zero, set_cons_succ, set_cons_zero])
        refine HoistK.nil_ ?_
        simp only [opsAt, filterMap_cons, filterMap_nil, getElem?_toArray, getElem?_cons_succ, getElem?_cons_zero]
        refine EffS.cons_ fun _ hQ => ?_
        go_wp2_with fail
        refine (rspends_any w8 (HC.out _ HB8.out).2).mono ?_
        rintro e w9 ⟨rfl, hb9⟩
        have hb69 := HB8.out.trans (hb9.mono HB8.out.size)
        have hS9 : Blk w9 gt 40 C.toArray ∧ Blk w9 (w.heap.size + 1) 34 ss'.toArray := ⟨hS8.1.below hb9 hS8.1.lt, (HWB.out _ hb69).1⟩
        have HB9 := Lib.hid hb69
        obtain ⟨q2, hq2⟩ : ∃ q, q = spendsX t := ⟨_, rfl⟩
        rw [← hq2] at HG0 ⊢
        clear hq2 hb9 hS8 hb69
        go_wp2_with fail
        refine hQ _ _ hS9 (EffS.nil_ (SegV.mk (fun w' => Blk w' gt 40 C.toArray ∧ Blk w' (w.heap.size + 1) 34 ss'.toArray) (fun _ h => h) hS9 ?_))
        have hex : ∃ w10 : World, Blk w10 gt 40 C.toArray ∧ Below w6.heap.size w6 w10 := ⟨w9, hS9.1, HB9.out⟩
        clear hex
        cases q2
        · (refine HoistK.yes (by rfl) (by kernel_rfl) ⟨?_, fun w' hSw => ?_, ?_⟩; rotate_left; (· go_simp; try with_reducible rfl); simp only [Act.put, setIfInBounds_toArray, getElem_toArray, getElem_cons_succ, getElem_cons_zero, set_cons_succ, set_cons_zero])
          (refine HoistK.no (by rfl) (by kernel_rfl) ?_; simp only [Act.put, setIfInBounds_toArray, getElem_toArray, getElem_cons_succ, getElem_cons_zero, set_cons_succ, set_cons_zero])
          (refine HoistK.no (by rfl) (by kernel_rfl) ?_; simp only [Act.put, setIfInBounds_toArray, getElem_toArray, getElem_cons_succ, getElem_cons_zero, set_cons_succ, set_cons_zero])
          (refine HoistK.no (by rfl) (by kernel_rfl) ?_; simp only [Act.put, setIfInBounds_toArray, getElem_toArray, getElem_cons_succ, getElem_cons_zero, set_cons_succ, set_cons_zero])
          (refine HoistK.no (by rfl) (by kernel_rfl) ?_; simp only [Act.put, setIfInBounds_toArray, getElem_toArray, getElem_cons_succ, getElem_cons_zero, set_cons_succ, set_cons_zero])
          (refine HoistK.no (by rfl) (by kernel_rfl) ?_; simp only [Act.put, setIfInBounds_toArray, getElem_toArray, getElem_cons_succ, getElem_cons_zero, set_cons_succ, set_cons_zero])
          refine HoistK.nil_ ?_
          simp only [opsAt, filterMap_cons, filterMap_nil, getElem?_toArray, getElem?_cons_succ, getElem?_cons_zero]
          refine EffS.cons_ fun _ hQ => ?_
          go_wp2_with fail
          refine hQ _ _ hS9 (EffS.nil_ (SegV.mk (fun w' => Blk w' gt 40 C.toArray ∧ Blk w' (w.heap.size + 1) 34 ss'.toArray) (fun _ h => h) hS9 ?_))
          (refine HoistK.no (by rfl) (by kernel_rfl) ?_; simp only [Act.put, setIfInBounds_toArray, getElem_toArray, getElem_cons_succ, getElem_cons_zero, set_cons_succ, set_cons_zero])
          (refine HoistK.no (by rfl) (by kernel_rfl) ?_; simp only [Act.put, setIfInBounds_toArray, getElem_toArray, getElem_cons_succ, getElem_cons_zero, set_cons_succ, set_cons_zero])
          iterate 2 (refine HoistK.yes (by rfl) (by kernel_rfl) ⟨?_, fun w' hSw => ?_, ?_⟩; rotate_left; (· go_simp; try with_reducible rfl); simp only [Act.put, setIfInBounds_toArray, getElem_toArray, getElem_cons_succ, getElem_cons_zero, set_cons_succ, set_cons_zero])
          refine HoistK.nil_ ?_
          simp only [opsAt, filterMap_cons, filterMap_nil, getElem?_toArray, getElem?_cons_succ, getElem?_cons_zero]
          refine EffS.cons_ fun _ hQ => ?_
          go_wp2_with fail
          refine hQ _ _ hS9 (EffS.nil_ fun _ hQ => ?_)
          obtain ⟨haY, hya⟩ := HSA2.out HG0.out
          have haN : a < nY := by rw [HNY.out]; exact haY
          obtain ⟨b', off', D, rfl, HD, hDl⟩ := list_one (HLB.out) HNY.out haN
          have HD := Lib.hid (show ∀ w', Below w6.heap.size w6 w' → w'.rangeAt b' (off' + a * 41) D ∧ tTx.rep w' _ t D from fun w' h => by rw [← hya]; exact HD w' h)
          have HJD := Lib.hid (tx_size hDl)
          have HA2 := Lib.hid (show a + 1 = (stayX lb (encsX Dn) (X.take (k + 1))).length by rw [HSN.out, HG0.out, List.length_append, ← hak.out]; rfl)
          have HGT := Lib.hid hS9.1
          clear hak hya haY hDl hS9
          have hge : ¬ (nY : Int) ≤ (a : Int) := by omega
          have hge2 : ¬ nY ≤ a := by omega
          go_wp2_with fail
          have hbd := HB9.out.trans (((Below.refl w9.heap.size w9).drew).mono HB9.out.size)
          have hSS : w9.drew.rangeAt b' (off' + a * 41) D ∧ Blk w9.drew gt 40 C.toArray := ⟨(HD.out _ hbd).1, HGT.out.drew⟩
          refine wp_region_segsV [([0, 1, 2, 3, 4, 5, 6, 7, 8, 9], [10]), ([11], [12])] (by kernel_rfl) (by kernel_rfl) (by kernel_rfl) (by kernel_rfl)
            (SegV.mk (fun w' => w'.rangeAt b' (off' + a * 41) D ∧ Blk w' gt 40 C.toArray) (fun _ _ => trivial) hSS ?_)
          (refine HoistK.yes (by rfl) (by kernel_rfl) ⟨?_, fun w' hSw => ?_, ?_⟩; rotate_left; (· go_simp; try with_reducible rfl); simp only [Act.put, setIfInBounds_toArray, getElem_toArray, getElem_cons_zero, set_cons_succ, set_cons_zero])
          iterate 7 (refine HoistK.yes (by rfl) (by kernel_rfl) ⟨?_, fun w' hSw => ?_, ?_⟩; rotate_left; (· go_simp; try with_reducible rfl); simp only [Act.put, setIfInBounds_toArray, getElem_toArray, getElem_cons_succ, getElem_cons_zero, set_cons_succ, set_cons_zero])
          (refine HoistK.load (by rfl) (by kernel_rfl) 40 _ rfl b' (off' + a * 41) rfl D _ (fun w' hw => hw.1) Tryz.underlying40 rfl HJD.out ?_; simp only [Act.put, setIfInBounds_toArray, getElem_toArray, getElem_cons_succ, getElem_cons_zero, set_cons_succ, set_cons_zero])
          (refine HoistK.load (by rfl) (by kernel_rfl) 40 _ rfl gt 0 rfl C _ (fun w' hw => hw.2.range) Tryz.underlying40 rfl HJ.out ?_; simp only [Act.put, setIfInBounds_toArray, getElem_toArray, getElem_cons_succ, getElem_cons_zero, set_cons_succ, set_cons_zero])
          refine HoistK.nil_ ?_
          simp only [opsAt, filterMap_cons, filterMap_nil, getElem?_toArray, getElem?_cons_succ, getElem?_cons_zero]
          refine EffS.cons_ fun _ hQ => ?_
          go_wp2_with fail
          refine (rsame_any w9.drew (HD.out _ hbd).2 (HC.out _ hbd).2 HLT.out HLT.out).mono ?_
          rw [sameX_self]
          rintro e w12 ⟨rfl, hb12⟩
          have hb612 := hbd.trans (hb12.mono hbd.size)
          have hS12 : w12.rangeAt b' (off' + a * 41) D ∧ Blk w12 gt 40 C.toArray := ⟨(HD.out _ hb612).1, hSS.2.below hb12 hSS.2.lt⟩
          have HB12 := Lib.hid hb612
          clear hb12 hbd hSS hb612
          go_wp2_with fail
          refine hQ _ _ hS12 (EffS.nil_ (SegV.mk (fun w' => w'.rangeAt b' (off' + a * 41) D ∧ Blk w' gt 40 C.toArray) (fun _ h => h) hS12 ?_))
          (refine HoistK.yes (by rfl) (by kernel_rfl) ⟨?_, fun w' hSw => ?_, ?_⟩; rotate_left; (· go_simp; try with_reducible rfl); simp only [Act.put, setIfInBounds_toArray, getElem_toArray, getElem_cons_succ, getElem_cons_zero, set_cons_succ, set_cons_zero])
          refine HoistK.nil_ ?_
          simp only [opsAt, filterMap_cons, filterMap_nil, getElem?_toArray, getElem?_cons_succ, getElem?_cons_zero]
          refine EffS.cons_ fun _ hQ => ?_
          go_wp2_with fail
          refine hQ _ _ hS12 (EffS.nil_ fun _ hQ => ?_)
          clear hS12
          go_wp2_with fail
          exact ⟨⟨a + 1, k + 1, by omega, by omega, by push_cast; rfl, by push_cast; rfl, HA2, HB12⟩, by simp only [intOf]; omega⟩
        · (refine HoistK.yes (by rfl) (by kernel_rfl) ⟨?_, fun w' hSw => ?_, ?_⟩; rotate_left; (· go_simp; try with_reducible rfl); simp only [Act.put, setIfInBounds_toArray, getElem_toArray, getElem_cons_succ, getElem_cons_zero, set_cons_succ, set_cons_zero])
          (refine HoistK.yes (by rfl) (by kernel_rfl) ⟨?_, fun w' hSw => ?_, ?_⟩; rotate_left; (· go_simp; try with_reducible rfl); simp only [Act.put, setIfInBounds_toArray, getElem_toArray, getElem_cons_succ, getElem_cons_zero, set_cons_succ, set_cons_zero])
          (refine HoistK.yes (by rfl) (by kernel_rfl) ⟨?_, fun w' hSw => ?_, ?_⟩; rotate_left; (· have hcn := hSw.1.cell 4; rw [getElem?_toArray, HCN.out] at hcn; have hcf := hSw.1.cell 1; rw [getElem?_toArray, HCF.out] at hcf; go_simp; try with_reducible rfl); simp only [Act.put, setIfInBounds_toArray, getElem_toArray, getElem_cons_succ, getElem_cons_zero, set_cons_succ, set_cons_zero])
          (refine HoistK.load (by rfl) (by kernel_rfl) 34 _ rfl (w.heap.size + 1) 0 rfl ss' _ (fun w' hw => hw.2.range) Tryz.underlying34 rfl HSU.out ?_; simp only [Act.put, setIfInBounds_toArray, getElem_toArray, getElem_cons_succ, getElem_cons_zero, set_cons_succ, set_cons_zero])
          (refine HoistK.yes (by rfl) (by kernel_rfl) ⟨?_, fun w' hSw => ?_, ?_⟩; rotate_left; (· go_simp; try with_reducible rfl); simp only [Act.put, setIfInBounds_toArray, getElem_toArray, getElem_cons_succ, getElem_cons_zero, set_cons_succ, set_cons_zero])
          (refine HoistK.yes (by rfl) (by kernel_rfl) ⟨?_, fun w' hSw => ?_, ?_⟩; rotate_left; (· have hcn := hSw.1.cell 4; rw [getElem?_toArray, HCN.out] at hcn; have hcf := hSw.1.cell 1; rw [getElem?_toArray, HCF.out] at hcf; go_simp; try with_reducible rfl); simp only [Act.put, setIfInBounds_toArray, getElem_toArray, getElem_cons_succ, getElem_cons_zero, set_cons_succ, set_cons_zero])
          refine HoistK.nil_ ?_
          simp only [opsAt, filterMap_cons, filterMap_nil, getElem?_toArray, getElem?_cons_succ, getElem?_cons_zero]
          refine EffS.cons_ fun _ hQ => ?_
          go_wp2_with fail
          refine (account_any w9 (HWB.out _ HB9.out).2 f).mono ?_
          rintro e w10 ⟨rfl, hb10⟩
          have hb610 := HB9.out.trans (hb10.mono HB9.out.size)
          have hS10 : Blk w10 gt 40 C.toArray ∧ Blk w10 (w.heap.size + 1) 34 ss'.toArray := ⟨hS9.1.below hb10 hS9.1.lt, (HWB.out _ hb610).1⟩
          have HB10 := Lib.hid hb610
          obtain ⟨ac, hac⟩ : ∃ ac, ac = acctP lb f := ⟨_, rfl⟩
          rw [← hac] at HG0 ⊢
          clear hac hb10 hS9 hb610
          go_wp2_with fail
          refine hQ _ _ hS10 (EffS.nil_ (SegV.mk (fun w' => Blk w' gt 40 C.toArray ∧ Blk w' (w.heap.size + 1) 34 ss'.toArray) (fun _ h => h) hS10 ?_))
          by_cases hnb : nn < ac.2.2.1
          · have hd : decide (nn < ac.2.2.1) = true := decide_eq_true hnb
            rw [hd] at HG0
            (refine HoistK.yes (by rfl) (by kernel_rfl) ⟨?_, fun w' hSw => ?_, ?_⟩; rotate_left; (· have hfn := field_nonce ac w'; unfold acs; go_simp; try with_reducible rfl); simp only [Act.put, setIfInBounds_toArray, getElem_toArray, getElem_cons_succ, getElem_cons_zero, set_cons_succ, set_cons_zero])
            iterate 3 (refine HoistK.yes (by rfl) (by kernel_rfl) ⟨?_, fun w' hSw => ?_, ?_⟩; rotate_left; (· go_simp; try with_reducible rfl); simp only [Act.put, setIfInBounds_toArray, getElem_toArray, getElem_cons_succ, getElem_cons_zero, set_cons_succ, set_cons_zero])
            refine HoistK.nil_ ?_
            simp only [opsAt, filterMap_cons, filterMap_nil, getElem?_toArray, getElem?_cons_succ, getElem?_cons_zero]
            refine EffS.cons_ fun _ hQ => ?_
            go_wp2_with fail
            refine hQ _ _ hS10 (EffS.nil_ fun _ hQ => ?_)
            clear hS10
            have HA2 := Lib.hid (show a = (stayX lb (encsX Dn) (X.take (k + 1))).length by rw [HSN.out, HG0.out]; simpa using hak.out)
            clear hak
            go_wp2_with fail
            exact ⟨⟨a, k + 1, by omega, ha, rfl, by push_cast; rfl, HA2, HB10⟩, by simp only [intOf]; omega⟩
          · have hd : decide (nn < ac.2.2.1) = false := decide_eq_false hnb
            rw [hd] at HG0
            clear hnb
            (refine HoistK.yes (by rfl) (by kernel_rfl) ⟨?_, fun w' hSw => ?_, ?_⟩; rotate_left; (· have hfn := field_nonce ac w'; unfold acs; go_simp; try with_reducible rfl); simp only [Act.put, setIfInBounds_toArray, getElem_toArray, getElem_cons_succ, getElem_cons_zero, set_cons_succ, set_cons_zero])
            iterate 3 (refine HoistK.yes (by rfl) (by kernel_rfl) ⟨?_, fun w' hSw => ?_, ?_⟩; rotate_left; (· go_simp; try with_reducible rfl); simp only [Act.put, setIfInBounds_toArray, getElem_toArray, getElem_cons_succ, getElem_cons_zero, set_cons_succ, set_cons_zero])
            refine HoistK.nil_ ?_
            simp only [opsAt, filterMap_cons, filterMap_nil, getElem?_toArray, getElem?_cons_succ, getElem?_cons_zero]
            refine EffS.cons_ fun _ hQ => ?_
            go_wp2_with fail
            refine hQ _ _ hS10 (EffS.nil_ fun _ hQ => ?_)
            obtain ⟨haY, hya⟩ := HSA2.out HG0.out
            have haN : a < nY := by rw [HNY.out]; exact haY
            obtain ⟨b', off', D, rfl, HD, hDl⟩ := list_one (HLB.out) HNY.out haN
            have HD := Lib.hid (show ∀ w', Below w6.heap.size w6 w' → w'.rangeAt b' (off' + a * 41) D ∧ tTx.rep w' _ t D from fun w' h => by rw [← hya]; exact HD w' h)
            have HJD := Lib.hid (tx_size hDl)
            have HA2 := Lib.hid (show a + 1 = (stayX lb (encsX Dn) (X.take (k + 1))).length by rw [HSN.out, HG0.out, List.length_append, ← hak.out]; rfl)
            have HGT := Lib.hid hS10.1
            clear hak hya haY hDl hS10
            have hge : ¬ (nY : Int) ≤ (a : Int) := by omega
            have hge2 : ¬ nY ≤ a := by omega
            go_wp2_with fail
            have hbd := HB10.out.trans (((Below.refl w10.heap.size w10).drew).mono HB10.out.size)
            have hSS : w10.drew.rangeAt b' (off' + a * 41) D ∧ Blk w10.drew gt 40 C.toArray := ⟨(HD.out _ hbd).1, HGT.out.drew⟩
            refine wp_region_segsV [([0, 1, 2, 3, 4, 5, 6, 7, 8, 9], [10]), ([11], [12])] (by kernel_rfl) (by kernel_rfl) (by kernel_rfl) (by kernel_rfl)
              (SegV.mk (fun w' => w'.rangeAt b' (off' + a * 41) D ∧ Blk w' gt 40 C.toArray) (fun _ _ => trivial) hSS ?_)
            (refine HoistK.yes (by rfl) (by kernel_rfl) ⟨?_, fun w' hSw => ?_, ?_⟩; rotate_left; (· go_simp; try with_reducible rfl); simp only [Act.put, setIfInBounds_toArray, getElem_toArray, getElem_cons_zero, set_cons_succ, set_cons_zero])
            iterate 7 (refine HoistK.yes (by rfl) (by kernel_rfl) ⟨?_, fun w' hSw => ?_, ?_⟩; rotate_left; (· go_simp; try with_reducible rfl); simp only [Act.put, setIfInBounds_toArray, getElem_toArray, getElem_cons_succ, getElem_cons_zero, set_cons_succ, set_cons_zero])
            (refine HoistK.load (by rfl) (by kernel_rfl) 40 _ rfl b' (off' + a * 41) rfl D _ (fun w' hw => hw.1) Tryz.underlying40 rfl HJD.out ?_; simp only [Act.put, setIfInBounds_toArray, getElem_toArray, getElem_cons_succ, getElem_cons_zero, set_cons_succ, set_cons_zero])
            (refine HoistK.load (by rfl) (by kernel_rfl) 40 _ rfl gt 0 rfl C _ (fun w' hw => hw.2.range) Tryz.underlying40 rfl HJ.out ?_; simp only [Act.put, setIfInBounds_toArray, getElem_toArray, getElem_cons_succ, getElem_cons_zero, set_cons_succ, set_cons_zero])
            refine HoistK.nil_ ?_
            simp only [opsAt, filterMap_cons, filterMap_nil, getElem?_toArray, getElem?_cons_succ, getElem?_cons_zero]
            refine EffS.cons_ fun _ hQ => ?_
            go_wp2_with fail
            refine (rsame_any w10.drew (HD.out _ hbd).2 (HC.out _ hbd).2 HLT.out HLT.out).mono ?_
            rw [sameX_self]
            rintro e w12 ⟨rfl, hb12⟩
            have hb612 := hbd.trans (hb12.mono hbd.size)
            have hS12 : w12.rangeAt b' (off' + a * 41) D ∧ Blk w12 gt 40 C.toArray := ⟨(HD.out _ hb612).1, hSS.2.below hb12 hSS.2.lt⟩
            have HB12 := Lib.hid hb612
            clear hb12 hbd hSS hb612
            go_wp2_with fail
            refine hQ _ _ hS12 (EffS.nil_ (SegV.mk (fun w' => w'.rangeAt b' (off' + a * 41) D ∧ Blk w' gt 40 C.toArray) (fun _ h => h) hS12 ?_))
            (refine HoistK.yes (by rfl) (by kernel_rfl) ⟨?_, fun w' hSw => ?_, ?_⟩; rotate_left; (· go_simp; try with_reducible rfl); simp only [Act.put, setIfInBounds_toArray, getElem_toArray, getElem_cons_succ, getElem_cons_zero, set_cons_succ, set_cons_zero])
            refine HoistK.nil_ ?_
            simp only [opsAt, filterMap_cons, filterMap_nil, getElem?_toArray, getElem?_cons_succ, getElem?_cons_zero]
            refine EffS.cons_ fun _ hQ => ?_
            go_wp2_with fail
            refine hQ _ _ hS12 (EffS.nil_ fun _ hQ => ?_)
            clear hS12
            go_wp2_with fail
            exact ⟨⟨a + 1, k + 1, by omega, by omega, by push_cast; rfl, by push_cast; rfl, HA2, HB12⟩, by simp only [intOf]; omega⟩
      · have ek : k = nX := by omega
        subst ek
        have ea : a = nY := by
          have h := hak.out
          rw [HNX.out, List.take_length, ← HY.out, ← HNY.out] at h
          exact h
        subst ea
        have HBE := Lib.hid (HB6.out.trans (hb.out.mono HB6.out.size))
        clear hb hak
        go_wp2_with fail
        go_ret
        exact ⟨by simp, HBE.out⟩
end
end Go.Proofs.YtkclkmjlodomkaaGreatDoor
