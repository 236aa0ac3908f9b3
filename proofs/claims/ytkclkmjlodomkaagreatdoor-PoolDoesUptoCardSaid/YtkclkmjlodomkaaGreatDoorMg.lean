/- Texts joined: PoJ PoL PoM PoN PoO PoP PoA PoA1 PoA2 PoA3 PoA4 PoA5 PoA6 PoA7. -/
import Derived.Test.YtkclkmjlodomkaaGreatDoorMf
import Derived.Test.YtkclkmjlodomkaaGreatDoorMb
import Derived.Test.YtkclkmjlodomkaaGreatDoorMa
namespace Go.Proofs.YtkclkmjlodomkaaGreatDoor
open List (setIfInBounds_toArray getElem_toArray getElem_cons_succ getElem_cons_zero set_cons_succ set_cons_zero filterMap_cons filterMap_nil getElem?_toArray getElem?_cons_succ getElem?_cons_zero)
section
open Go.RowKit Go.Maps
attribute [-simp] Tryz.isAgg34 Tryz.typeInfo34 Tryz.isAgg40 Tryz.typeInfo40 Tryz.isAgg37 Tryz.typeInfo37 Tryz.isAgg57 Tryz.typeInfo57
set_option maxHeartbeats 16000000 in
set_option maxRecDepth 100000 in
theorem rmayN_any (w : World) {S T U : Nat → Prop} {l : List (Int × Int × Int × Unit)} {ss cs : List Value} {x : TxE} {v : Value} {O : List TxE} (hs : StA w S l ss) (hso : SortA l) (ho : (Sh.list tTx).rep w T O [v]) (h : tTx.rep w U x cs) (hbr : 0 ≤ baseX l (fromX x) ∧ baseX l (fromX x) < 18446744073709551616) :
    Calls Tryz.prog 40 #[.agg ss.toArray, v, .agg cs.toArray] w fun e w' => e = .returned (.bool (fitsX l O x)) ∧ Below w.heap.size w w' := by
  have hal := ((Below.refl w.heap.size w).alloc (Nat.le_refl _) (.cells ss.toArray 34)).alloc (by simp) (.cells cs.toArray 40)
  have hx := (Blk.new w 34 ss.toArray).alloc (.cells cs.toArray 40)
  have hy := Blk.new (w.alloc (.cells ss.toArray 34)) 40 cs.toArray
  rw [show (w.alloc (.cells ss.toArray 34)).heap.size = w.heap.size + 1 by simp] at hy
  obtain ⟨w1, hw1⟩ : ∃ w1, w1 = (w.alloc (.cells ss.toArray 34)).alloc (.cells cs.toArray 40) := ⟨_, rfl⟩
  rw [← hw1] at hal hx hy
  obtain ⟨_, c1, c4, cl⟩ := tx_cells h
  have hft : fitsX l O x = (!spendsX x || nonceX x == wantX l O (fromX x)) := fits_want l O x
  obtain ⟨f, hf⟩ : ∃ f, f = fromX x := ⟨_, rfl⟩
  obtain ⟨nn, hnn⟩ : ∃ nn, nn = nonceX x := ⟨_, rfl⟩
  rw [← hf] at c1 hft hbr
  rw [← hnn] at c4 hft
  have h0 : wantX l (O.take 0) f = (racctP l f).2.2.1 := by rw [racct_eq hso]; exact want_nil hbr
  obtain ⟨A, cap, rfl, hlen, _⟩ := list_at ho
  obtain ⟨n, hn⟩ : ∃ n, n = O.length := ⟨_, rfl⟩
  have e0 : (Value.slice A O.length cap) = .slice A n cap := by rw [hn]
  rw [e0] at ho ⊢
  have hn63 : n ≤ 9223372036854775807 := by omega
  have hcn := hy.cell 4
  rw [getElem?_toArray, c4] at hcn
  have HI := Lib.hid (st_of hs)
  have HJ := Lib.hid (tx_size cl)
  have HS := Lib.hid (hs.below hal)
  have HO := Lib.hid (Sh.rep_below ho hal)
  have H := Lib.hid (Sh.rep_below h hal)
  have HCF := Lib.hid c1
  have HCN := Lib.hid c4
  have HG := Lib.hid hft
  have H0 := Lib.hid h0
  have HAL := Lib.hid hal
  have HX := Lib.hid hx
  have HY := Lib.hid hy
  have HN := Lib.hid hn
  have HW1 := Lib.hid hw1
  clear hal hx hy hw1 c1 c4 cl hft hf hnn hs h hso ho hlen e0 hn hbr h0 hcn
  go_enter Tryz.func40, Tryz.ntmps40
  go_wp2_with (first | (rw [← HW1.out]; refine wpList_load_blk' rfl 40 _ rfl HY.out rfl Tryz.underlying40 rfl HJ.out ?_))
  refine (rspends_any w1 H.out).mono ?_
  rintro e w2 ⟨rfl, hb2⟩
  have HB2 := Lib.hid hb2
  have HX2 := Lib.hid (HX.out.below hb2 HX.out.lt)
  have HY2 := Lib.hid (HY.out.below hb2 HY.out.lt)
  obtain ⟨q, hq⟩ : ∃ q, q = spendsX x := ⟨_, rfl⟩
  rw [← hq] at HG ⊢
  have HY1 := HY
  clear hq hb2 HX HY
  cases q
  · go_wp2_with fail
    go_ret
    exact ⟨by rw [HG.out]; rfl, HAL.out.trans (HB2.out.mono HAL.out.size)⟩
  have hcf : w2.cell? ⟨w.heap.size + 1, 1, none⟩ = some (.int .u64 f) := by rw [HY2.out.cell, getElem?_toArray]; exact HCF.out
  go_wp2_with (refine wpList_load_blk' rfl 34 _ rfl HX2.out rfl Tryz.underlying34 rfl HI.out ?_)
  clear hcf
  refine (raccount_any w2 (HS.out.below HB2.out) f).mono ?_
  rintro e w3 ⟨rfl, hb3⟩
  have HB3 := Lib.hid (HB2.out.trans (hb3.mono HB2.out.size))
  have HY3 := Lib.hid (HY2.out.below hb3 HY2.out.lt)
  obtain ⟨ac, hac⟩ : ∃ ac, ac = racctP l f := ⟨_, rfl⟩
  rw [← hac] at H0 ⊢
  have hfn := fun w' => field_nonce ac w'
  unfold acs
  clear hac hb3 HX2 HY2
  go_wp2_with fail
  clear hfn
  rw [← H0.out]
  obtain ⟨z0, hz0⟩ : ∃ z, z = wantX l (O.take 0) f := ⟨_, rfl⟩
  rw [← hz0]
  have HZ0 := Lib.hid hz0
  clear hz0 H0
  go_loopw [7, 8] (fun wt j wr => ∃ k : Nat, k ≤ n ∧ j = .int .i64 k ∧ (∃ z, wt = .int .u64 z ∧ Hid (z = wantX l (O.take k) f)) ∧ Hid (Below w1.heap.size w1 wr)) (fun _ j _ => n - (intOf j).toNat)
  case atStart => exact ⟨0, Nat.zero_le _, rfl, ⟨_, rfl, HZ0⟩, HB3⟩
  case round =>
    obtain ⟨k, hk, rfl, ⟨z, rfl, hz⟩, hb⟩ := hrel
    by_cases hlt : k < n
    · have hkO : k < O.length := by rw [← HN.out]; exact hlt
      obtain ⟨b, off, D, rfl, HD, hDl⟩ := list_one HO.out HN.out hlt
      have HWS := Lib.hid (want_step l O f hkO)
      obtain ⟨u, hu⟩ : ∃ u, u = O[k] := ⟨_, rfl⟩
      rw [← hu] at HWS
      have HD := Lib.hid (show ∀ w', Below w1.heap.size w1 w' → w'.rangeAt b (off + k * 41) D ∧ tTx.rep w' _ u D from fun w' h => by rw [hu]; exact HD w' h)
      have HJD := Lib.hid (tx_size hDl)
      have hds := tx_cells (HD.out _ (Below.refl _ _)).2
      obtain ⟨g, hg⟩ : ∃ g, g = fromX u := ⟨_, rfl⟩
      rw [← hg] at hds HWS
      have HCG := Lib.hid hds.2.1
      have hbd := hb.out.trans (((Below.refl wr.heap.size wr).drew).mono hb.out.size)
      have HYB := Lib.hid (show ∀ w', Below w1.heap.size w1 w' → Blk w' (w.heap.size + 1) 40 cs.toArray from fun w' h => blk_low HY1.out h)
      have hSS : wr.drew.rangeAt b (off + k * 41) D ∧ Blk wr.drew (w.heap.size + 1) 40 cs.toArray := ⟨(HD.out _ hbd).1, HYB.out _ hbd⟩
      clear hu hkO hDl hds hg hb
      go_wp2_with fail
      refine wp_region_segsV [([0, 1, 2, 3], [4]), ([5, 6, 7, 8, 9, 10, 11, 12, 13], [14])] (by kernel_rfl) (by kernel_rfl) (by kernel_rfl) (by kernel_rfl)
        (SegV.mk (fun w' => w'.rangeAt b (off + k * 41) D ∧ Blk w' (w.heap.size + 1) 40 cs.toArray) (fun _ _ => trivial) hSS ?_)
      (refine HoistK.yes (by rfl) (by kernel_rfl) ⟨?_, fun w' hSw => ?_, ?_⟩; rotate_left; (· go_simp; try with_reducible rfl); simp only [Act.put, setIfInBounds_toArray, getElem_toArray, getElem_cons_zero, set_cons_succ, set_cons_zero])
      iterate 2 (refine HoistK.yes (by rfl) (by kernel_rfl) ⟨?_, fun w' hSw => ?_, ?_⟩; rotate_left; (· go_simp; try with_reducible rfl); simp only [Act.put, setIfInBounds_toArray, getElem_toArray, getElem_cons_succ, getElem_cons_zero, set_cons_succ, set_cons_zero])
      (refine HoistK.load (by rfl) (by kernel_rfl) 40 _ rfl b (off + k * 41) rfl D _ (fun w' hw => hw.1) Tryz.underlying40 rfl HJD.out ?_; simp only [Act.put, setIfInBounds_toArray, getElem_toArray, getElem_cons_succ, getElem_cons_zero, set_cons_succ, set_cons_zero])
      refine HoistK.nil_ ?_
      simp only [opsAt, filterMap_cons, filterMap_nil, getElem?_toArray, getElem?_cons_succ, getElem?_cons_zero]
      refine EffS.cons_ fun _ hQ => ?_
      go_wp2_with fail
      refine (rspends_any wr.drew (HD.out _ hbd).2).mono ?_
      rintro e w9 ⟨rfl, hb9⟩
      have hb59 := hbd.trans (hb9.mono hbd.size)
      have hS9 : w9.rangeAt b (off + k * 41) D ∧ Blk w9 (w.heap.size + 1) 40 cs.toArray := ⟨(HD.out _ hb59).1, HYB.out _ hb59⟩
      have HB9 := Lib.hid hb59
      obtain ⟨q, hq⟩ : ∃ q, q = spendsX u := ⟨_, rfl⟩
      rw [← hq] at HWS ⊢
      clear hq hbd hb9 hb59 hSS
      go_wp2_with fail
      refine hQ _ _ hS9 (EffS.nil_ (SegV.mk (fun w' => w'.rangeAt b (off + k * 41) D ∧ Blk w' (w.heap.size + 1) 40 cs.toArray) (fun _ h => h) hS9 ?_))
      cases q
      · (refine HoistK.yes (by rfl) (by kernel_rfl) ⟨?_, fun w' hSw => ?_, ?_⟩; rotate_left; (· go_simp; try with_reducible rfl); simp only [Act.put, setIfInBounds_toArray, getElem_toArray, getElem_cons_succ, getElem_cons_zero, set_cons_succ, set_cons_zero])
        (refine HoistK.no (by rfl) (by kernel_rfl) ?_; simp only [Act.put, setIfInBounds_toArray, getElem_toArray, getElem_cons_succ, getElem_cons_zero, set_cons_succ, set_cons_zero])
        (refine HoistK.no (by rfl) (by kernel_rfl) ?_; simp only [Act.put, setIfInBounds_toArray, getElem_toArray, getElem_cons_succ, getElem_cons_zero, set_cons_succ, set_cons_zero])
        (refine HoistK.no (by rfl) (by kernel_rfl) ?_; simp only [Act.put, setIfInBounds_toArray, getElem_toArray, getElem_cons_succ, getElem_cons_zero, set_cons_succ, set_cons_zero])
        (refine HoistK.no (by rfl) (by kernel_rfl) ?_; simp only [Act.put, setIfInBounds_toArray, getElem_toArray, getElem_cons_succ, getElem_cons_zero, set_cons_succ, set_cons_zero])
        (refine HoistK.no (by rfl) (by kernel_rfl) ?_; simp only [Act.put, setIfInBounds_toArray, getElem_toArray, getElem_cons_succ, getElem_cons_zero, set_cons_succ, set_cons_zero])
        (refine HoistK.no (by rfl) (by kernel_rfl) ?_; simp only [Act.put, setIfInBounds_toArray, getElem_toArray, getElem_cons_succ, getElem_cons_zero, set_cons_succ, set_cons_zero])
        (refine HoistK.no (by rfl) (by kernel_rfl) ?_; simp only [Act.put, setIfInBounds_toArray, getElem_toArray, getElem_cons_succ, getElem_cons_zero, set_cons_succ, set_cons_zero])
        (refine HoistK.no (by rfl) (by kernel_rfl) ?_; simp only [Act.put, setIfInBounds_toArray, getElem_toArray, getElem_cons_succ, getElem_cons_zero, set_cons_succ, set_cons_zero])
        refine HoistK.nil_ ?_
        simp only [opsAt, filterMap_cons, filterMap_nil, getElem?_toArray, getElem?_cons_succ, getElem?_cons_zero]
        refine EffS.cons_ fun _ hQ => ?_
        go_wp2_with fail
        refine hQ _ _ hS9 (EffS.nil_ fun _ hQ => ?_)
        clear hS9
        have HZ2 := Lib.hid (show z = wantX l (O.take (k + 1)) f by rw [HWS.out]; exact hz.out)
        go_wp2_with fail
        exact ⟨⟨k + 1, by omega, by push_cast; rfl, ⟨_, rfl, HZ2⟩, HB9⟩, by simp only [intOf]; omega⟩
      · by_cases hgf : g = f
        · subst hgf
          iterate 5 (refine HoistK.yes (by rfl) (by kernel_rfl) ⟨?_, fun w' hSw => ?_, ?_⟩; rotate_left; (· go_simp; try with_reducible rfl); simp only [Act.put, setIfInBounds_toArray, getElem_toArray, getElem_cons_succ, getElem_cons_zero, set_cons_succ, set_cons_zero])
          (refine HoistK.yes (by rfl) (by kernel_rfl) ⟨?_, fun w' hSw => ?_, ?_⟩; rotate_left; (· have hcg := hSw.1 1 _ HCG.out; have hcf := hSw.2.cell 1; rw [getElem?_toArray, HCF.out] at hcf; go_simp; try with_reducible rfl); simp only [Act.put, setIfInBounds_toArray, getElem_toArray, getElem_cons_succ, getElem_cons_zero, set_cons_succ, set_cons_zero])
          (refine HoistK.yes (by rfl) (by kernel_rfl) ⟨?_, fun w' hSw => ?_, ?_⟩; rotate_left; (· go_simp; try with_reducible rfl); simp only [Act.put, setIfInBounds_toArray, getElem_toArray, getElem_cons_succ, getElem_cons_zero, set_cons_succ, set_cons_zero])
          (refine HoistK.yes (by rfl) (by kernel_rfl) ⟨?_, fun w' hSw => ?_, ?_⟩; rotate_left; (· have hcg := hSw.1 1 _ HCG.out; have hcf := hSw.2.cell 1; rw [getElem?_toArray, HCF.out] at hcf; go_simp; try with_reducible rfl); simp only [Act.put, setIfInBounds_toArray, getElem_toArray, getElem_cons_succ, getElem_cons_zero, set_cons_succ, set_cons_zero])
          (refine HoistK.yes (by rfl) (by kernel_rfl) ⟨?_, fun w' hSw => ?_, ?_⟩; rotate_left; (· go_simp; try with_reducible rfl); simp only [Act.put, setIfInBounds_toArray, getElem_toArray, getElem_cons_succ, getElem_cons_zero, set_cons_succ, set_cons_zero])
          refine HoistK.nil_ ?_
          simp only [opsAt, filterMap_cons, filterMap_nil, getElem?_toArray, getElem?_cons_succ, getElem?_cons_zero]
          refine EffS.cons_ fun _ hQ => ?_
          go_wp2_with fail
          refine hQ _ _ hS9 (EffS.nil_ fun _ hQ => ?_)
          clear hS9
          have HZ2 := Lib.hid (show (z + 1) % 18446744073709551616 = wantX l (O.take (k + 1)) g by rw [HWS.out, ← hz.out]; simp)
          have hwz : IntKind.u64.wrap (z + 1) = (z + 1) % 18446744073709551616 := wrap_u _
          obtain ⟨z2, hz2⟩ : ∃ z2, z2 = (z + 1) % 18446744073709551616 := ⟨_, rfl⟩
          rw [← hz2] at HZ2 hwz
          clear hz2 hz
          go_wp2_with fail
          exact ⟨⟨k + 1, by omega, by push_cast; rfl, ⟨_, rfl, HZ2⟩, HB9⟩, by simp only [intOf]; omega⟩
        · have hgb : (g == f) = false := by simpa using hgf
          iterate 5 (refine HoistK.yes (by rfl) (by kernel_rfl) ⟨?_, fun w' hSw => ?_, ?_⟩; rotate_left; (· go_simp; try with_reducible rfl); simp only [Act.put, setIfInBounds_toArray, getElem_toArray, getElem_cons_succ, getElem_cons_zero, set_cons_succ, set_cons_zero])
          (refine HoistK.yes (by rfl) (by kernel_rfl) ⟨?_, fun w' hSw => ?_, ?_⟩; rotate_left; (· have hcg := hSw.1 1 _ HCG.out; have hcf := hSw.2.cell 1; rw [getElem?_toArray, HCF.out] at hcf; go_simp; try with_reducible rfl); simp only [Act.put, setIfInBounds_toArray, getElem_toArray, getElem_cons_succ, getElem_cons_zero, set_cons_succ, set_cons_zero])
          (refine HoistK.yes (by rfl) (by kernel_rfl) ⟨?_, fun w' hSw => ?_, ?_⟩; rotate_left; (· go_simp; try with_reducible rfl); simp only [Act.put, setIfInBounds_toArray, getElem_toArray, getElem_cons_succ, getElem_cons_zero, set_cons_succ, set_cons_zero])
          (refine HoistK.yes (by rfl) (by kernel_rfl) ⟨?_, fun w' hSw => ?_, ?_⟩; rotate_left; (· have hcg := hSw.1 1 _ HCG.out; have hcf := hSw.2.cell 1; rw [getElem?_toArray, HCF.out] at hcf; go_simp; try with_reducible rfl); simp only [Act.put, setIfInBounds_toArray, getElem_toArray, getElem_cons_succ, getElem_cons_zero, set_cons_succ, set_cons_zero])
          (refine HoistK.yes (by rfl) (by kernel_rfl) ⟨?_, fun w' hSw => ?_, ?_⟩; rotate_left; (· go_simp; try with_reducible rfl); simp only [Act.put, setIfInBounds_toArray, getElem_toArray, getElem_cons_succ, getElem_cons_zero, set_cons_succ, set_cons_zero])
          refine HoistK.nil_ ?_
          simp only [opsAt, filterMap_cons, filterMap_nil, getElem?_toArray, getElem?_cons_succ, getElem?_cons_zero]
          refine EffS.cons_ fun _ hQ => ?_
          go_wp2_with fail
          refine hQ _ _ hS9 (EffS.nil_ fun _ hQ => ?_)
          clear hS9
          have HZ2 := Lib.hid (show z = wantX l (O.take (k + 1)) f by rw [HWS.out, hgb]; exact hz.out)
          go_wp2_with fail
          exact ⟨⟨k + 1, by omega, by push_cast; rfl, ⟨_, rfl, HZ2⟩, HB9⟩, by simp only [intOf]; omega⟩
    · have ek : k = n := by omega
      subst ek
      have HZ2 := Lib.hid (show z = wantX l O f by have h := hz.out; rwa [HN.out, List.take_length] at h)
      have hcn : wr.cell? ⟨w.heap.size + 1, 4, none⟩ = some (.int .u64 nn) := by rw [(blk_low HY1.out hb.out).cell, getElem?_toArray]; exact HCN.out
      have HBE := Lib.hid (HAL.out.trans (hb.out.mono HAL.out.size))
      clear hb hz
      go_wp2_with fail
      go_ret
      exact ⟨by rw [HG.out, ← HZ2.out]; rfl, HBE.out⟩
end
section
open Go.RowKit Go.Maps
theorem TxsO.one {w : World} {S : Nat → Prop} {A : Option Addr} {n cap : Nat} {X : List TxE} (h : TxsO S w (.slice A n cap) X) (hn : n = X.length) {k : Nat} (hk : k < n) :
    ∃ b off C, A = some ⟨b, off, none⟩ ∧ (∀ w', Below w.heap.size w w' → w'.rangeAt b (off + k * 41) C ∧ tTx.rep w' S (X[k]'(by omega)) C) ∧ C.length = 41 := by
  obtain ⟨css, ho, _, h2⟩ := h
  obtain ⟨hl, A', cap', e, _, _, hp⟩ := Cs.of_own (S := fun _ => True) ho fun _ _ => trivial
  injection e with e1 e2 e3
  subst e1
  obtain ⟨b, off, rfl, _, _, hcell⟩ := hp (by omega)
  obtain ⟨C, hc1, hr⟩ := h2.get k (by omega)
  have hcl : C.length = 41 := Sh.rep_size tTx _ _ hr
  have hrng : w.rangeAt b (off + k * 41) C := fun j u hj => by
    have hjl := (List.getElem?_eq_some_iff.1 hj).1
    have hf := flatten_get (m := 41) css k C (fun c hc => by obtain ⟨a, ha⟩ := h2.right c hc; exact Sh.rep_size tTx _ _ ha) hc1 j (by omega)
    rw [Nat.add_assoc]
    exact hcell _ u (by rw [hf]; exact hj)
  exact ⟨b, off, C, rfl, fun w' hb => ⟨range_low hrng hb, Sh.rep_below hr hb⟩, hcl⟩
def RNx (w : World) (ss : List Value) (U : Nat → Prop) (wr : World) (o : Value) (O : List TxE) : Prop :=
  TxsO U wr o O ∧ (∀ b, o.ownBlock = some b → w.heap.size < b) ∧ Blk wr w.heap.size 34 ss.toArray ∧ Below w.heap.size w wr
theorem RNx.below {w wr w' : World} {ss : List Value} {U : Nat → Prop} {o : Value} {O : List TxE} (h : RNx w ss U wr o O) (hb : Below wr.heap.size wr w') : RNx w ss U w' o O :=
  ⟨h.1.below hb, h.2.1, h.2.2.1.below hb h.2.2.1.lt, h.2.2.2.trans (hb.mono h.2.2.2.size)⟩
theorem RNx.start (w : World) (ss : List Value) {U : Nat → Prop} (hU : ∀ b, U b → b < w.heap.size) : RNx w ss U ((w.alloc (.cells ss.toArray 34)).alloc (.cells #[] 40)) (.slice (some ⟨w.heap.size + 1, 0, none⟩) 0 0) [] := by
  have hz : (w.alloc (.cells ss.toArray 34)).heap.size = w.heap.size + 1 := by simp
  refine ⟨⟨[], ?_, fun b h h' => ?_, .nil⟩, fun b h => ?_, (Blk.new w 34 ss.toArray).alloc _, ((Below.refl _ w).alloc (Nat.le_refl _) _).alloc (by simp) _⟩
  · have h := Own.empty (w.alloc (.cells ss.toArray 34)) 40 41
    rw [hz] at h
    exact h
  · simp [Value.ownBlock] at h
    have := hU b h'
    omega
  · simp [Value.ownBlock] at h
    omega
theorem RNx.snoc {w wr w6 : World} {ss : List Value} {U : Nat → Prop} {o o' : Value} {O : List TxE} {css : List (List Value)} {x : TxE} {C : List Value} (hU : ∀ b, U b → b < w.heap.size)
    (h : RNx w ss U wr o O) (_hown : Own wr 40 41 o O.length css.flatten) (htwo : Two (tTx.rep wr U) O css) (hr : tTx.rep wr U x C) (ho6 : Own w6 40 41 o' (O.length + 1) (css.flatten ++ C))
    (hc6 : Chg (fun b => o.ownBlock = some b) (wr.alloc (.cells C.toArray 40)) w6) (hat : o'.ownBlock = o.ownBlock ∨ o'.ownBlock = some (wr.alloc (.cells C.toArray 40)).heap.size) : RNx w ss U w6 o' (O ++ [x]) := by
  obtain ⟨h1, h2, h3, h4⟩ := h
  have hns : ∀ b, o.ownBlock = some b → ¬ U b := fun b hb hu => by have := h2 b hb; have := hU b hu; omega
  have hz : (wr.alloc (.cells C.toArray 40)).heap.size = wr.heap.size + 1 := by simp
  have h5 : ∀ b, o'.ownBlock = some b → w.heap.size < b := fun b hb => by
    rcases hat with e | e
    · exact h2 b (e ▸ hb)
    · rw [e, hz] at hb; injection hb with hb
      have := h3.lt; omega
  have hal := h4.alloc h4.size (.cells C.toArray 40)
  refine ⟨TxsO.snoc (S' := U) hns htwo (Below.refl _ _) hr (Below.refl _ _) ho6 hc6 (fun _ h _ => h) (fun b h _ h' => hns b h' h) (fun _ h _ => h) fun b hb hu => ?_, h5, (h3.alloc _).chg hc6 fun h => ?_, hal.trans (hc6.below hal.size fun b h => Nat.le_of_lt (h2 b h))⟩
  · have := h5 b hb; have := hU b hu; omega
  · have := h2 _ h; omega
end
section
open Go.RowKit Go.Maps
attribute [-simp] Tryz.isAgg34 Tryz.typeInfo34 Tryz.isAgg40 Tryz.typeInfo40 Tryz.isAgg37 Tryz.typeInfo37 Tryz.isAgg57 Tryz.typeInfo57
set_option maxHeartbeats 16000000 in
set_option maxRecDepth 100000 in
theorem rnext_any (w : World) {S U : Nat → Prop} {l : List (Int × Int × Int × Unit)} {ss : List Value} {n : Int} {g most : Nat} {v : Value} {X : List TxE} (hs : StA w S l ss) (hso : SortA l) (hbr : ∀ f, 0 ≤ baseX l f ∧ baseX l f < 18446744073709551616) (hp : RPool U w g v most X)
    (hX : ∀ y ∈ X, (tTx.enc y).length ≤ 1099511627776) (hnd : (encsX X).Nodup) (hU : ∀ b, U b → b < w.heap.size) :
    Calls Tryz.prog 17 #[.pointer (some ⟨g, 0, none⟩), .agg ss.toArray, .int .i64 n] w fun e w' => ∃ v', e = .returned v' ∧ (∃ S', (Sh.list tTx).rep w' S' (nextX l (min n 8).toNat X) [v']) ∧ Below w.heap.size w w' := by
  have hrn := rnextX_eq (la := l) hnd (min n 8).toNat
  obtain ⟨m, hm⟩ : ∃ m, m = (min n 8).toNat := ⟨_, rfl⟩
  rw [← hm] at hrn ⊢
  have HBR := Lib.hid hbr
  clear hbr hnd
  obtain ⟨nX, hnX⟩ : ∃ n, n = X.length := ⟨_, rfl⟩
  obtain ⟨A, cap, rfl⟩ := hp.2.2.2.1.form
  have e0 : (Value.slice A X.length cap) = .slice A nX cap := by rw [hnX]
  rw [e0] at hp
  have hnX32 : nX ≤ 32 := by have h1 := hp.1; have h2 := hp.2.1; omega
  have HST := Lib.hid (st_of hs)
  have HS := Lib.hid hs
  have HSO := Lib.hid hso
  have HP := Lib.hid hp
  have HLX := Lib.hid hX
  have HUU := Lib.hid hU
  have HNX := Lib.hid hnX
  have HR0 := Lib.hid (RNx.start w ss hU)
  have HG := Lib.hid (show ∀ w', Below w.heap.size w w' → Blk w' g 51 #[.int .i64 most, .slice A nX cap] from fun w' h => blk_low hp.2.2.1 h)
  have HRN := Lib.hid hrn
  clear hrn
  clear hs hso hp hX hU hnX e0
  go_enter Tryz.func17, Tryz.ntmps17
  go_wp2_with fail
  have HKM : Hid (∀ k : Nat, (k < m → (k : Int) < n ∧ (k : Int) < 8) ∧ (k = m → ¬ (k : Int) < n ∨ ((k : Int) < n ∧ ¬ (k : Int) < 8))) := Lib.hid (fun k => by omega)
  have hm8 : m ≤ 8 := by omega
  clear hm
  go_loopw [7] (fun o wr => ∃ O, Hid (RNx w ss U wr o O) ∧ Hid (rnextX l X (m - O.length) O = nextX l m X ∧ O.length ≤ m ∧ ∀ y ∈ O, y ∈ X)) (fun o _ => m - lenV o)
  case atStart => exact ⟨[], HR0, Lib.hid ⟨HRN.out, Nat.zero_le _, fun y h => by cases h⟩⟩
  case round =>
    obtain ⟨O, hR, hO⟩ := hrel
    obtain ⟨AO, cO, rfl⟩ := hR.out.1.form
    obtain ⟨kO, hkO⟩ : ∃ k, k = O.length := ⟨_, rfl⟩
    have hkm : kO ≤ m := by rw [hkO]; exact hO.out.2.1
    have HKO := Lib.hid hkO
    rw [← hkO] at hR ⊢
    have HLO := Lib.hid (show ∀ y ∈ O, (tTx.enc y).length ≤ 1099511627776 from fun y h => HLX.out y (hO.out.2.2 y h))
    clear hkO
    have hend : ∀ (v' : Value) (w' : World), RNx w ss U w' v' O → X.find? (pickX l O) = none ∨ kO = m → ∃ v'', Ending.returned v' = .returned v'' ∧ (∃ S', (Sh.list tTx).rep w' S' (nextX l m X) [v'']) ∧ Below w.heap.size w w' := fun v' w' h he => by
      have h1 := hO.out.1
      have h2 : rnextX l X (m - O.length) O = O := by
        rcases he with he | he
        · exact rnextX_none he
        · rw [← HKO.out, he, Nat.sub_self]; rfl
      rw [h2] at h1
      rw [← h1]
      exact ⟨v', rfl, ⟨_, h.1.list⟩, h.2.2.2⟩
    have HEND := Lib.hid hend
    clear hend
    by_cases hlt : kO < m
    · obtain ⟨h1, h2⟩ := (HKM.out kO).1 hlt
      have hg := HG.out _ hR.out.2.2.2
      have hg1 : wr.cell? ⟨g, 1, none⟩ = some (.slice A nX cap) := by rw [hg.cell]; rfl
      have hAT := Lib.hid (HNX.out ▸ AtX.start l O X : AtX l O X nX (-1))
      clear hg
      go_wp2_with fail
      clear hg1 h1 h2
      obtain ⟨i0, hi0⟩ : ∃ i, i = (nX : Int) - 1 := ⟨_, rfl⟩
      rw [← hi0]
      have HI0 := Lib.hid hi0
      clear hi0
      go_loopw [8, 9] (fun a i wr => ∃ (j : Nat) (av iv : Int), j ≤ nX ∧ a = .int .i64 av ∧ i = .int .i64 iv ∧ iv = (j : Int) - 1 ∧ Hid (AtX l O X j av) ∧ Hid (RNx w ss U wr (.slice AO kO cO) O)) (fun _ i _ => (intOf i + 1).toNat)
      case atStart => exact ⟨nX, -1, i0, Nat.le_refl _, rfl, rfl, HI0.out, hAT, hR⟩
      case round =>
        clear hR hAT HI0
        obtain ⟨j, av, iv, hj, rfl, rfl, hiv, ha, hR⟩ := hrel
        by_cases hj0 : 0 < j
        · obtain ⟨j, rfl⟩ : ∃ q, j = q + 1 := ⟨j - 1, by omega⟩
          obtain rfl : iv = (j : Int) := by omega
          clear hiv hj0
          have hjX : j < nX := by omega
          have hjL : j < X.length := by rw [← HNX.out]; exact hjX
          obtain ⟨b, off, C, hA, HC, hCl⟩ := HP.out.2.2.2.1.one HNX.out hjX
          have HJ := Lib.hid (tx_size hCl)
          have HPK := Lib.hid (pick_iff l O X[j])
          have HFT := Lib.hid (fits_want l O X[j])
          have HYES := Lib.hid (fun h => AtX.yes (la := l) (out := O) hjL h)
          have HNO := Lib.hid (fun h => AtX.no (la := l) (out := O) hjL h ha.out)
          have HLT := Lib.hid (HLX.out _ (List.getElem_mem hjL))
          obtain ⟨t, ht⟩ : ∃ t, t = X[j] := ⟨_, rfl⟩
          rw [← ht] at HPK HFT HYES HNO HLT
          have HC := Lib.hid (show ∀ w', Below w.heap.size w w' → w'.rangeAt b (off + j * 41) C ∧ tTx.rep w' U t C from fun w' h => by rw [ht]; exact HC w' h)
          subst hA
          have hbw := hR.out.2.2.2
          have hbd := hbw.trans (((Below.refl wr.heap.size wr).drew).mono hbw.size)
          have hSS : Blk wr.drew g 51 #[.int .i64 most, .slice (some ⟨b, off, none⟩) nX cap] ∧ Blk wr.drew w.heap.size 34 ss.toArray ∧ wr.drew.rangeAt b (off + j * 41) C := ⟨HG.out _ hbd, hR.out.2.2.1.drew, (HC.out _ hbd).1⟩
          clear ht hCl hjL ha hbw
          go_wp2_with fail
          refine wp_region_segsV [([0, 1, 2, 3, 4, 5, 6, 7], [8]), ([9, 10, 11, 12, 13, 14, 15, 16, 17, 18, 19], [20]), ([], [21])] (by kernel_rfl) (by kernel_rfl) (by kernel_rfl) (by kernel_rfl)
            (SegV.mk (fun w' => Blk w' g 51 #[.int .i64 most, .slice (some ⟨b, off, none⟩) nX cap] ∧ Blk w' w.heap.size 34 ss.toArray ∧ w'.rangeAt b (off + j * 41) C) (fun _ _ => trivial) hSS ?_)
          (refine HoistK.yes (by rfl) (by kernel_rfl) ⟨?_, fun w' hSw => ?_, ?_⟩; rotate_left; (· go_simp; try with_reducible rfl); simp only [Act.put, setIfInBounds_toArray, getElem_toArray, getElem_cons_zero, set_cons_succ, set_cons_zero])
          iterate 3 (refine HoistK.yes (by rfl) (by kernel_rfl) ⟨?_, fun w' hSw => ?_, ?_⟩; rotate_left; (· go_simp; try with_reducible rfl); simp only [Act.put, setIfInBounds_toArray, getElem_toArray, getElem_cons_succ, getElem_cons_zero, set_cons_succ, set_cons_zero])
          (refine HoistK.yes (by rfl) (by kernel_rfl) ⟨?_, fun w' hSw => ?_, ?_⟩; rotate_left; (· have hcg : w'.cell? ⟨g, 1, none⟩ = some (.slice (some ⟨b, off, none⟩) nX cap) := (by rw [hSw.1.cell]; rfl); go_simp; try with_reducible rfl); simp only [Act.put, setIfInBounds_toArray, getElem_toArray, getElem_cons_succ, getElem_cons_zero, set_cons_succ, set_cons_zero])
          iterate 2 (refine HoistK.yes (by rfl) (by kernel_rfl) ⟨?_, fun w' hSw => ?_, ?_⟩; rotate_left; (· go_simp; try with_reducible rfl); simp only [Act.put, setIfInBounds_toArray, getElem_toArray, getElem_cons_succ, getElem_cons_zero, set_cons_succ, set_cons_zero])
          (refine HoistK.load (by rfl) (by kernel_rfl) 40 _ rfl b (off + j * 41) rfl C _ (fun w' hw => hw.2.2) Tryz.underlying40 rfl HJ.out ?_; simp only [Act.put, setIfInBounds_toArray, getElem_toArray, getElem_cons_succ, getElem_cons_zero, set_cons_succ, set_cons_zero])
          refine HoistK.nil_ ?_
          simp only [opsAt, filterMap_cons, filterMap_nil, getElem?_toArray, getElem?_cons_succ, getElem?_cons_zero]
          refine EffS.cons_ fun _ hQ => ?_
          go_wp2_with fail
          refine (rin_any wr.drew (Sh.rep_below hR.out.1.list ((Below.refl wr.heap.size wr).drew)) (HC.out _ hbd).2 HLO.out HLT.out).mono ?_
          rintro e w9 ⟨rfl, hb9⟩
          have hb59 := hbd.trans (hb9.mono hbd.size)
          have hS9 : Blk w9 g 51 #[.int .i64 most, .slice (some ⟨b, off, none⟩) nX cap] ∧ Blk w9 w.heap.size 34 ss.toArray ∧ w9.rangeAt b (off + j * 41) C := ⟨HG.out _ hb59, hSS.2.1.below hb9 hSS.2.1.lt, (HC.out _ hb59).1⟩
          have HR9 := Lib.hid (hR.out.below ((((Below.refl wr.heap.size wr).drew)).trans hb9))
          have HB9 := Lib.hid hb59
          obtain ⟨q, hq⟩ : ∃ q, q = inX O t := ⟨_, rfl⟩
          rw [← hq] at HPK ⊢
          clear hq hb9 hb59 hSS hbd hR
          go_wp2_with fail
          refine hQ _ _ hS9 (EffS.nil_ (SegV.mk (fun w' => Blk w' g 51 #[.int .i64 most, .slice (some ⟨b, off, none⟩) nX cap] ∧ Blk w' w.heap.size 34 ss.toArray ∧ w'.rangeAt b (off + j * 41) C) (fun _ h => h) hS9 ?_))
          cases q
          rotate_left
          · (refine HoistK.yes (by rfl) (by kernel_rfl) ⟨?_, fun w' hSw => ?_, ?_⟩; rotate_left; (· go_simp; try with_reducible rfl); simp only [Act.put, setIfInBounds_toArray, getElem_toArray, getElem_cons_succ, getElem_cons_zero, set_cons_succ, set_cons_zero])
            (refine HoistK.yes (by rfl) (by kernel_rfl) ⟨?_, fun w' hSw => ?_, ?_⟩; rotate_left; (· go_simp; try with_reducible rfl); simp only [Act.put, setIfInBounds_toArray, getElem_toArray, getElem_cons_succ, getElem_cons_zero, set_cons_succ, set_cons_zero])
            (refine HoistK.no (by rfl) (by kernel_rfl) ?_; simp only [Act.put, setIfInBounds_toArray, getElem_toArray, getElem_cons_succ, getElem_cons_zero, set_cons_succ, set_cons_zero])
            (refine HoistK.no (by rfl) (by kernel_rfl) ?_; simp only [Act.put, setIfInBounds_toArray, getElem_toArray, getElem_cons_succ, getElem_cons_zero, set_cons_succ, set_cons_zero])
            (refine HoistK.no (by rfl) (by kernel_rfl) ?_; simp only [Act.put, setIfInBounds_toArray, getElem_toArray, getElem_cons_succ, getElem_cons_zero, set_cons_succ, set_cons_zero])
            (refine HoistK.no (by rfl) (by kernel_rfl) ?_; simp only [Act.put, setIfInBounds_toArray, getElem_toArray, getElem_cons_succ, getElem_cons_zero, set_cons_succ, set_cons_zero])
            (refine HoistK.no (by rfl) (by kernel_rfl) ?_; simp only [Act.put, setIfInBounds_toArray, getElem_toArray, getElem_cons_succ, getElem_cons_zero, set_cons_succ, set_cons_zero])
            (refine HoistK.no (by rfl) (by kernel_rfl) ?_; simp only [Act.put, setIfInBounds_toArray, getElem_toArray, getElem_cons_succ, getElem_cons_zero, set_cons_succ, set_cons_zero])
            (refine HoistK.no (by rfl) (by kernel_rfl) ?_; simp only [Act.put, setIfInBounds_toArray, getElem_toArray, getElem_cons_succ, getElem_cons_zero, set_cons_succ, set_cons_zero])
            (refine HoistK.no (by rfl) (by kernel_rfl) ?_; simp only [Act.put, setIfInBounds_toArray, getElem_toArray, getElem_cons_succ, getElem_cons_zero, set_cons_succ, set_cons_zero])
            (refine HoistK.no (by rfl) (by kernel_rfl) ?_; simp only [Act.put, setIfInBounds_toArray, getElem_toArray, getElem_cons_succ, getElem_cons_zero, set_cons_succ, set_cons_zero])
            refine HoistK.nil_ ?_
            simp only [opsAt, filterMap_cons, filterMap_nil, getElem?_toArray, getElem?_cons_succ, getElem?_cons_zero]
            refine EffS.cons_ fun _ hQ => ?_
            go_wp2_with fail
            refine hQ _ _ hS9 (EffS.nil_ (SegV.mk (fun w' => Blk w' g 51 #[.int .i64 most, .slice (some ⟨b, off, none⟩) nX cap] ∧ Blk w' w.heap.size 34 ss.toArray ∧ w'.rangeAt b (off + j * 41) C) (fun _ h => h) hS9 ?_))
            refine HoistK.nil_ ?_
            simp only [opsAt, filterMap_cons, filterMap_nil, getElem?_toArray, getElem?_cons_succ, getElem?_cons_zero]
            refine EffS.cons_ fun _ hQ => ?_
            go_wp2_with fail
            refine hQ _ _ hS9 (EffS.nil_ fun _ hQ => ?_)
            clear hS9
            go_wp2_with fail
            exact ⟨⟨j, av, (j : Int) - 1, by omega, rfl, rfl, rfl, Lib.hid (HNO.out (by rw [HPK.out]; rfl)), HR9⟩, by simp only [intOf]; omega⟩
          iterate 2 (refine HoistK.yes (by rfl) (by kernel_rfl) ⟨?_, fun w' hSw => ?_, ?_⟩; rotate_left; (· go_simp; try with_reducible rfl); simp only [Act.put, setIfInBounds_toArray, getElem_toArray, getElem_cons_succ, getElem_cons_zero, set_cons_succ, set_cons_zero])
          (refine HoistK.load (by rfl) (by kernel_rfl) 34 _ rfl w.heap.size 0 rfl ss _ (fun w' hw => hw.2.1.range) Tryz.underlying34 rfl HST.out ?_; simp only [Act.put, setIfInBounds_toArray, getElem_toArray, getElem_cons_succ, getElem_cons_zero, set_cons_succ, set_cons_zero])
          iterate 4 (refine HoistK.yes (by rfl) (by kernel_rfl) ⟨?_, fun w' hSw => ?_, ?_⟩; rotate_left; (· go_simp; try with_reducible rfl); simp only [Act.put, setIfInBounds_toArray, getElem_toArray, getElem_cons_succ, getElem_cons_zero, set_cons_succ, set_cons_zero])
          (refine HoistK.yes (by rfl) (by kernel_rfl) ⟨?_, fun w' hSw => ?_, ?_⟩; rotate_left; (· have hcg : w'.cell? ⟨g, 1, none⟩ = some (.slice (some ⟨b, off, none⟩) nX cap) := (by rw [hSw.1.cell]; rfl); go_simp; try with_reducible rfl); simp only [Act.put, setIfInBounds_toArray, getElem_toArray, getElem_cons_succ, getElem_cons_zero, set_cons_succ, set_cons_zero])
          iterate 2 (refine HoistK.yes (by rfl) (by kernel_rfl) ⟨?_, fun w' hSw => ?_, ?_⟩; rotate_left; (· go_simp; try with_reducible rfl); simp only [Act.put, setIfInBounds_toArray, getElem_toArray, getElem_cons_succ, getElem_cons_zero, set_cons_succ, set_cons_zero])
          (refine HoistK.load (by rfl) (by kernel_rfl) 40 _ rfl b (off + j * 41) rfl C _ (fun w' hw => hw.2.2) Tryz.underlying40 rfl HJ.out ?_; simp only [Act.put, setIfInBounds_toArray, getElem_toArray, getElem_cons_succ, getElem_cons_zero, set_cons_succ, set_cons_zero])
          refine HoistK.nil_ ?_
          simp only [opsAt, filterMap_cons, filterMap_nil, getElem?_toArray, getElem?_cons_succ, getElem?_cons_zero]
          refine EffS.cons_ fun _ hQ => ?_
          go_wp2_with fail
          refine (rmayN_any w9 (HS.out.below HB9.out) HSO.out HR9.out.1.list (HC.out _ HB9.out).2 (HBR.out _)).mono ?_
          rintro e w10 ⟨rfl, hb10⟩
          have hb60 := HB9.out.trans (hb10.mono HB9.out.size)
          have hS10 : Blk w10 g 51 #[.int .i64 most, .slice (some ⟨b, off, none⟩) nX cap] ∧ Blk w10 w.heap.size 34 ss.toArray ∧ w10.rangeAt b (off + j * 41) C := ⟨HG.out _ hb60, hS9.2.1.below hb10 hS9.2.1.lt, (HC.out _ hb60).1⟩
          have HR10 := Lib.hid (HR9.out.below hb10)
          obtain ⟨q, hq⟩ : ∃ q, q = fitsX l O t := ⟨_, rfl⟩
          rw [← HFT.out, ← hq] at HPK
          rw [← hq]
          clear hq hb10 hb60 hS9 HR9 HB9
          go_wp2_with fail
          refine hQ _ _ hS10 (EffS.nil_ (SegV.mk (fun w' => Blk w' g 51 #[.int .i64 most, .slice (some ⟨b, off, none⟩) nX cap] ∧ Blk w' w.heap.size 34 ss.toArray ∧ w'.rangeAt b (off + j * 41) C) (fun _ h => h) hS10 ?_))
          refine HoistK.nil_ ?_
          simp only [opsAt, filterMap_cons, filterMap_nil, getElem?_toArray, getElem?_cons_succ, getElem?_cons_zero]
          refine EffS.cons_ fun _ hQ => ?_
          go_wp2_with fail
          refine hQ _ _ hS10 (EffS.nil_ fun _ hQ => ?_)
          clear hS10
          cases q
          · go_wp2_with fail
            exact ⟨⟨j, av, (j : Int) - 1, by omega, rfl, rfl, rfl, Lib.hid (HNO.out (by rw [HPK.out]; rfl)), HR10⟩, by simp only [intOf]; omega⟩
          · go_wp2_with fail
            exact ⟨⟨j, j, (j : Int) - 1, by omega, rfl, rfl, rfl, Lib.hid (HYES.out (by rw [HPK.out]; rfl)), HR10⟩, by simp only [intOf]; omega⟩
        · obtain rfl : j = 0 := by omega
          obtain rfl : iv = -1 := by omega
          clear hiv hj0 hj
          rcases ha.out.done with ⟨e, hf⟩ | ⟨p, hpX, e, hf⟩
          · subst e
            have HE := Lib.hid (HEND.out _ _ hR.out (.inl hf))
            clear ha hf
            go_wp2_with fail
            go_ret
            exact HE.out
          · subst e
            have hpn : p < nX := by rw [HNX.out]; exact hpX
            have HSOME := Lib.hid (rnextX_some (n := m - (O.length + 1)) hf)
            have HMEM := Lib.hid (List.getElem_mem hpX)
            obtain ⟨b, off, C, hA, HC, hCl⟩ := HP.out.2.2.2.1.one HNX.out hpn
            have HJ := Lib.hid (tx_size hCl)
            obtain ⟨t, ht⟩ : ∃ t, t = X[p] := ⟨_, rfl⟩
            rw [← ht] at HSOME HMEM
            have HC := Lib.hid (show ∀ w', Below w.heap.size w w' → w'.rangeAt b (off + p * 41) C ∧ tTx.rep w' U t C from fun w' h => by rw [ht]; exact HC w' h)
            subst hA
            have HRG := Lib.hid (HC.out _ hR.out.2.2.2).1
            have HREP := Lib.hid (HC.out _ hR.out.2.2.2).2
            have hp0 : ¬ (p : Int) < 0 := by omega
            have hg1 : wr.cell? ⟨g, 1, none⟩ = some (.slice (some ⟨b, off, none⟩) nX cap) := by rw [(HG.out _ hR.out.2.2.2).cell]; rfl
            have hk8 : kO < 8 := by omega
            clear ha hf ht hpX
            have HCL := Lib.hid hCl
            have H1 := Lib.hid (Sh.rep_one _ _ _ HREP.out)
            have HI2 := Lib.hid (show (Tryz.prog.info? 40).map (fun i => (i.zero.map (fun z => z.cells.size), i.size)) = some (some C.length, C.length) from by rw [HCL.out]; exact sizes_tx)
            obtain ⟨css, hown, _, htwo⟩ := hR.out.1
            have HOWN := Lib.hid hown
            have HTWO := Lib.hid htwo
            rw [← HKO.out] at hown
            have HO2 := Lib.hid (show ∀ ob, Own (wr.alloc ob) 40 41 (.slice AO kO cO) kO css.flatten from fun ob => own_keep hown fun b hb => Below.heap_alloc wr ob b (own_lt hown hb))
            have HSN := Lib.hid (Cs.of_new wr 40 (size := 41) 1 (cs := C) (by rw [HCL.out]) (by simp only [maxLen]; decide))
            have HU2 := Lib.hid (show kO + 1 ≤ maxLen ∧ (kO + 1) * 120 ≤ 140737488355328 from ⟨by simp only [maxLen]; omega, by omega⟩)
            clear hown htwo hCl
            go_wp2_with (first
              | (refine wpList_load_mid rfl 40 _ rfl b (off + p * 41) rfl C _ HRG.out Tryz.underlying40 rfl HJ.out ?_)
              | (refine wpList_row1 rfl 46 40 _ rfl Tryz.underlying46 (.agg C.toArray) rfl C rfl HI2.out (by rw [HCL.out]; decide) (by rw [HCL.out]; decide) ?_)
              | (at_builtin; refine wpList_app _ rfl _ _ _ rfl Tryz.underlying46 info_tx rfl (by decide) (HO2.out _) rfl HSN.out rfl H1.out HU2.out.1 HU2.out.2 ?_; intro v6 w6 ho6 hc6 hnil6 hat6; clear hnil6; obtain ⟨A6, c6, rfl⟩ := ho6.form; have HO6 := Lib.hid ho6; clear ho6; have HC6 := Lib.hid hc6; clear hc6; have HAT6 := Lib.hid hat6; clear hat6))
            have hsn := RNx.snoc HUU.out hR.out HOWN.out HTWO.out HREP.out (by rw [← HKO.out]; exact HO6.out) HC6.out HAT6.out
            refine ⟨⟨O ++ [t], Lib.hid hsn, Lib.hid ⟨?_, ?_, fun y hy => ?_⟩⟩, ?_⟩
            · have h1 := hO.out.1
              rw [show m - O.length = m - (O.length + 1) + 1 by have := HKO.out; omega, HSOME.out] at h1
              rw [List.length_append]
              exact h1
            · rw [List.length_append]
              have := HKO.out
              simp only [List.length_cons, List.length_nil]
              omega
            · rcases List.mem_append.1 hy with hy | hy
              · exact hO.out.2.2 y hy
              · rw [List.mem_singleton] at hy
                rw [hy]
                exact HMEM.out
            · simp only [lenV]
              omega
    · obtain rfl : kO = m := by omega
      have HE := Lib.hid (HEND.out _ _ hR.out (.inr rfl))
      rcases (HKM.out kO).2 rfl with h1 | ⟨h1, h2⟩
      · go_wp2_with fail
        go_ret
        exact HE.out
      · go_wp2_with fail
        go_ret
        exact HE.out
end
section
open Go.RowKit Go.Maps
attribute [-simp] Tryz.isAgg34 Tryz.typeInfo34 Tryz.isAgg40 Tryz.typeInfo40 Tryz.isAgg37 Tryz.typeInfo37 Tryz.isAgg57 Tryz.typeInfo57
set_option maxHeartbeats 16000000 in
set_option maxRecDepth 100000 in
theorem rdone_any (w : World) {S T U : Nat → Prop} {l : List (Int × Int × Int × Unit)} {ss : List Value} {y : Value} {Y : List TxE} {g most : Nat} {v : Value} {X : List TxE} (hs : StA w S l ss) (hso : SortA l) (hp : RPool U w g v most X)
    (hX : ∀ y ∈ X, (tTx.enc y).length ≤ 1099511627776) (hy : (Sh.list tTx).rep w T Y [y]) (hyl : ∀ y ∈ Y, (tTx.enc y).length ≤ 1099511627776) (hU : ∀ b, U b → b < w.heap.size) (hUg : ¬ U g) :
    Calls Tryz.prog 20 #[.pointer (some ⟨g, 0, none⟩), .agg ss.toArray, y] w fun e w' => e = .returned (.tuple #[]) ∧ ∃ v', RPool U w' g v' most (stayX l (encsX Y) X) ∧ Chg (fun b => b = g) w w' ∧ ∀ b, v'.ownBlock = some b → w.heap.size ≤ b := by
  have HY := Lib.hid hy
  have HYL := Lib.hid hyl
  have HUG := Lib.hid hUg
  obtain ⟨AY, cY, rfl, -, -⟩ := list_at hy
  obtain ⟨nY, hnY⟩ : ∃ n, n = Y.length := ⟨_, rfl⟩
  rw [← hnY] at HY ⊢
  clear hy hyl hUg hnY
  obtain ⟨nX, hnX⟩ : ∃ n, n = X.length := ⟨_, rfl⟩
  obtain ⟨A, cap, rfl⟩ := hp.2.2.2.1.form
  have e0 : (Value.slice A X.length cap) = .slice A nX cap := by rw [hnX]
  rw [e0] at hp
  have hnX32 : nX ≤ 32 := by have h1 := hp.1; have h2 := hp.2.1; omega
  have HST := Lib.hid (st_of hs)
  have HS := Lib.hid hs
  have HSO := Lib.hid hso
  have HP := Lib.hid hp
  have HLX := Lib.hid hX
  have HUU := Lib.hid hU
  have HNX := Lib.hid hnX
  have HR0 := Lib.hid (RNx.start w ss hU)
  have HG := Lib.hid (show ∀ w', Below w.heap.size w w' → Blk w' g 51 #[.int .i64 most, .slice A nX cap] from fun w' h => blk_low hp.2.2.1 h)
  clear hs hso hp hX hU hnX e0
  go_enter Tryz.func20, Tryz.ntmps20
  go_wp2_with fail
  go_loopw [6, 7] (fun o i wr => ∃ k : Nat, k ≤ nX ∧ i = .int .i64 k ∧ Hid (RNx w ss U wr o (stayX l (encsX Y) (X.take k)))) (fun _ i _ => nX - (intOf i).toNat)
  case atStart => exact ⟨0, Nat.zero_le _, rfl, HR0⟩
  case round =>
    obtain ⟨k, hk, rfl, hR⟩ := hrel
    have hg1 : wr.cell? ⟨g, 1, none⟩ = some (.slice A nX cap) := by rw [(HG.out _ hR.out.2.2.2).cell]; rfl
    have HLN := Lib.hid (stayX_len l (encsX Y) X k)
    by_cases hlt : k < nX
    · have hkL : k < X.length := by rw [← HNX.out]; exact hlt
      have HSN0 := Lib.hid (stayX_snoc l (encsX Y) X hkL)
      obtain ⟨O, hO⟩ : ∃ O, O = stayX l (encsX Y) (X.take k) := ⟨_, rfl⟩
      rw [← hO] at hR HSN0 HLN
      clear hO
      obtain ⟨AO, cO, rfl⟩ := hR.out.1.form
      obtain ⟨kO, hkO⟩ : ∃ k, k = O.length := ⟨_, rfl⟩
      have hkk : kO ≤ k := by rw [hkO]; exact HLN.out
      have HKO := Lib.hid hkO
      rw [← hkO] at hR ⊢
      clear hkO HLN
      obtain ⟨b, off, C, hA, HC, hCl⟩ := HP.out.2.2.2.1.one HNX.out hlt
      have HJ := Lib.hid (tx_size hCl)
      have HGN := Lib.hid (gone_iff l Y X[k])
      have HLT := Lib.hid (HLX.out _ (List.getElem_mem hkL))
      obtain ⟨t, ht⟩ : ∃ t, t = X[k] := ⟨_, rfl⟩
      rw [← ht] at HGN HLT HSN0
      obtain ⟨gn, hgn⟩ : ∃ q, q = goneP l (encsX Y) t := ⟨_, rfl⟩
      rw [← hgn] at HGN HSN0
      have HC := Lib.hid (show ∀ w', Below w.heap.size w w' → w'.rangeAt b (off + k * 41) C ∧ tTx.rep w' U t C from fun w' h => by rw [ht]; exact HC w' h)
      subst hA
      have hbw := hR.out.2.2.2
      have hbd := hbw.trans (((Below.refl wr.heap.size wr).drew).mono hbw.size)
      have hSS : Blk wr.drew g 51 #[.int .i64 most, .slice (some ⟨b, off, none⟩) nX cap] ∧ Blk wr.drew w.heap.size 34 ss.toArray ∧ wr.drew.rangeAt b (off + k * 41) C := ⟨HG.out _ hbd, hR.out.2.2.1.drew, (HC.out _ hbd).1⟩
      clear ht hgn hkL hbw
      go_wp2_with fail
      clear hg1
      refine wp_region_segsV [([0, 1, 2, 3, 4, 5, 6, 7], [8]), ([9, 10, 11, 12, 13, 14, 15, 16, 17, 18], [19]), ([20], [21])] (by kernel_rfl) (by kernel_rfl) (by kernel_rfl) (by kernel_rfl)
        (SegV.mk (fun w' => Blk w' g 51 #[.int .i64 most, .slice (some ⟨b, off, none⟩) nX cap] ∧ Blk w' w.heap.size 34 ss.toArray ∧ w'.rangeAt b (off + k * 41) C) (fun _ _ => trivial) hSS ?_)
      (refine HoistK.yes (by rfl) (by kernel_rfl) ⟨?_, fun w' hSw => ?_, ?_⟩; rotate_left; (· go_simp; try with_reducible rfl); simp only [Act.put, setIfInBounds_toArray, getElem_toArray, getElem_cons_zero, set_cons_succ, set_cons_zero])
      iterate 3 (refine HoistK.yes (by rfl) (by kernel_rfl) ⟨?_, fun w' hSw => ?_, ?_⟩; rotate_left; (· go_simp; try with_reducible rfl); simp only [Act.put, setIfInBounds_toArray, getElem_toArray, getElem_cons_succ, getElem_cons_zero, set_cons_succ, set_cons_zero])
      (refine HoistK.yes (by rfl) (by kernel_rfl) ⟨?_, fun w' hSw => ?_, ?_⟩; rotate_left; (· have hcg : w'.cell? ⟨g, 1, none⟩ = some (.slice (some ⟨b, off, none⟩) nX cap) := (by rw [hSw.1.cell]; rfl); go_simp; try with_reducible rfl); simp only [Act.put, setIfInBounds_toArray, getElem_toArray, getElem_cons_succ, getElem_cons_zero, set_cons_succ, set_cons_zero])
      iterate 2 (refine HoistK.yes (by rfl) (by kernel_rfl) ⟨?_, fun w' hSw => ?_, ?_⟩; rotate_left; (· go_simp; try with_reducible rfl); simp only [Act.put, setIfInBounds_toArray, getElem_toArray, getElem_cons_succ, getElem_cons_zero, set_cons_succ, set_cons_zero])
      (refine HoistK.load (by rfl) (by kernel_rfl) 40 _ rfl b (off + k * 41) rfl C _ (fun w' hw => hw.2.2) Tryz.underlying40 rfl HJ.out ?_; simp only [Act.put, setIfInBounds_toArray, getElem_toArray, getElem_cons_succ, getElem_cons_zero, set_cons_succ, set_cons_zero])
      refine HoistK.nil_ ?_
      simp only [opsAt, filterMap_cons, filterMap_nil, getElem?_toArray, getElem?_cons_succ, getElem?_cons_zero]
      refine EffS.cons_ fun _ hQ => ?_
      go_wp2_with fail
      refine (rin_any wr.drew (Sh.rep_below (Sh.rep_below HY.out hR.out.2.2.2) ((Below.refl wr.heap.size wr).drew)) (HC.out _ hbd).2 HYL.out HLT.out).mono ?_
      rintro e w9 ⟨rfl, hb9⟩
      have hb59 := hbd.trans (hb9.mono hbd.size)
      have hS9 : Blk w9 g 51 #[.int .i64 most, .slice (some ⟨b, off, none⟩) nX cap] ∧ Blk w9 w.heap.size 34 ss.toArray ∧ w9.rangeAt b (off + k * 41) C := ⟨HG.out _ hb59, hSS.2.1.below hb9 hSS.2.1.lt, (HC.out _ hb59).1⟩
      have HR9 := Lib.hid (hR.out.below ((((Below.refl wr.heap.size wr).drew)).trans hb9))
      have HB9 := Lib.hid hb59
      obtain ⟨q, hq⟩ : ∃ q, q = inX Y t := ⟨_, rfl⟩
      rw [← hq] at HGN ⊢
      clear hq hb9 hb59 hSS hbd hR
      go_wp2_with fail
      refine hQ _ _ hS9 (EffS.nil_ (SegV.mk (fun w' => Blk w' g 51 #[.int .i64 most, .slice (some ⟨b, off, none⟩) nX cap] ∧ Blk w' w.heap.size 34 ss.toArray ∧ w'.rangeAt b (off + k * 41) C) (fun _ h => h) hS9 ?_))
      cases q
      rotate_left
      · (refine HoistK.yes (by rfl) (by kernel_rfl) ⟨?_, fun w' hSw => ?_, ?_⟩; rotate_left; (· go_simp; try with_reducible rfl); simp only [Act.put, setIfInBounds_toArray, getElem_toArray, getElem_cons_succ, getElem_cons_zero, set_cons_succ, set_cons_zero])
        (refine HoistK.yes (by rfl) (by kernel_rfl) ⟨?_, fun w' hSw => ?_, ?_⟩; rotate_left; (· go_simp; try with_reducible rfl); simp only [Act.put, setIfInBounds_toArray, getElem_toArray, getElem_cons_succ, getElem_cons_zero, set_cons_succ, set_cons_zero])
        (refine HoistK.no (by rfl) (by kernel_rfl) ?_; simp only [Act.put, setIfInBounds_toArray, getElem_toArray, getElem_cons_succ, getElem_cons_zero, set_cons_succ, set_cons_zero])
        (refine HoistK.no (by rfl) (by kernel_rfl) ?_; simp only [Act.put, setIfInBounds_toArray, getElem_toArray, getElem_cons_succ, getElem_cons_zero, set_cons_succ, set_cons_zero])
        (refine HoistK.no (by rfl) (by kernel_rfl) ?_; simp only [Act.put, setIfInBounds_toArray, getElem_toArray, getElem_cons_succ, getElem_cons_zero, set_cons_succ, set_cons_zero])
        (refine HoistK.no (by rfl) (by kernel_rfl) ?_; simp only [Act.put, setIfInBounds_toArray, getElem_toArray, getElem_cons_succ, getElem_cons_zero, set_cons_succ, set_cons_zero])
        (refine HoistK.no (by rfl) (by kernel_rfl) ?_; simp only [Act.put, setIfInBounds_toArray, getElem_toArray, getElem_cons_succ, getElem_cons_zero, set_cons_succ, set_cons_zero])
        (refine HoistK.no (by rfl) (by kernel_rfl) ?_; simp only [Act.put, setIfInBounds_toArray, getElem_toArray, getElem_cons_succ, getElem_cons_zero, set_cons_succ, set_cons_zero])
        (refine HoistK.no (by rfl) (by kernel_rfl) ?_; simp only [Act.put, setIfInBounds_toArray, getElem_toArray, getElem_cons_succ, getElem_cons_zero, set_cons_succ, set_cons_zero])
        (refine HoistK.no (by rfl) (by kernel_rfl) ?_; simp only [Act.put, setIfInBounds_toArray, getElem_toArray, getElem_cons_succ, getElem_cons_zero, set_cons_succ, set_cons_zero])
        refine HoistK.nil_ ?_
        simp only [opsAt, filterMap_cons, filterMap_nil, getElem?_toArray, getElem?_cons_succ, getElem?_cons_zero]
        refine EffS.cons_ fun _ hQ => ?_
        go_wp2_with fail
        refine hQ _ _ hS9 (EffS.nil_ (SegV.mk (fun w' => Blk w' g 51 #[.int .i64 most, .slice (some ⟨b, off, none⟩) nX cap] ∧ Blk w' w.heap.size 34 ss.toArray ∧ w'.rangeAt b (off + k * 41) C) (fun _ h => h) hS9 ?_))
        (refine HoistK.no (by rfl) (by kernel_rfl) ?_; simp only [Act.put, setIfInBounds_toArray, getElem_toArray, getElem_cons_succ, getElem_cons_zero, set_cons_succ, set_cons_zero])
        refine HoistK.nil_ ?_
        simp only [opsAt, filterMap_cons, filterMap_nil, getElem?_toArray, getElem?_cons_succ, getElem?_cons_zero]
        refine EffS.cons_ fun _ hQ => ?_
        go_wp2_with fail
        refine hQ _ _ hS9 (EffS.nil_ fun _ hQ => ?_)
        clear hS9
        have hgt : gn = true := by have h := HGN.out; revert h; cases gn <;> simp
        subst hgt
        have HR2 := Lib.hid (show RNx w ss U w9 (.slice AO kO cO) (stayX l (encsX Y) (X.take (k + 1))) by rw [HSN0.out, if_pos rfl, List.append_nil]; exact HR9.out)
        go_wp2_with fail
        exact ⟨⟨k + 1, by omega, by push_cast; rfl, HR2⟩, by simp only [intOf]; omega⟩
      iterate 2 (refine HoistK.yes (by rfl) (by kernel_rfl) ⟨?_, fun w' hSw => ?_, ?_⟩; rotate_left; (· go_simp; try with_reducible rfl); simp only [Act.put, setIfInBounds_toArray, getElem_toArray, getElem_cons_succ, getElem_cons_zero, set_cons_succ, set_cons_zero])
      (refine HoistK.load (by rfl) (by kernel_rfl) 34 _ rfl w.heap.size 0 rfl ss _ (fun w' hw => hw.2.1.range) Tryz.underlying34 rfl HST.out ?_; simp only [Act.put, setIfInBounds_toArray, getElem_toArray, getElem_cons_succ, getElem_cons_zero, set_cons_succ, set_cons_zero])
      iterate 3 (refine HoistK.yes (by rfl) (by kernel_rfl) ⟨?_, fun w' hSw => ?_, ?_⟩; rotate_left; (· go_simp; try with_reducible rfl); simp only [Act.put, setIfInBounds_toArray, getElem_toArray, getElem_cons_succ, getElem_cons_zero, set_cons_succ, set_cons_zero])
      (refine HoistK.yes (by rfl) (by kernel_rfl) ⟨?_, fun w' hSw => ?_, ?_⟩; rotate_left; (· have hcg : w'.cell? ⟨g, 1, none⟩ = some (.slice (some ⟨b, off, none⟩) nX cap) := (by rw [hSw.1.cell]; rfl); go_simp; try with_reducible rfl); simp only [Act.put, setIfInBounds_toArray, getElem_toArray, getElem_cons_succ, getElem_cons_zero, set_cons_succ, set_cons_zero])
      iterate 2 (refine HoistK.yes (by rfl) (by kernel_rfl) ⟨?_, fun w' hSw => ?_, ?_⟩; rotate_left; (· go_simp; try with_reducible rfl); simp only [Act.put, setIfInBounds_toArray, getElem_toArray, getElem_cons_succ, getElem_cons_zero, set_cons_succ, set_cons_zero])
      (refine HoistK.load (by rfl) (by kernel_rfl) 40 _ rfl b (off + k * 41) rfl C _ (fun w' hw => hw.2.2) Tryz.underlying40 rfl HJ.out ?_; simp only [Act.put, setIfInBounds_toArray, getElem_toArray, getElem_cons_succ, getElem_cons_zero, set_cons_succ, set_cons_zero])
      refine HoistK.nil_ ?_
      simp only [opsAt, filterMap_cons, filterMap_nil, getElem?_toArray, getElem?_cons_succ, getElem?_cons_zero]
      refine EffS.cons_ fun _ hQ => ?_
      go_wp2_with fail
      refine (rstale_any w9 (HS.out.below HB9.out) HSO.out (HC.out _ HB9.out).2).mono ?_
      rintro e w10 ⟨rfl, hb10⟩
      have hb60 := HB9.out.trans (hb10.mono HB9.out.size)
      have hS10 : Blk w10 g 51 #[.int .i64 most, .slice (some ⟨b, off, none⟩) nX cap] ∧ Blk w10 w.heap.size 34 ss.toArray ∧ w10.rangeAt b (off + k * 41) C := ⟨HG.out _ hb60, hS9.2.1.below hb10 hS9.2.1.lt, (HC.out _ hb60).1⟩
      have HR10 := Lib.hid (HR9.out.below hb10)
      obtain ⟨q, hq⟩ : ∃ q, q = staleX l t := ⟨_, rfl⟩
      rw [← hq] at HGN ⊢
      clear hq hb10 hb60 hS9 HR9 HB9
      go_wp2_with fail
      refine hQ _ _ hS10 (EffS.nil_ (SegV.mk (fun w' => Blk w' g 51 #[.int .i64 most, .slice (some ⟨b, off, none⟩) nX cap] ∧ Blk w' w.heap.size 34 ss.toArray ∧ w'.rangeAt b (off + k * 41) C) (fun _ h => h) hS10 ?_))
      (refine HoistK.yes (by rfl) (by kernel_rfl) ⟨?_, fun w' hSw => ?_, ?_⟩; rotate_left; (· go_simp; try with_reducible rfl); simp only [Act.put, setIfInBounds_toArray, getElem_toArray, getElem_cons_succ, getElem_cons_zero, set_cons_succ, set_cons_zero])
      refine HoistK.nil_ ?_
      simp only [opsAt, filterMap_cons, filterMap_nil, getElem?_toArray, getElem?_cons_succ, getElem?_cons_zero]
      refine EffS.cons_ fun _ hQ => ?_
      go_wp2_with fail
      refine hQ _ _ hS10 (EffS.nil_ fun _ hQ => ?_)
      clear hS10
      cases q
      rotate_left
      · have hgt : gn = true := by have h := HGN.out; revert h; cases gn <;> simp
        subst hgt
        have HR2 := Lib.hid (show RNx w ss U w10 (.slice AO kO cO) (stayX l (encsX Y) (X.take (k + 1))) by rw [HSN0.out, if_pos rfl, List.append_nil]; exact HR10.out)
        go_wp2_with fail
        exact ⟨⟨k + 1, by omega, by push_cast; rfl, HR2⟩, by simp only [intOf]; omega⟩
      have hgt : gn = false := by have h := HGN.out; revert h; cases gn <;> simp
      subst hgt
      have HRG := Lib.hid (HC.out _ HR10.out.2.2.2).1
      have HREP := Lib.hid (HC.out _ HR10.out.2.2.2).2
      have hg1 : w10.cell? ⟨g, 1, none⟩ = some (.slice (some ⟨b, off, none⟩) nX cap) := by rw [(HG.out _ HR10.out.2.2.2).cell]; rfl
      have HCL := Lib.hid hCl
      have H1 := Lib.hid (Sh.rep_one _ _ _ HREP.out)
      have HI2 := Lib.hid (show (Tryz.prog.info? 40).map (fun i => (i.zero.map (fun z => z.cells.size), i.size)) = some (some C.length, C.length) from by rw [HCL.out]; exact sizes_tx)
      obtain ⟨css, hown, _, htwo⟩ := HR10.out.1
      have HOWN := Lib.hid hown
      have HTWO := Lib.hid htwo
      rw [← HKO.out] at hown
      have HO2 := Lib.hid (show ∀ ob, Own (w10.alloc ob) 40 41 (.slice AO kO cO) kO css.flatten from fun ob => own_keep hown fun b hb => Below.heap_alloc w10 ob b (own_lt hown hb))
      have HSN := Lib.hid (Cs.of_new w10 40 (size := 41) 1 (cs := C) (by rw [HCL.out]) (by simp only [maxLen]; decide))
      have HU2 := Lib.hid (show kO + 1 ≤ maxLen ∧ (kO + 1) * 120 ≤ 140737488355328 from ⟨by simp only [maxLen]; omega, by omega⟩)
      clear hown htwo hCl
      go_wp2_with (first
        | (refine wpList_load_mid rfl 40 _ rfl b (off + k * 41) rfl C _ HRG.out Tryz.underlying40 rfl HJ.out ?_)
        | (refine wpList_row1 rfl 46 40 _ rfl Tryz.underlying46 (.agg C.toArray) rfl C rfl HI2.out (by rw [HCL.out]; decide) (by rw [HCL.out]; decide) ?_)
        | (at_builtin; refine wpList_app _ rfl _ _ _ rfl Tryz.underlying46 info_tx rfl (by decide) (HO2.out _) rfl HSN.out rfl H1.out HU2.out.1 HU2.out.2 ?_; intro v6 w6 ho6 hc6 hnil6 hat6; clear hnil6; obtain ⟨A6, c6, rfl⟩ := ho6.form; have HO6 := Lib.hid ho6; clear ho6; have HC6 := Lib.hid hc6; clear hc6; have HAT6 := Lib.hid hat6; clear hat6))
      have hsn := RNx.snoc HUU.out HR10.out HOWN.out HTWO.out HREP.out (by rw [← HKO.out]; exact HO6.out) HC6.out HAT6.out
      have HR2 := Lib.hid (show RNx w ss U w6 (.slice A6 (kO + 1) c6) (stayX l (encsX Y) (X.take (k + 1))) by rw [HSN0.out, if_neg (by decide)]; exact hsn)
      exact ⟨⟨k + 1, by omega, by push_cast; rfl, HR2⟩, by simp only [intOf]; omega⟩
    · obtain rfl : k = nX := by omega
      have hr2 := hR.out
      rw [show X.take k = X from by rw [HNX.out, List.take_length]] at hr2
      have HR2 := Lib.hid hr2
      clear hr2
      have HLX2 := Lib.hid (show (stayX l (encsX Y) X).length ≤ X.length from List.length_filter_le _ _)
      obtain ⟨O, hO⟩ : ∃ O, O = stayX l (encsX Y) X := ⟨_, rfl⟩
      rw [← hO] at HR2 HLX2
      have HO := Lib.hid hO
      obtain ⟨AO, cO, rfl⟩ := HR2.out.1.form
      have HGB := Lib.hid (show Blk wr g 51 [.int .i64 most, .slice A k cap].toArray from HG.out _ hR.out.2.2.2)
      clear hR hO
      go_wp2_with (refine wpList_store_cell (cs := [.int .i64 most, .slice A k cap]) rfl 46 _ _ rfl HGB.out rfl (by simp) (v := .slice AO O.length cO) rfl rfl (by kernel_rfl) rfl ?_; intro w7 hb7 hc7; have HB7 := Lib.hid hb7; have HC7 := Lib.hid hc7; clear hb7 hc7)
      go_end0
      have hne : ∀ b, (Value.slice AO O.length cO).ownBlock = some b → b ≠ g := fun b hb e => by
        have h1 := HR2.out.2.1 b hb
        have h2 := HP.out.2.2.1.lt
        omega
      rw [← HO.out]
      refine ⟨rfl, .slice AO O.length cO, ⟨HP.out.1, Nat.le_trans HLX2.out HP.out.2.1, HB7.out, HR2.out.1.chg HC7.out (fun b hb e => HUG.out (by have e : b = g := e; exact e ▸ hb)) (fun b hb e => hne b hb e), fun h => hne g h rfl⟩, ?_, fun b hb => Nat.le_of_lt (HR2.out.2.1 b hb)⟩
      exact (Chg.of_below HR2.out.2.2.2 fun b => b = g).trans HC7.out fun b h => .inl h
end
section
open Go.RowKit Go.Maps
abbrev tStep : Sh := .tup (.cons i64 (.cons i64 (.cons tState (.cons tTx .nil))))
abbrev StepE := tStep.El
theorem step_parts {w : World} {S : Nat → Prop} {x : StepE} {cs : List Value} (h : tStep.rep w S x cs) :
    ∃ ss ts, cs = [.int .i64 x.1, .int .i64 x.2.1] ++ ss ++ ts ∧ tState.rep w S x.2.2.1 ss ∧ tTx.rep w S x.2.2.2.1 ts ∧ ss.length = 6 ∧ ts.length = 41 := by
  obtain ⟨x0, x1, x2, x3, _⟩ := x
  obtain ⟨c0, _, rfl, ⟨rfl, _⟩, c1, _, rfl, ⟨rfl, _⟩, c2, _, rfl, h2, c3, _, rfl, h3, h4⟩ := h
  have h4 : _ = [] := h4
  subst h4
  exact ⟨c2, c3, by simp [nk], h2, h3, Sh.rep_size _ _ _ h2, Sh.rep_size _ _ _ h3⟩
def LawD (w0 : World) (gP gR most : Nat) (X Y : List TxE) (w : World) (v vR : Value) : Prop :=
  PoolX w gP v most X ∧ RPool (fun b => b < w0.heap.size) w gR vR most Y ∧ Below w0.heap.size w0 w ∧ w0.heap.size ≤ gP ∧ w0.heap.size ≤ gR ∧ gP ≠ gR ∧
    (∀ b, v.ownBlock = some b → w0.heap.size ≤ b ∧ b ≠ gR) ∧ ∀ b, vR.ownBlock = some b → w0.heap.size ≤ b ∧ b ≠ gP ∧ v.ownBlock ≠ some b
theorem LawD.below {w0 w w' : World} {gP gR most : Nat} {X Y : List TxE} {v vR : Value} (h : LawD w0 gP gR most X Y w v vR) (hb : Below w.heap.size w w') : LawD w0 gP gR most X Y w' v vR :=
  ⟨⟨h.1.1.below hb, h.1.2⟩, h.2.1.below hb, h.2.2.1.trans (hb.mono h.2.2.1.size), h.2.2.2⟩
theorem LawD.ltP {w0 w : World} {gP gR most : Nat} {X Y : List TxE} {v vR : Value} (h : LawD w0 gP gR most X Y w v vR) : gP < w.heap.size ∧ ∀ b, v.ownBlock = some b → b < w.heap.size :=
  ⟨h.1.1.lt, fun _ hb => own_lt h.1.own hb⟩
theorem LawD.ltR {w0 w : World} {gP gR most : Nat} {X Y : List TxE} {v vR : Value} (h : LawD w0 gP gR most X Y w v vR) : gR < w.heap.size ∧ ∀ b, vR.ownBlock = some b → b < w.heap.size :=
  ⟨h.2.1.2.2.1.lt, fun _ hb => h.2.1.2.2.2.1.lt hb⟩
theorem LawD.stepP {w0 w w' : World} {gP gR most : Nat} {X X' Y : List TxE} {v v' vR : Value} (h : LawD w0 gP gR most X Y w v vR) (hp : PoolX w' gP v' most X') (hc : Chg (fun b => b = gP ∨ v.ownBlock = some b) w w') (hv : v'.ownBlock = v.ownBlock ∨ ∃ k, v'.ownBlock = some k ∧ w.heap.size ≤ k) : LawD w0 gP gR most X' Y w' v' vR := by
  have hR := h.ltR
  obtain ⟨_, h2, h3, h4, h5, h6, h7, h8⟩ := h
  have z := h3.size
  have hg : ¬ (gR = gP ∨ v.ownBlock = some gR) := by
    rintro (e | e)
    · exact h6 e.symm
    · exact (h7 _ e).2 rfl
  refine ⟨hp, ⟨h2.1, h2.2.1, h2.2.2.1.chg hc hg, h2.2.2.2.1.chg hc (fun k hk e => ?_) (fun k hk e => ?_), h2.2.2.2.2⟩, h3.trans (hc.below z fun b hb => ?_), h4, h5, h6, fun b hb => ?_, fun b hb => ?_⟩
  · have hk : k < w0.heap.size := hk
    rcases e with e | e
    · omega
    · have := (h7 _ e).1; omega
  · rcases e with e | e
    · exact (h8 k hk).2.1 e
    · exact (h8 k hk).2.2 e
  · rcases hb with e | e
    · omega
    · exact (h7 _ e).1
  · rcases hv with e | ⟨k, e, hk⟩
    · exact h7 b (e ▸ hb)
    · rw [e] at hb; injection hb with hb
      have := hR.1
      exact ⟨by omega, by omega⟩
  · refine ⟨(h8 b hb).1, (h8 b hb).2.1, fun e2 => ?_⟩
    rcases hv with e | ⟨k, e, hk⟩
    · exact (h8 b hb).2.2 (e ▸ e2)
    · rw [e] at e2; injection e2 with e2
      have := hR.2 b hb
      omega
theorem LawD.stepR {w0 w w' : World} {gP gR most : Nat} {X Y Y' : List TxE} {v vR vR' : Value} (h : LawD w0 gP gR most X Y w v vR) (hp : RPool (fun b => b < w0.heap.size) w' gR vR' most Y') (hc : Chg (fun b => b = gR ∨ vR.ownBlock = some b) w w') (hv : vR'.ownBlock = vR.ownBlock ∨ ∀ b, vR'.ownBlock = some b → w.heap.size ≤ b) : LawD w0 gP gR most X Y' w' v vR' := by
  have hP := h.ltP
  obtain ⟨h1, _, h3, h4, h5, h6, h7, h8⟩ := h
  have z := h3.size
  refine ⟨⟨h1.1.chg hc fun b hb e => ?_, h1.2⟩, hp, h3.trans (hc.below z fun b hb => ?_), h4, h5, h6, h7, fun b hb => ?_⟩
  · rcases hb with e1 | e1
    · rcases e with e | e
      · exact h6 (by rw [← e1, e])
      · exact (h8 b e).2.1 e1
    · rcases e with e | e
      · exact (h7 b e1).2 e
      · exact (h8 b e).2.2 e1
  · rcases hb with e | e
    · omega
    · exact (h8 _ e).1
  · rcases hv with e | e
    · exact h8 b (e ▸ hb)
    · have h9 := e b hb
      have := hP.1
      exact ⟨by omega, by omega, fun e2 => by have := hP.2 b e2; omega⟩
theorem TxsO.src {w : World} {U : Nat → Prop} {A : Option Addr} {n cap d : Nat} {X : List TxE} (h : TxsO U w (.slice A n cap) X) (hn : n = X.length) (hd : d ≤ n) :
    ∃ css, Cs w (fun b => U b ∨ (Value.slice A n cap).ownBlock = some b) 41 (.slice A d cap) d css.flatten ∧ Two (tTx.rep w fun b => U b ∨ (Value.slice A n cap).ownBlock = some b) (X.take d) css ∧ ∀ u ∈ css.flatten, u.oneCell' = true := by
  have hl := h.list
  rw [hn] at hl hd
  have h2 := list_take hl hd
  obtain ⟨v', css, e, hc, ht⟩ := h2
  have e : v' = .slice A d cap := by simpa using e.symm
  subst e
  rw [List.length_take, Nat.min_eq_left hd] at hc
  rw [hn]
  refine ⟨css, hc, ht, fun u hu => ?_⟩
  obtain ⟨c, hc, hu⟩ := List.mem_flatten.1 hu
  obtain ⟨x, hx⟩ := ht.right c hc
  exact Sh.rep_one _ _ _ hx u hu
end
section
open Go.RowKit Go.Maps
attribute [-simp] Tryz.isAgg34 Tryz.typeInfo34 Tryz.isAgg40 Tryz.typeInfo40 Tryz.isAgg37 Tryz.typeInfo37 Tryz.isAgg57 Tryz.typeInfo57 Tryz.isAgg42 Tryz.typeInfo42
theorem step_len {l : List StepE} (h : ((Sh.list tStep).enc l).length ≤ 1099511627776) : ∀ x ∈ l, (tState.enc x.2.2.1).length ≤ 1099511627776 ∧ (tTx.enc x.2.2.2.1).length ≤ 1099511627776 := fun x hx => by
  have h : (joinB (l.map tStep.enc)).length ≤ _ := h
  rw [joinB_length] at h
  have h1 := joinP_mem (List.mem_map.2 ⟨x, hx, rfl⟩ : tStep.enc x ∈ l.map tStep.enc)
  obtain ⟨x0, x1, x2, x3, x4⟩ := x
  have h2 : (joinB (Fs.encs (.cons i64 (.cons i64 (.cons tState (.cons tTx .nil)))) (x0, x1, x2, x3, x4))).length + 8 ≤ _ := h1
  rw [joinB_length] at h2
  have h3 := joinP_mem (l := Fs.encs (.cons i64 (.cons i64 (.cons tState (.cons tTx .nil)))) (x0, x1, x2, x3, x4)) (x := tState.enc x2) (by simp [Fs.encs])
  have h4 := joinP_mem (l := Fs.encs (.cons i64 (.cons i64 (.cons tState (.cons tTx .nil)))) (x0, x1, x2, x3, x4)) (x := tTx.enc x3) (by simp [Fs.encs])
  exact ⟨by show (tState.enc x2).length ≤ _; omega, by show (tTx.enc x3).length ≤ _; omega⟩
theorem step_ranges {w : World} {g : Nat} {t : TypeId} {k N : Int} {ss ts C : List Value} (hC : C = [.int .i64 k, .int .i64 N] ++ ss ++ ts) (hs : ss.length = 6) (h : Blk w g t C.toArray) :
    w.rangeAt g 2 ss ∧ w.rangeAt g 8 ts ∧ w.cell? ⟨g, 0, none⟩ = some (.int .i64 k) ∧ w.cell? ⟨g, 1, none⟩ = some (.int .i64 N) := by
  subst hC
  refine ⟨fun j u hj => ?_, fun j u hj => ?_, by rw [h.cell]; rfl, by rw [h.cell]; rfl⟩
  · rw [h.cell, getElem?_toArray, List.append_assoc, List.getElem?_append_right (by simp), List.getElem?_append_left (by have := (List.getElem?_eq_some_iff.1 hj).1; simp; omega)]
    simpa using hj
  · rw [h.cell, getElem?_toArray, List.getElem?_append_right (by simp; omega)]
    have e : 8 + j - ([Value.int .i64 k, .int .i64 N] ++ ss).length = j := by simp; omega
    rw [e]
    exact hj
set_option maxHeartbeats 32000000 in
set_option maxRecDepth 100000 in
theorem lawDoes_any (hform : ∀ (w : World) {S : Nat → Prop} {x : TxE} {cs : List Value}, tTx.rep w S x cs → Calls Tryz.prog 33 #[.agg cs.toArray] w fun e w' => e = .returned (.int .i64 (formX x)) ∧ Below w.heap.size w w')
    (w : World) {S : Nat → Prop} {sent : Value} {most : Int} {y : Value} {l : List StepE} (hy : (Sh.list tStep).rep w S l [y]) (hyl : ((Sh.list tStep).enc l).length ≤ 1099511627776) (hk : Pk w sent) :
    Calls Tryz.prog 3 #[.int .i64 most, y] w fun e w' => e = .returned (.bool true) ∧ Below w.heap.size w w' := by
  obtain ⟨A, cap, rfl, hlen, hat⟩ := list_at hy
  obtain ⟨n, hn⟩ : ∃ n, n = l.length := ⟨_, rfl⟩
  rw [← hn]
  have hn63 : n ≤ 9223372036854775807 := by omega
  have HAT := Lib.hid hat
  have HTL := Lib.hid (step_len hyl)
  have HK := Lib.hid hk
  have HN := Lib.hid hn
  have HFORM := Lib.hid (fun (w : World) (S : Nat → Prop) (x : TxE) (cs : List Value) (h : tTx.rep w S x cs) => hform w h)
  clear hy hyl hk hat hlen hn hform
  go_enter Tryz.func3, Tryz.ntmps3
  go_wp2_with fail
  refine (awakeP_any w HK.out).mono ?_
  rintro e w1 ⟨rfl, hb1⟩
  have HB1 := Lib.hid hb1
  clear hb1
  go_wp2_with fail
  refine (newB_any w1 most).mono ?_
  rintro e w2 ⟨rfl, hp2⟩
  obtain ⟨mm, hmm⟩ : ∃ mm, mm = (min (max most 0) 32).toNat := ⟨_, rfl⟩
  rw [← hmm] at hp2
  have HMM := Lib.hid hmm
  clear hmm
  have HP2 := Lib.hid hp2
  clear hp2
  go_wp2_with fail
  refine (rnew_any w2 most).mono ?_
  rintro e w3 ⟨rfl, hr3, hb3⟩
  rw [← HMM.out] at hr3
  have hld : LawD w1 w1.heap.size w2.heap.size mm [] [] w3 (.slice none 0 0) (.slice none 0 0) := by
    have hp := HP2.out.below hb3
    have z := HP2.out.2.1.size
    have hlt := HP2.out.1.1.lt
    refine ⟨hp.1, ⟨hr3.1, hr3.2.1, hr3.2.2.1, TxsO.nil_ _ _, hr3.2.2.2.2⟩, hp.2.1, Nat.le_refl _, z, by omega, fun b h => ?_, fun b h => ?_⟩
    · simp [Value.ownBlock] at h
    · simp [Value.ownBlock] at h
  obtain ⟨gP, hgP⟩ : ∃ g, g = w1.heap.size := ⟨_, rfl⟩
  obtain ⟨gR, hgR⟩ : ∃ g, g = w2.heap.size := ⟨_, rfl⟩
  rw [← hgR] at hld ⊢
  rw [show LawD w1 w1.heap.size gR mm [] [] w3 (.slice none 0 0) (.slice none 0 0) = LawD w1 gP gR mm [] [] w3 (.slice none 0 0) (.slice none 0 0) from by rw [hgP]] at hld
  rw [show w1.heap.size = gP from hgP.symm]
  have HLD := Lib.hid hld
  clear hld hgP hgR hr3 hb3 HP2 HMM
  go_wp2_with fail
  go_loopw [7] (fun i wr => ∃ k : Nat, k ≤ n ∧ i = .int .i64 k ∧ Hid (∃ X v vR, LawD w1 gP gR mm X X wr v vR ∧ (encsX X).Nodup)) (fun i _ => n - (intOf i).toNat)
  case atStart => exact ⟨0, Nat.zero_le _, rfl, Lib.hid ⟨[], _, _, HLD.out, List.nodup_nil⟩⟩
  case round =>
    clear HLD
    obtain ⟨k, hk, rfl, hr⟩ := hrel
    obtain ⟨X, v, vR, hld, hnd⟩ := hr.out
    have HND := Lib.hid hnd
    have HLD := Lib.hid hld
    have HWX := Lib.hid (show ∀ y ∈ X, (tTx.enc y).length ≤ 1099511627776 from fun y h => by have := (hld.1.2 y h).2; omega)
    clear hr hld hnd
    by_cases hlt : k < n
    rotate_left
    · obtain rfl : k = n := by omega
      go_wp2_with fail
      have hbd := (Below.refl wr.heap.size wr).drew
      have hL := HLD.out.below hbd
      obtain ⟨AR, cR, rfl⟩ := hL.2.1.2.2.2.1.form
      obtain ⟨nX, hnX⟩ : ∃ n, n = X.length := ⟨_, rfl⟩
      have e0 : (Value.slice AR X.length cR) = .slice AR nX cR := by rw [hnX]
      rw [e0] at hL
      have HL := Lib.hid hL
      have HSV := Lib.hid (show ∀ w', Below wr.drew.heap.size wr.drew w' → Blk w' gR 51 #[.int .i64 mm, .slice AR nX cR] from fun w' h => blk_low HL.out.2.1.2.2.1 h)
      have hSS : Blk wr.drew gR 51 #[.int .i64 mm, .slice AR nX cR] := HSV.out _ (Below.refl _ _)
      have HKD := Lib.hid (HK.out.below (HB1.out.trans (HL.out.2.2.1.mono HB1.out.size)))
      clear hL e0 hbd hnX
      go_wp2_with fail
      refine wp_region_segsV [([0, 2, 3, 4, 5], [1]), ([], [6]), ([], [7])] (by kernel_rfl) (by kernel_rfl) (by kernel_rfl) (by kernel_rfl)
        (SegV.mk (fun w' => Blk w' gR 51 #[.int .i64 mm, .slice AR nX cR]) (fun _ _ => trivial) hSS ?_)
      (refine HoistK.yes (by rfl) (by kernel_rfl) ⟨?_, fun w' hSw => ?_, ?_⟩; rotate_left; (· go_simp; try with_reducible rfl); simp only [Act.put, setIfInBounds_toArray, getElem_toArray, getElem_cons_zero, set_cons_succ, set_cons_zero])
      iterate 3 (refine HoistK.yes (by rfl) (by kernel_rfl) ⟨?_, fun w' hSw => ?_, ?_⟩; rotate_left; (· go_simp; try with_reducible rfl); simp only [Act.put, setIfInBounds_toArray, getElem_toArray, getElem_cons_succ, getElem_cons_zero, set_cons_succ, set_cons_zero])
      (refine HoistK.yes (by rfl) (by kernel_rfl) ⟨?_, fun w' hSw => ?_, ?_⟩; rotate_left; (· have hcg : w'.cell? ⟨gR, 1, none⟩ = some (.slice AR nX cR) := (by rw [hSw.cell]; rfl); go_simp; try with_reducible rfl); simp only [Act.put, setIfInBounds_toArray, getElem_toArray, getElem_cons_succ, getElem_cons_zero, set_cons_succ, set_cons_zero])
      refine HoistK.nil_ ?_
      simp only [opsAt, filterMap_cons, filterMap_nil, getElem?_toArray, getElem?_cons_succ, getElem?_cons_zero]
      refine EffS.cons_ fun _ hQ => ?_
      go_wp2_with fail
      refine (poolAll_any wr.drew HL.out.1 HKD.out).mono ?_
      rintro e w9 ⟨vA, rfl, htx, hb9⟩
      have hS9 := HSV.out _ hb9
      have HTX := Lib.hid htx
      have HB9 := Lib.hid hb9
      clear htx hb9 hSS
      go_wp2_with fail
      refine hQ _ _ hS9 (EffS.nil_ (SegV.mk (fun w' => Blk w' gR 51 #[.int .i64 mm, .slice AR nX cR]) (fun _ h => h) hS9 ?_))
      refine HoistK.nil_ ?_
      simp only [opsAt, filterMap_cons, filterMap_nil, getElem?_toArray, getElem?_cons_succ, getElem?_cons_zero]
      refine EffS.cons_ fun _ hQ => ?_
      go_wp2_with fail
      have hLR := HL.out.2.1.2.2.2.1.list
      refine (same_any w9 HTX.out.2.list (Sh.rep_below hLR HB9.out) HWX.out HWX.out rfl).mono ?_
      rintro e w10 ⟨rfl, hb10⟩
      have hS10 := hS9.below hb10 hS9.lt
      have HBE := Lib.hid (HB1.out.trans ((HL.out.2.2.1.trans ((HB9.out.trans (hb10.mono HB9.out.size)).mono HL.out.2.2.1.size)).mono HB1.out.size))
      clear hb10 hS9 hLR
      go_wp2_with fail
      refine hQ _ _ hS10 (EffS.nil_ (SegV.mk (fun w' => Blk w' gR 51 #[.int .i64 mm, .slice AR nX cR]) (fun _ h => h) hS10 ?_))
      refine HoistK.nil_ ?_
      simp only [opsAt, filterMap_cons, filterMap_nil, getElem?_toArray, getElem?_cons_succ, getElem?_cons_zero]
      refine EffS.cons_ fun _ hQ => ?_
      go_wp2_with fail
      refine hQ _ _ hS10 (EffS.nil_ fun _ hQ => ?_)
      go_wp2_with fail
      go_ret
      exact ⟨rfl, HBE.out⟩
    by_cases h80 : k < 80
    rotate_left
    · have h80' : ¬ (k : Int) < 80 := by omega
      go_wp2_with fail
      have hbd := (Below.refl wr.heap.size wr).drew
      have hL := HLD.out.below hbd
      obtain ⟨AR, cR, rfl⟩ := hL.2.1.2.2.2.1.form
      obtain ⟨nX, hnX⟩ : ∃ n, n = X.length := ⟨_, rfl⟩
      have e0 : (Value.slice AR X.length cR) = .slice AR nX cR := by rw [hnX]
      rw [e0] at hL
      have HL := Lib.hid hL
      have HSV := Lib.hid (show ∀ w', Below wr.drew.heap.size wr.drew w' → Blk w' gR 51 #[.int .i64 mm, .slice AR nX cR] from fun w' h => blk_low HL.out.2.1.2.2.1 h)
      have hSS : Blk wr.drew gR 51 #[.int .i64 mm, .slice AR nX cR] := HSV.out _ (Below.refl _ _)
      have HKD := Lib.hid (HK.out.below (HB1.out.trans (HL.out.2.2.1.mono HB1.out.size)))
      clear hL e0 hbd hnX
      go_wp2_with fail
      refine wp_region_segsV [([0, 2, 3, 4, 5], [1]), ([], [6]), ([], [7])] (by kernel_rfl) (by kernel_rfl) (by kernel_rfl) (by kernel_rfl)
        (SegV.mk (fun w' => Blk w' gR 51 #[.int .i64 mm, .slice AR nX cR]) (fun _ _ => trivial) hSS ?_)
      (refine HoistK.yes (by rfl) (by kernel_rfl) ⟨?_, fun w' hSw => ?_, ?_⟩; rotate_left; (· go_simp; try with_reducible rfl); simp only [Act.put, setIfInBounds_toArray, getElem_toArray, getElem_cons_zero, set_cons_succ, set_cons_zero])
      iterate 3 (refine HoistK.yes (by rfl) (by kernel_rfl) ⟨?_, fun w' hSw => ?_, ?_⟩; rotate_left; (· go_simp; try with_reducible rfl); simp only [Act.put, setIfInBounds_toArray, getElem_toArray, getElem_cons_succ, getElem_cons_zero, set_cons_succ, set_cons_zero])
      (refine HoistK.yes (by rfl) (by kernel_rfl) ⟨?_, fun w' hSw => ?_, ?_⟩; rotate_left; (· have hcg : w'.cell? ⟨gR, 1, none⟩ = some (.slice AR nX cR) := (by rw [hSw.cell]; rfl); go_simp; try with_reducible rfl); simp only [Act.put, setIfInBounds_toArray, getElem_toArray, getElem_cons_succ, getElem_cons_zero, set_cons_succ, set_cons_zero])
      refine HoistK.nil_ ?_
      simp only [opsAt, filterMap_cons, filterMap_nil, getElem?_toArray, getElem?_cons_succ, getElem?_cons_zero]
      refine EffS.cons_ fun _ hQ => ?_
      go_wp2_with fail
      refine (poolAll_any wr.drew HL.out.1 HKD.out).mono ?_
      rintro e w9 ⟨vA, rfl, htx, hb9⟩
      have hS9 := HSV.out _ hb9
      have HTX := Lib.hid htx
      have HB9 := Lib.hid hb9
      clear htx hb9 hSS
      go_wp2_with fail
      refine hQ _ _ hS9 (EffS.nil_ (SegV.mk (fun w' => Blk w' gR 51 #[.int .i64 mm, .slice AR nX cR]) (fun _ h => h) hS9 ?_))
      refine HoistK.nil_ ?_
      simp only [opsAt, filterMap_cons, filterMap_nil, getElem?_toArray, getElem?_cons_succ, getElem?_cons_zero]
      refine EffS.cons_ fun _ hQ => ?_
      go_wp2_with fail
      have hLR := HL.out.2.1.2.2.2.1.list
      refine (same_any w9 HTX.out.2.list (Sh.rep_below hLR HB9.out) HWX.out HWX.out rfl).mono ?_
      rintro e w10 ⟨rfl, hb10⟩
      have hS10 := hS9.below hb10 hS9.lt
      have HBE := Lib.hid (HB1.out.trans ((HL.out.2.2.1.trans ((HB9.out.trans (hb10.mono HB9.out.size)).mono HL.out.2.2.1.size)).mono HB1.out.size))
      clear hb10 hS9 hLR
      go_wp2_with fail
      refine hQ _ _ hS10 (EffS.nil_ (SegV.mk (fun w' => Blk w' gR 51 #[.int .i64 mm, .slice AR nX cR]) (fun _ h => h) hS10 ?_))
      refine HoistK.nil_ ?_
      simp only [opsAt, filterMap_cons, filterMap_nil, getElem?_toArray, getElem?_cons_succ, getElem?_cons_zero]
      refine EffS.cons_ fun _ hQ => ?_
      go_wp2_with fail
      refine hQ _ _ hS10 (EffS.nil_ fun _ hQ => ?_)
      go_wp2_with fail
      go_ret
      exact ⟨rfl, HBE.out⟩
    have hkl : k < l.length := by rw [← HN.out]; exact hlt
    obtain ⟨b, off, C, rfl, hrg, hrep, hCl, hbl, _⟩ := HAT.out k hkl
    have HSL := HTL.out _ (List.getElem_mem hkl)
    obtain ⟨x, hx⟩ : ∃ x, x = l[k] := ⟨_, rfl⟩
    rw [← hx] at hrep HSL
    obtain ⟨ss, ts, hC, hss, hts, hsl, htl⟩ := step_parts hrep
    obtain ⟨kd, hkd⟩ : ∃ q : Int, q = x.1 := ⟨_, rfl⟩
    obtain ⟨NN, hNN⟩ : ∃ q : Int, q = x.2.1 := ⟨_, rfl⟩
    obtain ⟨st, hst⟩ : ∃ q, q = x.2.2.1 := ⟨_, rfl⟩
    obtain ⟨tx, htx⟩ : ∃ q, q = x.2.2.2.1 := ⟨_, rfl⟩
    rw [← hst] at hss HSL
    rw [← htx] at hts HSL
    rw [← hkd, ← hNN] at hC
    have hbw1 : Below w.heap.size w wr := HB1.out.trans (HLD.out.2.2.1.mono HB1.out.size)
    have HRG := Lib.hid (show wr.rangeAt b (off + k * 49) C from range_low hrg hbw1)
    have HJ := Lib.hid (show (Tryz.prog.info? 42).map (·.size) = some C.length from by rw [show C.length = 49 from hCl]; kernel_rfl)
    have HC1 := Lib.hid (Sh.rep_one tStep _ _ hrep)
    have HCL := Lib.hid (show C.length = 49 from hCl)
    have HSS := Lib.hid (Sh.rep_below hss HB1.out)
    have HTS := Lib.hid (Sh.rep_sub (S' := fun b => b < w1.heap.size) (Sh.rep_below hts HB1.out) fun b _ h => h)
    have hsta := sta_of HSS.out (acc_len HSL.1)
    have HBR := Lib.hid (base_range HSS.out)
    have HLT := Lib.hid HSL.2
    have HRS := Lib.hid (fun (w' : World) (g : Nat) (h : Blk w' g 42 C.toArray) => step_ranges hC hsl h)
    have HST := Lib.hid (st_of hsta)
    have HJT := Lib.hid (tx_size htl)
    have HTL7 := Lib.hid htl
    obtain ⟨la, hla⟩ : ∃ la, la = accX st := ⟨_, rfl⟩
    rw [← hla] at hsta HBR
    have HSA := Lib.hid hsta
    have HLA := Lib.hid hla
    clear hrg hrep hCl hbl hx hC hss hts hsl htl hkd hNN hst htx hbw1 hsta hla hkl HSL
    go_wp2_with (first
      | (refine wpList_load_mid rfl 42 _ rfl b (off + k * 49) rfl C _ HRG.out Tryz.underlying42 rfl HJ.out ?_)
      | (refine wpList_store_blk (cs0 := [.int .i64 0, .int .i64 0, .int .i64 0, .slice none 0 0, .slice none 0 0, .slice none 0 0, .slice none 0 0, .slice none 0 0, .int .i64 0, .int .u64 0, .int .u64 0, .int .u64 0, .int .u64 0, .int .i64 0, .int .i64 0] ++ List.replicate 32 (.int .u8 0) ++ [.int .i64 0, .slice none 0 0]) (cs := C) rfl 42 _ _ rfl (Blk.new wr _ _) rfl rfl (by rw [HCL.out]; rfl) HJ.out HC1.out ?_; intro w4 hb4 hc4; refine Hid.out ?_))
    refine Lib.hid ?_
    have hb14 : Below wr.heap.size wr w4 := ((Below.refl wr.heap.size wr).alloc (Nat.le_refl _) _).trans (hc4.below (by simp) fun b h => by have h : b = wr.heap.size := h; omega)
    obtain ⟨gx, hgx⟩ : ∃ g, g = wr.heap.size := ⟨_, rfl⟩
    rw [← hgx] at hb4 ⊢
    have hnew := HLD.out.ltR
    have hnew2 := HLD.out.ltP
    have HGX := Lib.hid (show gx ≠ gP ∧ gx ≠ gR ∧ w1.heap.size ≤ gx ∧ (∀ b, v.ownBlock = some b → b < gx) ∧ ∀ b, vR.ownBlock = some b → b < gx from by rw [hgx]; exact ⟨by omega, by omega, HLD.out.2.2.1.size, hnew2.2, hnew.2⟩)
    have HLD := Lib.hid (HLD.out.below hb14)
    have HK4 := Lib.hid (HK.out.below (HB1.out.trans (HLD.out.2.2.1.mono HB1.out.size)))
    have HX4 := Lib.hid hb4
    have HR4 := Lib.hid (HRS.out _ _ hb4).1
    clear hb14 hc4 hgx hnew hnew2 hb4
    go_wp2_with (refine wpList_load_mid rfl 34 _ rfl gx 2 rfl ss _ HR4.out Tryz.underlying34 rfl HST.out ?_)
    refine (may_any w4 (Sh.rep_below HSS.out HLD.out.2.2.1)).mono ?_
    rintro e w5 ⟨⟨r, rfl, hso⟩, hb5⟩
    have HLD := Lib.hid (HLD.out.below hb5)
    have HX5 := Lib.hid (HX4.out.below hb5 HX4.out.lt)
    have HK5 := Lib.hid (HK4.out.below hb5)
    clear hb5 HR4 HX4 HK4
    cases r
    · clear hso
      go_wp2_with fail
      exact ⟨⟨k + 1, by omega, by push_cast; rfl, Lib.hid ⟨X, v, vR, HLD.out, HND.out⟩⟩, by simp only [intOf]; omega⟩
    have HSO := Lib.hid (show SortA la from by rw [HLA.out]; exact hso rfl)
    clear hso
    have HR5 := Lib.hid (HRS.out _ _ HX5.out)
    have HS5 := Lib.hid (HSA.out.below HLD.out.2.2.1)
    have hk0 := HR5.out.2.2.1
    have hN0 := HR5.out.2.2.2
    by_cases hkd0 : kd = 0
    · subst hkd0
      have hSS : Blk w5.drew gx 42 C.toArray := HX5.out.drew
      have HL5 := Lib.hid (HLD.out.below ((Below.refl w5.heap.size w5).drew))
      go_wp2_with fail
      clear hk0 hN0
      refine wp_region_segsV [([0, 1, 2, 3, 4, 6, 7, 8, 9, 10], [5]), ([], [11]), ([], [12])] (by kernel_rfl) (by kernel_rfl) (by kernel_rfl) (by kernel_rfl)
        (SegV.mk (fun w' => Blk w' gx 42 C.toArray) (fun _ _ => trivial) hSS ?_)
      (refine HoistK.yes (by rfl) (by kernel_rfl) ⟨?_, fun w' hSw => ?_, ?_⟩; rotate_left; (· go_simp; try with_reducible rfl); simp only [Act.put, setIfInBounds_toArray, getElem_toArray, getElem_cons_zero, set_cons_succ, set_cons_zero])
      (refine HoistK.yes (by rfl) (by kernel_rfl) ⟨?_, fun w' hSw => ?_, ?_⟩; rotate_left; (· go_simp; try with_reducible rfl); simp only [Act.put, setIfInBounds_toArray, getElem_toArray, getElem_cons_succ, getElem_cons_zero, set_cons_succ, set_cons_zero])
      (refine HoistK.load (by rfl) (by kernel_rfl) 34 _ rfl gx 2 rfl ss _ (fun w' hw => (HRS.out _ _ hw).1) Tryz.underlying34 rfl HST.out ?_; simp only [Act.put, setIfInBounds_toArray, getElem_toArray, getElem_cons_succ, getElem_cons_zero, set_cons_succ, set_cons_zero])
      (refine HoistK.yes (by rfl) (by kernel_rfl) ⟨?_, fun w' hSw => ?_, ?_⟩; rotate_left; (· go_simp; try with_reducible rfl); simp only [Act.put, setIfInBounds_toArray, getElem_toArray, getElem_cons_succ, getElem_cons_zero, set_cons_succ, set_cons_zero])
      (refine HoistK.load (by rfl) (by kernel_rfl) 40 _ rfl gx 8 rfl ts _ (fun w' hw => (HRS.out _ _ hw).2.1) Tryz.underlying40 rfl HJT.out ?_; simp only [Act.put, setIfInBounds_toArray, getElem_toArray, getElem_cons_succ, getElem_cons_zero, set_cons_succ, set_cons_zero])
      iterate 2 (refine HoistK.yes (by rfl) (by kernel_rfl) ⟨?_, fun w' hSw => ?_, ?_⟩; rotate_left; (· go_simp; try with_reducible rfl); simp only [Act.put, setIfInBounds_toArray, getElem_toArray, getElem_cons_succ, getElem_cons_zero, set_cons_succ, set_cons_zero])
      (refine HoistK.load (by rfl) (by kernel_rfl) 34 _ rfl gx 2 rfl ss _ (fun w' hw => (HRS.out _ _ hw).1) Tryz.underlying34 rfl HST.out ?_; simp only [Act.put, setIfInBounds_toArray, getElem_toArray, getElem_cons_succ, getElem_cons_zero, set_cons_succ, set_cons_zero])
      (refine HoistK.yes (by rfl) (by kernel_rfl) ⟨?_, fun w' hSw => ?_, ?_⟩; rotate_left; (· go_simp; try with_reducible rfl); simp only [Act.put, setIfInBounds_toArray, getElem_toArray, getElem_cons_succ, getElem_cons_zero, set_cons_succ, set_cons_zero])
      (refine HoistK.load (by rfl) (by kernel_rfl) 40 _ rfl gx 8 rfl ts _ (fun w' hw => (HRS.out _ _ hw).2.1) Tryz.underlying40 rfl HJT.out ?_; simp only [Act.put, setIfInBounds_toArray, getElem_toArray, getElem_cons_succ, getElem_cons_zero, set_cons_succ, set_cons_zero])
      refine HoistK.nil_ ?_
      simp only [opsAt, filterMap_cons, filterMap_nil, getElem?_toArray, getElem?_cons_succ, getElem?_cons_zero]
      refine EffS.cons_ fun _ hQ => ?_
      go_wp2_with fail
      refine (addX_any w5.drew (HSA.out.below HL5.out.2.2.1) (Sh.rep_below HTS.out HL5.out.2.2.1) HL5.out.1 HLT.out).mono ?_
      rintro e w9 ⟨rfl, v', hp9, hc9, hv9⟩
      have hS9 := hSS.chg hc9 (fun h => by
        rcases h with h | h
        · exact HGX.out.1 h
        · have := HGX.out.2.2.2.1 _ h; omega)
      have HL9 := Lib.hid (HL5.out.stepP hp9 hc9 hv9)
      obtain ⟨rc, hrc⟩ : ∃ q, q = addE la mm (encsX X) tx := ⟨_, rfl⟩
      rw [← hrc]
      have HRC := Lib.hid hrc
      clear hrc hp9 hc9 hv9 hSS HL5
      go_wp2_with fail
      refine hQ _ _ hS9 (EffS.nil_ (SegV.mk (fun w' => Blk w' gx 42 C.toArray) (fun _ h => h) hS9 ?_))
      refine HoistK.nil_ ?_
      simp only [opsAt, filterMap_cons, filterMap_nil, getElem?_toArray, getElem?_cons_succ, getElem?_cons_zero]
      refine EffS.cons_ fun _ hQ => ?_
      go_wp2_with fail
      refine (radd_any (fun w {S} {x} {cs} h => HFORM.out w S x cs h) w9 (HSA.out.below HL9.out.2.2.1) HSO.out (Sh.rep_below HTS.out HL9.out.2.2.1) HL9.out.2.1 (fun _ h => h) (fun b h => ltle h HL9.out.2.2.1.size) (fun h => by have h : gR < w1.heap.size := h; have := HL9.out.2.2.2.2.1; omega) HWX.out HLT.out).mono ?_
      rintro e w10 ⟨rfl, vR', hr10, hc10, hv10⟩
      rw [← HRC.out]
      have hS10 := hS9.chg hc10 (fun h => by
        rcases h with h | h
        · exact HGX.out.2.1 h
        · have := HGX.out.2.2.2.2 _ h; omega)
      have HL10 := Lib.hid (HL9.out.stepR hr10 hc10 (by
        rcases hv10 with h | ⟨q, h, hq⟩
        · exact .inl h
        · exact .inr fun b hb => by rw [h] at hb; injection hb with hb; omega))
      clear hr10 hc10 hv10 hS9 HL9
      have hrr : (rc != rc) = false := by simp
      go_wp2_with fail
      refine hQ _ _ hS10 (EffS.nil_ (SegV.mk (fun w' => Blk w' gx 42 C.toArray) (fun _ h => h) hS10 ?_))
      refine HoistK.nil_ ?_
      simp only [opsAt, filterMap_cons, filterMap_nil, getElem?_toArray, getElem?_cons_succ, getElem?_cons_zero]
      refine EffS.cons_ fun _ hQ => ?_
      go_wp2_with fail
      refine hQ _ _ hS10 (EffS.nil_ fun _ hQ => ?_)
      clear hS10
      go_wp2_with fail
      exact ⟨⟨k + 1, by omega, by push_cast; rfl, Lib.hid ⟨_, v', vR', HL10.out, add_nodup HND.out tx⟩⟩, by simp only [intOf]; omega⟩
    have g0 : (kd == 0) = false := by simpa using hkd0
    by_cases hkd1 : kd = 1
    · subst hkd1
      go_wp2_with (refine wpList_load_mid rfl 34 _ rfl gx 2 rfl ss _ HR5.out.1 Tryz.underlying34 rfl HST.out ?_)
      clear hk0 hN0 g0 hkd0
      refine (poolNext_any w5 HLD.out.1 HK5.out HS5.out NN).mono ?_
      rintro e w6 ⟨vO, rfl, htn, hb6⟩
      have HL6 := Lib.hid (HLD.out.below hb6)
      have HX6 := Lib.hid (HX5.out.below hb6 HX5.out.lt)
      have HR6 := Lib.hid (HRS.out _ _ HX6.out)
      have HB6 := Lib.hid hb6
      have HTN := Lib.hid htn
      have HLEN := Lib.hid (show ∀ y ∈ nextX la (min NN 8).toNat X, (tTx.enc y).length ≤ 1099511627776 from fun y h => HWX.out y (next_mem h))
      have hN6 := HR6.out.2.2.2
      clear hb6 htn HX5
      go_wp2_with (refine wpList_load_mid rfl 34 _ rfl gx 2 rfl ss _ HR6.out.1 Tryz.underlying34 rfl HST.out ?_)
      clear hN6
      refine (rnext_any w6 (HS5.out.below HB6.out) HSO.out HBR.out HL6.out.2.1 HWX.out HND.out (fun b h => ltle h HL6.out.2.2.1.size)).mono ?_
      rintro e w7 ⟨vN, rfl, ⟨SN, hln⟩, hb7⟩
      have HB7 := Lib.hid (HB6.out.trans (hb7.mono HB6.out.size))
      have HTN := Lib.hid (HTN.out.below hb7)
      have HLN := Lib.hid hln
      clear hb7 hln
      go_wp2_with fail
      refine (same_any w7 HTN.out.2.list HLN.out HLEN.out HLEN.out rfl).mono ?_
      rintro e w8 ⟨rfl, hb8⟩
      have HB8 := Lib.hid (HB7.out.trans (hb8.mono HB7.out.size))
      have HTN := Lib.hid (HTN.out.below hb8)
      clear hb8
      go_wp2_with fail
      refine (spoil_any w8 HTN.out).mono ?_
      rintro e w9 ⟨rfl, hc9⟩
      have HL9 := Lib.hid (HLD.out.below (HB8.out.trans (hc9.below HB8.out.size fun b h => h)))
      clear hc9
      go_wp2_with fail
      exact ⟨⟨k + 1, by omega, by push_cast; rfl, Lib.hid ⟨X, v, vR, HL9.out, HND.out⟩⟩, by simp only [intOf]; omega⟩
    have g1 : (kd == 1) = false := by simpa using hkd1
    by_cases hkd2 : kd = 2
    · subst hkd2
      obtain ⟨AR, cR, rfl⟩ := HLD.out.2.1.2.2.2.1.form
      obtain ⟨nX, hnX⟩ : ∃ n, n = X.length := ⟨_, rfl⟩
      have hL := HLD.out
      rw [show (Value.slice AR X.length cR) = .slice AR nX cR from by rw [hnX]] at hL
      have HL := Lib.hid hL
      have hnX32 : nX ≤ 32 := by have h1 := hL.2.1.1; have h2 := hL.2.1.2.1; omega
      have hcap := list_cap hL.2.1.2.2.2.1.list
      have HNX := Lib.hid hnX
      have HCAP := Lib.hid hcap
      obtain ⟨M, hM⟩ : ∃ M : Int, ∀ q : Decidable (NN < 0), @ite Int (NN < 0) q 0 NN = M := ⟨if NN < 0 then 0 else NN, fun q => by congr⟩
      have hM0 : 0 ≤ M := by
        have h := hM inferInstance
        split at h <;> omega
      obtain ⟨d, hd⟩ : ∃ d : Nat, ∀ q : Decidable ((nX : Int) < M), @ite Int ((nX : Int) < M) q nX M = (d : Int) := ⟨(if (nX : Int) < M then (nX : Int) else M).toNat, fun q => by
        have e : @ite Int ((nX : Int) < M) q nX M = if (nX : Int) < M then (nX : Int) else M := by congr
        rw [e]
        split <;> omega⟩
      have hdX : d ≤ nX := by
        have h := hd inferInstance
        split at h <;> omega
      obtain ⟨css, hsrc, htwo, hone⟩ := hL.2.1.2.2.2.1.src hnX hdX
      have hemp := Own.empty w5.drew 40 41
      have HO0 := Lib.hid (show Own (w5.drew.alloc (.cells #[] 40)) 40 41 (.slice (some ⟨w5.heap.size, 0, none⟩) 0 0) 0 [] from hemp)
      have HSRC := Lib.hid (hsrc.below ((Below.refl w5.heap.size w5).drew.alloc (Nat.le_refl _) (.cells #[] 40)))
      have HONE := Lib.hid hone
      have HTWO := Lib.hid htwo
      have HU0 := Lib.hid (show 0 + d ≤ maxLen ∧ (0 + d) * 120 ≤ 140737488355328 from ⟨by simp only [maxLen]; omega, by omega⟩)
      have HTK := Lib.hid (show (X.take d).length = d from by rw [List.length_take, ← hnX]; omega)
      have HNE := Lib.hid (show w5.heap.size ≠ gx ∧ w5.heap.size ≠ gR from ⟨by have := HX5.out.lt; omega, by have := hL.ltR.1; omega⟩)
      have HM := Lib.hid hM
      have HD := Lib.hid hd
      have HDX := Lib.hid (show d < 33 from by omega)
      have hdc : (d : Int) ≤ (cR : Int) := by have := hcap.1; omega
      have hdc2 : d ≤ cR := by have := hcap.1; omega
      clear hL hnX hcap hM hd hsrc htwo hone hemp hM0
      go_wp2_with fail
      clear hk0 hN0
      have hSS : Blk w5.drew gx 42 C.toArray ∧ Blk w5.drew gR 51 #[.int .i64 mm, .slice AR nX cR] := ⟨HX5.out.drew, HL.out.2.1.2.2.1.drew⟩
      refine wp_region_segsV [([1, 2, 3, 4, 5, 6, 7, 8, 9, 10, 11, 12, 13, 14], [0]), ([], [15]), ([], [16])] (by kernel_rfl) (by kernel_rfl) (by kernel_rfl) (by kernel_rfl)
        (SegV.mk (fun w' => Blk w' gx 42 C.toArray ∧ Blk w' gR 51 #[.int .i64 mm, .slice AR nX cR]) (fun _ _ => trivial) hSS ?_)
      iterate 3 (refine HoistK.yes (by rfl) (by kernel_rfl) ⟨?_, fun w' hSw => ?_, ?_⟩; rotate_left; (· go_simp; try with_reducible rfl); simp only [Act.put, setIfInBounds_toArray, getElem_toArray, getElem_cons_succ, getElem_cons_zero, set_cons_succ, set_cons_zero])
      (refine HoistK.yes (by rfl) (by kernel_rfl) ⟨?_, fun w' hSw => ?_, ?_⟩; rotate_left; (· have hcg : w'.cell? ⟨gR, 1, none⟩ = some (.slice AR nX cR) := (by rw [hSw.2.cell]; rfl); have hcn := (HRS.out _ _ hSw.1).2.2.2; go_simp; try with_reducible rfl); simp only [Act.put, setIfInBounds_toArray, getElem_toArray, getElem_cons_succ, getElem_cons_zero, set_cons_succ, set_cons_zero])
      (refine HoistK.yes (by rfl) (by kernel_rfl) ⟨?_, fun w' hSw => ?_, ?_⟩; rotate_left; (· go_simp; try with_reducible rfl); simp only [Act.put, setIfInBounds_toArray, getElem_toArray, getElem_cons_succ, getElem_cons_zero, set_cons_succ, set_cons_zero])
      (refine HoistK.yes (by rfl) (by kernel_rfl) ⟨?_, fun w' hSw => ?_, ?_⟩; rotate_left; (· have hcg : w'.cell? ⟨gR, 1, none⟩ = some (.slice AR nX cR) := (by rw [hSw.2.cell]; rfl); have hcn := (HRS.out _ _ hSw.1).2.2.2; go_simp; try with_reducible rfl); simp only [Act.put, setIfInBounds_toArray, getElem_toArray, getElem_cons_succ, getElem_cons_zero, set_cons_succ, set_cons_zero])
      (refine HoistK.yes (by rfl) (by kernel_rfl) ⟨?_, fun w' hSw => ?_, ?_⟩; rotate_left; (· go_simp; rw [HM.out]; try with_reducible rfl); simp only [Act.put, setIfInBounds_toArray, getElem_toArray, getElem_cons_succ, getElem_cons_zero, set_cons_succ, set_cons_zero])
      iterate 3 (refine HoistK.yes (by rfl) (by kernel_rfl) ⟨?_, fun w' hSw => ?_, ?_⟩; rotate_left; (· go_simp; try with_reducible rfl); simp only [Act.put, setIfInBounds_toArray, getElem_toArray, getElem_cons_succ, getElem_cons_zero, set_cons_succ, set_cons_zero])
      (refine HoistK.yes (by rfl) (by kernel_rfl) ⟨?_, fun w' hSw => ?_, ?_⟩; rotate_left; (· have hcg : w'.cell? ⟨gR, 1, none⟩ = some (.slice AR nX cR) := (by rw [hSw.2.cell]; rfl); have hcn := (HRS.out _ _ hSw.1).2.2.2; go_simp; try with_reducible rfl); simp only [Act.put, setIfInBounds_toArray, getElem_toArray, getElem_cons_succ, getElem_cons_zero, set_cons_succ, set_cons_zero])
      (refine HoistK.yes (by rfl) (by kernel_rfl) ⟨?_, fun w' hSw => ?_, ?_⟩; rotate_left; (· go_simp; try with_reducible rfl); simp only [Act.put, setIfInBounds_toArray, getElem_toArray, getElem_cons_succ, getElem_cons_zero, set_cons_succ, set_cons_zero])
      (refine HoistK.yes (by rfl) (by kernel_rfl) ⟨?_, fun w' hSw => ?_, ?_⟩; rotate_left; (· go_simp; rw [HD.out]; try with_reducible rfl); simp only [Act.put, setIfInBounds_toArray, getElem_toArray, getElem_cons_succ, getElem_cons_zero, set_cons_succ, set_cons_zero])
      (refine HoistK.yes (by rfl) (by kernel_rfl) ⟨?_, fun w' hSw => ?_, ?_⟩; rotate_left; (· go_simp; try with_reducible rfl); simp only [Act.put, setIfInBounds_toArray, getElem_toArray, getElem_cons_succ, getElem_cons_zero, set_cons_succ, set_cons_zero])
      refine HoistK.nil_ ?_
      simp only [opsAt, filterMap_cons, filterMap_nil, getElem?_toArray, getElem?_cons_zero]
      refine EffS.cons_ fun _ hQ => ?_
      go_wp2_with fail
      have hS6 : Blk (w5.drew.alloc (.cells #[] 40)) gx 42 C.toArray ∧ Blk (w5.drew.alloc (.cells #[] 40)) gR 51 #[.int .i64 mm, .slice AR nX cR] := ⟨hSS.1.alloc _, hSS.2.alloc _⟩
      clear hSS
      refine hQ _ _ hS6 (EffS.nil_ (SegV.mk (fun w' => Blk w' gx 42 C.toArray ∧ Blk w' gR 51 #[.int .i64 mm, .slice AR nX cR]) (fun _ h => h) hS6 ?_))
      refine HoistK.nil_ ?_
      simp only [opsAt, filterMap_cons, filterMap_nil, getElem?_toArray, getElem?_cons_succ, getElem?_cons_zero]
      refine EffS.cons_ fun _ hQ => ?_
      go_wp2_with (at_builtin; refine wpList_app _ rfl _ _ _ rfl Tryz.underlying46 info_tx rfl (by decide) HO0.out rfl HSRC.out rfl HONE.out HU0.out.1 HU0.out.2 ?_; intro v6 w6 ho6 hc6 hnil6 hat6; clear hnil6; obtain ⟨A6, c6, rfl⟩ := ho6.form; have HO6 := Lib.hid ho6; clear ho6; have HC6 := Lib.hid hc6; clear hc6; have HAT6 := Lib.hid hat6; clear hat6)
      have hS7 := And.intro (hS6.1.chg HC6.out fun h => HNE.out.1 (by simpa [Value.ownBlock] using h)) (hS6.2.chg HC6.out fun h => HNE.out.2 (by simpa [Value.ownBlock] using h))
      have hz5 : (w5.drew.alloc (.cells #[] 40)).heap.size = w5.heap.size + 1 := by show (w5.alloc _).heap.size = _; simp
      have hown0 : ∀ b, (Value.slice (some ⟨w5.heap.size, 0, none⟩) 0 0).ownBlock = some b → b = w5.heap.size := fun b h => by
        have h : some w5.heap.size = some b := h
        injection h with h
        exact h.symm
      have hb56 : Below w5.heap.size w5 w6 := (((Below.refl w5.heap.size w5).drew).alloc (Nat.le_refl _) (.cells #[] 40)).trans (HC6.out.below (Nat.le_of_lt (by show w5.heap.size < (w5.alloc (.cells #[] 40)).heap.size; simp)) fun b h => Nat.le_of_eq (hown0 b h).symm)
      have hat : ∀ b, (Value.slice A6 (0 + d) c6).ownBlock = some b → w5.heap.size ≤ b := fun b h => by
        rcases HAT6.out with e | e
        · rw [e] at h
          exact Nat.le_of_eq (hown0 b h).symm
        · rw [e] at h; injection h with h
          have e2 : b = w5.heap.size + 1 := h.symm.trans hz5
          omega
      clear hz5 hown0
      have HAT := Lib.hid hat
      have HB56 := Lib.hid hb56
      have HX6 := Lib.hid hS7.1
      have HO6 := Lib.hid (show Own w6 40 41 (.slice A6 (0 + d) c6) d css.flatten from by have h := HO6.out; rw [Nat.zero_add] at h ⊢; exact h)
      clear hat hb56 hS6
      go_wp2_with fail
      refine hQ _ _ hS7 (EffS.nil_ (SegV.mk (fun w' => Blk w' gx 42 C.toArray ∧ Blk w' gR 51 #[.int .i64 mm, .slice AR nX cR]) (fun _ h => h) hS7 ?_))
      refine HoistK.nil_ ?_
      simp only [opsAt, filterMap_cons, filterMap_nil, getElem?_toArray, getElem?_cons_succ, getElem?_cons_zero]
      refine EffS.cons_ fun _ hQ => ?_
      go_wp2_with fail
      refine hQ _ _ hS7 (EffS.nil_ fun _ hQ => ?_)
      clear hS7
      rw [Nat.zero_add] at HO6 HAT
      try rw [Nat.zero_add]
      clear HAT6 HC6
      have hdlt : d < 33 := by have := HDX.out; omega
      have HR6 := Lib.hid (HRS.out _ _ HX6.out).2.1
      have HCL7 := Lib.hid HTL7.out
      have H17 := Lib.hid (Sh.rep_one _ _ _ HTS.out)
      have HI7 := Lib.hid (show (Tryz.prog.info? 40).map (fun i => (i.zero.map (fun z => z.cells.size), i.size)) = some (some ts.length, ts.length) from by rw [HCL7.out]; exact sizes_tx)
      have HO7 := Lib.hid (show ∀ ob, Own (w6.alloc ob) 40 41 (.slice A6 d c6) d css.flatten from fun ob => own_keep HO6.out fun b hb => Below.heap_alloc w6 ob b (own_lt HO6.out hb))
      have HSN7 := Lib.hid (Cs.of_new w6 40 (size := 41) 1 (cs := ts) (by rw [HCL7.out]) (by simp only [maxLen]; decide))
      have HU7 := Lib.hid (show d + 1 ≤ maxLen ∧ (d + 1) * 120 ≤ 140737488355328 from ⟨by simp only [maxLen]; omega, by omega⟩)
      go_wp2_with (first
        | (refine wpList_load_mid rfl 40 _ rfl gx 8 rfl ts _ HR6.out Tryz.underlying40 rfl HJT.out ?_)
        | (refine wpList_row1 rfl 46 40 _ rfl Tryz.underlying46 (.agg ts.toArray) rfl ts rfl HI7.out (by rw [HCL7.out]; decide) (by rw [HCL7.out]; decide) ?_)
        | (at_builtin; refine wpList_app _ rfl _ _ _ rfl Tryz.underlying46 info_tx rfl (by decide) (HO7.out _) rfl HSN7.out rfl H17.out HU7.out.1 HU7.out.2 ?_; intro v7 w7 ho7 hc7 hnil7 hat7; clear hnil7; obtain ⟨A7, c7, rfl⟩ := ho7.form; refine Hid.out ?_))
      refine Lib.hid ?_
      have hb57 : Below w5.heap.size w5 w7 := (HB56.out.alloc HB56.out.size _).trans (hc7.below (HB56.out.alloc HB56.out.size (.cells ts.toArray 40)).size fun b h => HAT.out b h)
      have hat : ∀ b, (Value.slice A7 (d + 1) c7).ownBlock = some b → w5.heap.size ≤ b := fun b h => by
        rcases hat7 with e | e
        · exact HAT.out b (e ▸ h)
        · rw [e] at h; injection h with h
          have e2 : (w6.alloc (.cells ts.toArray 40)).heap.size = w6.heap.size + 1 := by simp
          have := HB56.out.size
          omega
      have hx7 : Blk w7 gx 42 C.toArray := (HX6.out.alloc _).chg hc7 fun h => by have := HAT.out _ h; have := HX5.out.lt; omega
      have hns : ∀ b, w5.heap.size ≤ b → ¬ (b < w1.heap.size ∨ (Value.slice AR nX cR).ownBlock = some b) := fun b hb h => by
        rcases h with h | h
        · have := HL.out.2.2.1.size; omega
        · have := HL.out.ltR.2 b h; omega
      have ht7 : TxsO (fun b => b < w1.heap.size ∨ (Value.slice AR nX cR).ownBlock = some b) w7 (.slice A7 (d + 1) c7) (X.take d ++ [tx]) := by
        refine TxsO.snoc (w := w5) (w3 := w6) (w4 := w6) (S := fun b => b < w1.heap.size ∨ (Value.slice AR nX cR).ownBlock = some b) (S' := fun b => b < w1.heap.size ∨ (Value.slice AR nX cR).ownBlock = some b) (css := css) (fun b hb => hns b (HAT.out b hb)) HTWO.out HB56.out (Sh.rep_sub (Sh.rep_below (Sh.rep_below HTS.out HL.out.2.2.1) HB56.out) fun b hb _ => .inl hb) (Below.refl _ _) (by rw [HTK.out]; exact ho7) hc7 (fun _ h _ => h) (fun b h _ e => hns b (HAT.out b e) h) (fun _ h _ => h) fun b hb => hns b (hat b hb)
      obtain ⟨Y, hY⟩ : ∃ Y, Y = X.take d ++ [tx] := ⟨_, rfl⟩
      have HWY := Lib.hid (show ∀ y ∈ Y, (tTx.enc y).length ≤ 1099511627776 from fun y h => by
        rw [hY] at h
        rcases List.mem_append.1 h with h | h
        · exact HWX.out y (List.mem_of_mem_take h)
        · rw [List.mem_singleton] at h; rw [h]; exact HLT.out)
      rw [← hY] at ht7
      have hl7 := HL.out.below hb57
      have hl8 : (Sh.list tTx).rep w7 (fun b => (b < w1.heap.size ∨ (Value.slice AR nX cR).ownBlock = some b) ∨ w5.heap.size ≤ b) Y [.slice A7 (d + 1) c7] := Sh.rep_sub ht7.list fun b hb _ => by
        rcases hb with hb | hb
        · exact .inl hb
        · exact .inr (hat b hb)
      have hst : ∀ w', Chg (fun b => v.ownBlock = some b) w7 w' → StA w' S la ss ∧ Pk w' sent := fun w' hc => by
        have h2 : Below w1.heap.size w1 w' := hl7.2.2.1.trans (hc.below hl7.2.2.1.size fun b hb => (hl7.2.2.2.2.2.2.1 b hb).1)
        exact ⟨HSA.out.below h2, HK.out.below (HB1.out.trans (h2.mono HB1.out.size))⟩
      have HD7 := Lib.hid (poolDone_any w7 hst hl7.1 hl8 HWY.out)
      have HL7 := Lib.hid hl7
      have HY7 := Lib.hid hl8
      have HX7 := Lib.hid hx7
      have HR7 := Lib.hid (HRS.out _ _ hx7).1
      clear hb57 hat hx7 hns ht7 hl7 hl8 hst hc7 hat7 ho7 hY hdlt
      go_wp2_with (refine wpList_load_mid rfl 34 _ rfl gx 2 rfl ss _ HR7.out Tryz.underlying34 rfl HST.out ?_)
      refine HD7.out.mono ?_
      rintro e w8 ⟨v', rfl, hov, hp8, hc8⟩
      have HL8 := Lib.hid (HL7.out.stepP hp8 hc8 (.inl hov))
      have HX8 := Lib.hid (HX7.out.chg hc8 fun h => by
        rcases h with h | h
        · exact HGX.out.1 h
        · have := HGX.out.2.2.2.1 _ h; omega)
      have HY8 := Lib.hid (Sh.rep_chg HY7.out hc8 fun b hb h => by
        have hP := HL.out.ltP
        rcases hb with (hb | hb) | hb
        · rcases h with h | h
          · have := HL.out.2.2.2.1; omega
          · have := (HL.out.2.2.2.2.2.2.1 b h).1; omega
        · rcases h with h | h
          · exact (HL.out.2.2.2.2.2.2.2 b hb).2.1 h
          · exact (HL.out.2.2.2.2.2.2.2 b hb).2.2 h
        · rcases h with h | h
          · omega
          · have := hP.2 b h; omega)
      have HR8 := Lib.hid (HRS.out _ _ HX8.out).1
      clear hov hp8 hc8 HD7 HL7 HY7 HX7 HR7
      go_wp2_with (refine wpList_load_mid rfl 34 _ rfl gx 2 rfl ss _ HR8.out Tryz.underlying34 rfl HST.out ?_)
      refine (rdone_any w8 (HSA.out.below HL8.out.2.2.1) HSO.out HL8.out.2.1 HWX.out HY8.out HWY.out (fun b h => ltle h HL8.out.2.2.1.size) (fun h => by have h : gR < w1.heap.size := h; have := HL8.out.2.2.2.2.1; omega)).mono ?_
      rintro e w9 ⟨rfl, vR', hr9, hc9, ho9⟩
      have HL9 := Lib.hid (HL8.out.stepR hr9 (hc9.mono fun b h => .inl h) (.inr ho9))
      clear hr9 hc9 ho9
      go_wp2_with fail
      exact ⟨⟨k + 1, by omega, by push_cast; rfl, Lib.hid ⟨_, v', vR', HL9.out, stay_nodup HND.out⟩⟩, by simp only [intOf]; omega⟩
    have g2 : (kd == 2) = false := by simpa using hkd2
    go_wp2_with fail
    clear hk0 hN0 g0 g1 g2 hkd0 hkd1 hkd2
    refine (poolAll_any w5 HLD.out.1 HK5.out).mono ?_
    rintro e w6 ⟨vO, rfl, htn, hb6⟩
    have HL6 := Lib.hid (HLD.out.below hb6)
    have HB6 := Lib.hid hb6
    have HTN := Lib.hid htn
    have hg1 : w6.cell? ⟨gR, 1, none⟩ = some vR := by rw [HL6.out.2.1.2.2.1.cell]; rfl
    clear hb6 htn HX5
    go_wp2_with fail
    clear hg1
    refine (same_any w6 HTN.out.2.list HL6.out.2.1.2.2.2.1.list HWX.out HWX.out rfl).mono ?_
    rintro e w8 ⟨rfl, hb8⟩
    have HB8 := Lib.hid (HB6.out.trans (hb8.mono HB6.out.size))
    have HTN := Lib.hid (HTN.out.below hb8)
    clear hb8
    go_wp2_with fail
    refine (spoil_any w8 HTN.out).mono ?_
    rintro e w9 ⟨rfl, hc9⟩
    have HL9 := Lib.hid (HLD.out.below (HB8.out.trans (hc9.below HB8.out.size fun b h => h)))
    clear hc9
    go_wp2_with fail
    exact ⟨⟨k + 1, by omega, by push_cast; rfl, Lib.hid ⟨X, v, vR, HL9.out, HND.out⟩⟩, by simp only [intOf]; omega⟩
end
section
open Go.RowKit Go.Maps
attribute [-simp] Tryz.isAgg40 Tryz.typeInfo40 Tryz.isAgg37 Tryz.typeInfo37 Tryz.sizeOf37
theorem build_dig0 (w : World) : (Instr.build 37 #[]).run Tryz.prog w = .ok (.agg (u8s (List.replicate 32 (0 : UInt8))).toArray) w := by kernel_rfl
theorem z32_eq : u8s (List.replicate 32 (0 : UInt8)) = [.int .u8 0, .int .u8 0, .int .u8 0, .int .u8 0, .int .u8 0, .int .u8 0, .int .u8 0, .int .u8 0, .int .u8 0, .int .u8 0, .int .u8 0, .int .u8 0, .int .u8 0, .int .u8 0, .int .u8 0, .int .u8 0, .int .u8 0, .int .u8 0, .int .u8 0, .int .u8 0, .int .u8 0, .int .u8 0, .int .u8 0, .int .u8 0, .int .u8 0, .int .u8 0, .int .u8 0, .int .u8 0, .int .u8 0, .int .u8 0, .int .u8 0, .int .u8 0] := by unfold u8s; rw [List.map_replicate]; rfl
theorem dig_sizedI {id : List UInt8} (h : id.length = 32) : (Tryz.prog.info? 37).map (·.size) = some (u8s id).length := by rw [u8s_length, h]; kernel_rfl
theorem dig_sizedZ : (Tryz.prog.info? 37).map (·.size) = some (List.length [Value.int .u8 0, Value.int .u8 0, Value.int .u8 0, Value.int .u8 0, Value.int .u8 0, Value.int .u8 0, Value.int .u8 0, Value.int .u8 0, Value.int .u8 0, Value.int .u8 0, Value.int .u8 0, Value.int .u8 0, Value.int .u8 0, Value.int .u8 0, Value.int .u8 0, Value.int .u8 0, Value.int .u8 0, Value.int .u8 0, Value.int .u8 0, Value.int .u8 0, Value.int .u8 0, Value.int .u8 0, Value.int .u8 0, Value.int .u8 0, Value.int .u8 0, Value.int .u8 0, Value.int .u8 0, Value.int .u8 0, Value.int .u8 0, Value.int .u8 0, Value.int .u8 0, Value.int .u8 0]) := by kernel_rfl
end
section
open Go.RowKit Go.Maps
attribute [-simp] Tryz.isAgg40 Tryz.typeInfo40 Tryz.isAgg37 Tryz.typeInfo37 Tryz.sizeOf37
set_option maxHeartbeats 8000000 in
set_option maxRecDepth 100000 in
theorem rform_1 (w : World) (f t a n d dl : Int) (id : List UInt8) (hid : id.length = 32) (m : Int) (A : Option Addr) (nf cap : Nat) (v : Int)
    (hv : v = if nf ≠ 0 ∨ d ≠ 0 ∨ dl ≠ 0 ∨ id ≠ (List.replicate 32 (0 : UInt8)) ∨ m ≠ 0 then 1 else 0) :
    Calls Tryz.prog 33 #[.agg (txl 1 f t a n d dl id m (.slice A nf cap)).toArray] w fun e w' => e = .returned (.int .i64 v) ∧ Below w.heap.size w w' := by
  obtain ⟨cs, hcs⟩ : ∃ cs, cs = (txl 1 f t a n d dl id m (.slice A nf cap)) := ⟨_, rfl⟩
  have hx := (Blk.new w 40 cs.toArray)
  have hal := (Below.refl w.heap.size w).alloc (Nat.le_refl _) (.cells cs.toArray 40)
  rw [← hcs]
  have HX := Lib.hid hx
  have HAL := Lib.hid hal
  have HCS := Lib.hid hcs
  have HID := Lib.hid hid
  have hc0 : (w.alloc (.cells cs.toArray 40)).cell? ⟨w.heap.size, 0, none⟩ = some (.int .i64 1) := by rw [hx.cell, hcs]; rfl
  have hc1 : (w.alloc (.cells cs.toArray 40)).cell? ⟨w.heap.size, 1, none⟩ = some (.int .u64 f) := by rw [hx.cell, hcs]; rfl
  have hc2 : (w.alloc (.cells cs.toArray 40)).cell? ⟨w.heap.size, 2, none⟩ = some (.int .u64 t) := by rw [hx.cell, hcs]; rfl
  have hc3 : (w.alloc (.cells cs.toArray 40)).cell? ⟨w.heap.size, 3, none⟩ = some (.int .u64 a) := by rw [hx.cell, hcs]; rfl
  have hc4 : (w.alloc (.cells cs.toArray 40)).cell? ⟨w.heap.size, 4, none⟩ = some (.int .u64 n) := by rw [hx.cell, hcs]; rfl
  have hc5 : (w.alloc (.cells cs.toArray 40)).cell? ⟨w.heap.size, 5, none⟩ = some (.int .i64 d) := by rw [hx.cell, hcs]; rfl
  have hc6 : (w.alloc (.cells cs.toArray 40)).cell? ⟨w.heap.size, 6, none⟩ = some (.int .i64 dl) := by rw [hx.cell, hcs]; rfl
  have hc40 : (w.alloc (.cells cs.toArray 40)).cell? ⟨w.heap.size, 40, none⟩ = some (.slice A nf cap) := by rw [hx.cell, hcs, getElem?_toArray]; exact txl_40 hid
  have HBU := Lib.hid build_dig0
  have HSI := Lib.hid (dig_sizedI hid)
  have HSZ := Lib.hid dig_sizedZ
  have hz0 := Blk.new (w.alloc (.cells cs.toArray 40)) 37 (List.replicate 32 (.int .u8 0) : List Value).toArray
  rw [show (w.alloc (.cells cs.toArray 40)).heap.size = w.heap.size + 1 by simp] at hz0
  have HZ0 := Lib.hid hz0
  clear hz0
  have hdig : ∀ w', (Op.equalIn 10000 37 (.agg (u8s id).toArray) (.agg #[.int .u8 0, .int .u8 0, .int .u8 0, .int .u8 0, .int .u8 0, .int .u8 0, .int .u8 0, .int .u8 0, .int .u8 0, .int .u8 0, .int .u8 0, .int .u8 0, .int .u8 0, .int .u8 0, .int .u8 0, .int .u8 0, .int .u8 0, .int .u8 0, .int .u8 0, .int .u8 0, .int .u8 0, .int .u8 0, .int .u8 0, .int .u8 0, .int .u8 0, .int .u8 0, .int .u8 0, .int .u8 0, .int .u8 0, .int .u8 0, .int .u8 0, .int .u8 0])).run Tryz.prog w' = .ok (decide (id = (List.replicate 32 (0 : UInt8)))) w' := fun w' => run_eq_dig hid (m := (List.replicate 32 (0 : UInt8))) rfl
  have HV := Lib.hid hv
  have HDIG := Lib.hid hdig
  clear hal hx hid hv hcs hdig
  by_cases hnf : nf = 0
  rotate_left
  · have HQ := Lib.hid hnf
    have hnI : ¬ (nf : Int) = 0 := by omega
    have hnB : ((nf : Int) == 0) = false := by simp; omega
    go_enter Tryz.func33, Tryz.ntmps33
    go_wp2_with fail
    go_ret
    exact ⟨by rw [HV.out, if_pos (.inl HQ.out)]; rfl, HAL.out⟩
  subst hnf
  by_cases hqd : d = 0
  rotate_left
  · have HQ := Lib.hid hqd
    go_enter Tryz.func33, Tryz.ntmps33
    go_wp2_with fail
    go_ret
    exact ⟨by rw [HV.out, if_pos (.inr (.inl HQ.out))]; rfl, HAL.out⟩
  subst hqd
  by_cases hqdl : dl = 0
  rotate_left
  · have HQ := Lib.hid hqdl
    go_enter Tryz.func33, Tryz.ntmps33
    go_wp2_with fail
    go_ret
    exact ⟨by rw [HV.out, if_pos (.inr (.inr (.inl HQ.out)))]; rfl, HAL.out⟩
  subst hqdl
  by_cases hqid : id = (List.replicate 32 (0 : UInt8))
  rotate_left
  · have HQ := Lib.hid hqid
    have hdd : decide (id = (List.replicate 32 (0 : UInt8))) = false := decide_eq_false hqid
    have HDIG := Lib.hid (fun w2 => (HDIG.out w2).trans (by rw [hdd]))
    clear hdd hqid
    go_enter Tryz.func33, Tryz.ntmps33
    go_wp2_with ((with_reducible (show wpList _ _ _ (⟨_, .build _ _, _, _, _, _⟩ :: _) _ _)); refine Hid.out ?_)
    refine Lib.hid ?_
    refine wpList_build_ rfl 37 _ rfl #[] (by simp [Act.eval]) _ (HBU.out _) ?_
    go_wp2_with ((with_reducible (show wpList _ _ _ (⟨_, .store _ _ _, _, _, _, _⟩ :: _) _ _)); refine Hid.out ?_)
    refine Lib.hid ?_
    refine wpList_store_blk (cs0 := List.replicate 32 (.int .u8 0)) (cs := u8s (List.replicate 32 (0 : UInt8))) rfl 37 _ _ rfl HZ0.out rfl rfl (by simp [u8s]) (by kernel_rfl) (u8s_one _) ?_
    intro w2 hb hc
    have HZ2 := Lib.hid hb
    have HB2 := Lib.hid (HAL.out.trans (((((Below.refl (w.alloc (.cells cs.toArray 40)).heap.size (w.alloc (.cells cs.toArray 40))).alloc (Nat.le_refl _) (.cells ((List.replicate 32 (.int .u8 0) : List Value)).toArray 37)).trans (hc.below (by simp) fun b h => by have h : b = w.heap.size + 1 := h; simp [h]))).mono HAL.out.size))
    have HX2 := Lib.hid ((HX.out.alloc (.cells ((List.replicate 32 (.int .u8 0) : List Value)).toArray 37)).chg hc (by omega))
    have hq0 : w2.cell? ⟨w.heap.size, 0, none⟩ = some (.int .i64 1) := (by rw [HX2.out.cell, HCS.out]; rfl)
    have hq39 : w2.cell? ⟨w.heap.size, 39, none⟩ = some (.int .i64 m) := (by rw [HX2.out.cell, HCS.out, getElem?_toArray]; exact txl_39 HID.out)
    have HRI := Lib.hid (show w2.rangeAt w.heap.size 7 (u8s id) from by have h := HX2.out; rw [HCS.out] at h; exact txl_id h)
    have HZRO := Lib.hid (show w2.rangeAt (w.heap.size + 1) 0 [.int .u8 0, .int .u8 0, .int .u8 0, .int .u8 0, .int .u8 0, .int .u8 0, .int .u8 0, .int .u8 0, .int .u8 0, .int .u8 0, .int .u8 0, .int .u8 0, .int .u8 0, .int .u8 0, .int .u8 0, .int .u8 0, .int .u8 0, .int .u8 0, .int .u8 0, .int .u8 0, .int .u8 0, .int .u8 0, .int .u8 0, .int .u8 0, .int .u8 0, .int .u8 0, .int .u8 0, .int .u8 0, .int .u8 0, .int .u8 0, .int .u8 0, .int .u8 0] from by have h := HZ2.out.range; rw [z32_eq] at h; exact h)
    clear hb hc
    have hdig := HDIG.out
    go_wp2_with fail
    simp only [Tryz.sizeOf37, Result.andThen, ↓reduceIte, Nat.reduceEqDiff]
    rw [Oper.upon_value]
    go_wp2_with (first
    | (refine wpList_load_mid_g (by kernel_rfl) 37 _ rfl w.heap.size 7 rfl (u8s id) _ HRI.out Tryz.underlying37 rfl HSI.out ?_)
    | (refine wpList_load_mid_g (by kernel_rfl) 37 _ rfl (w.heap.size + 1) 0 rfl [.int .u8 0, .int .u8 0, .int .u8 0, .int .u8 0, .int .u8 0, .int .u8 0, .int .u8 0, .int .u8 0, .int .u8 0, .int .u8 0, .int .u8 0, .int .u8 0, .int .u8 0, .int .u8 0, .int .u8 0, .int .u8 0, .int .u8 0, .int .u8 0, .int .u8 0, .int .u8 0, .int .u8 0, .int .u8 0, .int .u8 0, .int .u8 0, .int .u8 0, .int .u8 0, .int .u8 0, .int .u8 0, .int .u8 0, .int .u8 0, .int .u8 0, .int .u8 0] _ HZRO.out Tryz.underlying37 rfl HSZ.out ?_; refine Hid.out ?_))
    refine Lib.hid ?_
    go_wp2_with fail
    go_ret
    exact ⟨by rw [HV.out, if_pos (.inr (.inr (.inr (.inl HQ.out))))]; rfl, HB2.out⟩
  have hdd : decide (id = (List.replicate 32 (0 : UInt8))) = true := decide_eq_true hqid
  have HDIG := Lib.hid (fun w2 => (HDIG.out w2).trans (by rw [hdd]))
  have HQID := Lib.hid hqid
  clear hdd hqid
  by_cases hqm : m = 0
  rotate_left
  · have HQ := Lib.hid hqm
    go_enter Tryz.func33, Tryz.ntmps33
    go_wp2_with ((with_reducible (show wpList _ _ _ (⟨_, .build _ _, _, _, _, _⟩ :: _) _ _)); refine Hid.out ?_)
    refine Lib.hid ?_
    refine wpList_build_ rfl 37 _ rfl #[] (by simp [Act.eval]) _ (HBU.out _) ?_
    go_wp2_with ((with_reducible (show wpList _ _ _ (⟨_, .store _ _ _, _, _, _, _⟩ :: _) _ _)); refine Hid.out ?_)
    refine Lib.hid ?_
    refine wpList_store_blk (cs0 := List.replicate 32 (.int .u8 0)) (cs := u8s (List.replicate 32 (0 : UInt8))) rfl 37 _ _ rfl HZ0.out rfl rfl (by simp [u8s]) (by kernel_rfl) (u8s_one _) ?_
    intro w2 hb hc
    have HZ2 := Lib.hid hb
    have HB2 := Lib.hid (HAL.out.trans (((((Below.refl (w.alloc (.cells cs.toArray 40)).heap.size (w.alloc (.cells cs.toArray 40))).alloc (Nat.le_refl _) (.cells ((List.replicate 32 (.int .u8 0) : List Value)).toArray 37)).trans (hc.below (by simp) fun b h => by have h : b = w.heap.size + 1 := h; simp [h]))).mono HAL.out.size))
    have HX2 := Lib.hid ((HX.out.alloc (.cells ((List.replicate 32 (.int .u8 0) : List Value)).toArray 37)).chg hc (by omega))
    have hq0 : w2.cell? ⟨w.heap.size, 0, none⟩ = some (.int .i64 1) := (by rw [HX2.out.cell, HCS.out]; rfl)
    have hq39 : w2.cell? ⟨w.heap.size, 39, none⟩ = some (.int .i64 m) := (by rw [HX2.out.cell, HCS.out, getElem?_toArray]; exact txl_39 HID.out)
    have HRI := Lib.hid (show w2.rangeAt w.heap.size 7 (u8s id) from by have h := HX2.out; rw [HCS.out] at h; exact txl_id h)
    have HZRO := Lib.hid (show w2.rangeAt (w.heap.size + 1) 0 [.int .u8 0, .int .u8 0, .int .u8 0, .int .u8 0, .int .u8 0, .int .u8 0, .int .u8 0, .int .u8 0, .int .u8 0, .int .u8 0, .int .u8 0, .int .u8 0, .int .u8 0, .int .u8 0, .int .u8 0, .int .u8 0, .int .u8 0, .int .u8 0, .int .u8 0, .int .u8 0, .int .u8 0, .int .u8 0, .int .u8 0, .int .u8 0, .int .u8 0, .int .u8 0, .int .u8 0, .int .u8 0, .int .u8 0, .int .u8 0, .int .u8 0, .int .u8 0] from by have h := HZ2.out.range; rw [z32_eq] at h; exact h)
    clear hb hc
    have hdig := HDIG.out
    go_wp2_with fail
    simp only [Tryz.sizeOf37, Result.andThen, ↓reduceIte, Nat.reduceEqDiff]
    rw [Oper.upon_value]
    go_wp2_with (first
    | (refine wpList_load_mid_g (by kernel_rfl) 37 _ rfl w.heap.size 7 rfl (u8s id) _ HRI.out Tryz.underlying37 rfl HSI.out ?_)
    | (refine wpList_load_mid_g (by kernel_rfl) 37 _ rfl (w.heap.size + 1) 0 rfl [.int .u8 0, .int .u8 0, .int .u8 0, .int .u8 0, .int .u8 0, .int .u8 0, .int .u8 0, .int .u8 0, .int .u8 0, .int .u8 0, .int .u8 0, .int .u8 0, .int .u8 0, .int .u8 0, .int .u8 0, .int .u8 0, .int .u8 0, .int .u8 0, .int .u8 0, .int .u8 0, .int .u8 0, .int .u8 0, .int .u8 0, .int .u8 0, .int .u8 0, .int .u8 0, .int .u8 0, .int .u8 0, .int .u8 0, .int .u8 0, .int .u8 0, .int .u8 0] _ HZRO.out Tryz.underlying37 rfl HSZ.out ?_; refine Hid.out ?_))
    refine Lib.hid ?_
    go_wp2_with fail
    go_ret
    exact ⟨by rw [HV.out, if_pos (.inr (.inr (.inr (.inr HQ.out))))]; rfl, HB2.out⟩
  subst hqm
  go_enter Tryz.func33, Tryz.ntmps33
  go_wp2_with ((with_reducible (show wpList _ _ _ (⟨_, .build _ _, _, _, _, _⟩ :: _) _ _)); refine Hid.out ?_)
  refine Lib.hid ?_
  refine wpList_build_ rfl 37 _ rfl #[] (by simp [Act.eval]) _ (HBU.out _) ?_
  go_wp2_with ((with_reducible (show wpList _ _ _ (⟨_, .store _ _ _, _, _, _, _⟩ :: _) _ _)); refine Hid.out ?_)
  refine Lib.hid ?_
  refine wpList_store_blk (cs0 := List.replicate 32 (.int .u8 0)) (cs := u8s (List.replicate 32 (0 : UInt8))) rfl 37 _ _ rfl HZ0.out rfl rfl (by simp [u8s]) (by kernel_rfl) (u8s_one _) ?_
  intro w2 hb hc
  have HZ2 := Lib.hid hb
  have HB2 := Lib.hid (HAL.out.trans (((((Below.refl (w.alloc (.cells cs.toArray 40)).heap.size (w.alloc (.cells cs.toArray 40))).alloc (Nat.le_refl _) (.cells ((List.replicate 32 (.int .u8 0) : List Value)).toArray 37)).trans (hc.below (by simp) fun b h => by have h : b = w.heap.size + 1 := h; simp [h]))).mono HAL.out.size))
  have HX2 := Lib.hid ((HX.out.alloc (.cells ((List.replicate 32 (.int .u8 0) : List Value)).toArray 37)).chg hc (by omega))
  have hq0 : w2.cell? ⟨w.heap.size, 0, none⟩ = some (.int .i64 1) := (by rw [HX2.out.cell, HCS.out]; rfl)
  have hq39 : w2.cell? ⟨w.heap.size, 39, none⟩ = some (.int .i64 0) := (by rw [HX2.out.cell, HCS.out, getElem?_toArray]; exact txl_39 HID.out)
  have HRI := Lib.hid (show w2.rangeAt w.heap.size 7 (u8s id) from by have h := HX2.out; rw [HCS.out] at h; exact txl_id h)
  have HZRO := Lib.hid (show w2.rangeAt (w.heap.size + 1) 0 [.int .u8 0, .int .u8 0, .int .u8 0, .int .u8 0, .int .u8 0, .int .u8 0, .int .u8 0, .int .u8 0, .int .u8 0, .int .u8 0, .int .u8 0, .int .u8 0, .int .u8 0, .int .u8 0, .int .u8 0, .int .u8 0, .int .u8 0, .int .u8 0, .int .u8 0, .int .u8 0, .int .u8 0, .int .u8 0, .int .u8 0, .int .u8 0, .int .u8 0, .int .u8 0, .int .u8 0, .int .u8 0, .int .u8 0, .int .u8 0, .int .u8 0, .int .u8 0] from by have h := HZ2.out.range; rw [z32_eq] at h; exact h)
  clear hb hc
  have hdig := HDIG.out
  go_wp2_with fail
  simp only [Tryz.sizeOf37, Result.andThen, ↓reduceIte, Nat.reduceEqDiff]
  rw [Oper.upon_value]
  go_wp2_with (first
  | (refine wpList_load_mid_g (by kernel_rfl) 37 _ rfl w.heap.size 7 rfl (u8s id) _ HRI.out Tryz.underlying37 rfl HSI.out ?_)
  | (refine wpList_load_mid_g (by kernel_rfl) 37 _ rfl (w.heap.size + 1) 0 rfl [.int .u8 0, .int .u8 0, .int .u8 0, .int .u8 0, .int .u8 0, .int .u8 0, .int .u8 0, .int .u8 0, .int .u8 0, .int .u8 0, .int .u8 0, .int .u8 0, .int .u8 0, .int .u8 0, .int .u8 0, .int .u8 0, .int .u8 0, .int .u8 0, .int .u8 0, .int .u8 0, .int .u8 0, .int .u8 0, .int .u8 0, .int .u8 0, .int .u8 0, .int .u8 0, .int .u8 0, .int .u8 0, .int .u8 0, .int .u8 0, .int .u8 0, .int .u8 0] _ HZRO.out Tryz.underlying37 rfl HSZ.out ?_; refine Hid.out ?_))
  refine Lib.hid ?_
  go_wp2_with fail
  go_ret
  exact ⟨by rw [HV.out, if_neg (by simp [HQID.out])]; rfl, HB2.out⟩
end
section
open Go.RowKit Go.Maps
attribute [-simp] Tryz.isAgg40 Tryz.typeInfo40 Tryz.isAgg37 Tryz.typeInfo37 Tryz.sizeOf37
set_option maxHeartbeats 8000000 in
set_option maxRecDepth 100000 in
theorem rform_2 (w : World) (f t a n d dl : Int) (id : List UInt8) (hid : id.length = 32) (m : Int) (A : Option Addr) (nf cap : Nat) (v : Int)
    (hv : v = if nf ≠ 0 ∨ id ≠ (List.replicate 32 (0 : UInt8)) ∨ m ≠ 0 then 1 else 0) :
    Calls Tryz.prog 33 #[.agg (txl 2 f t a n d dl id m (.slice A nf cap)).toArray] w fun e w' => e = .returned (.int .i64 v) ∧ Below w.heap.size w w' := by
  obtain ⟨cs, hcs⟩ : ∃ cs, cs = (txl 2 f t a n d dl id m (.slice A nf cap)) := ⟨_, rfl⟩
  have hx := (Blk.new w 40 cs.toArray)
  have hal := (Below.refl w.heap.size w).alloc (Nat.le_refl _) (.cells cs.toArray 40)
  rw [← hcs]
  have HX := Lib.hid hx
  have HAL := Lib.hid hal
  have HCS := Lib.hid hcs
  have HID := Lib.hid hid
  have hc0 : (w.alloc (.cells cs.toArray 40)).cell? ⟨w.heap.size, 0, none⟩ = some (.int .i64 2) := by rw [hx.cell, hcs]; rfl
  have hc1 : (w.alloc (.cells cs.toArray 40)).cell? ⟨w.heap.size, 1, none⟩ = some (.int .u64 f) := by rw [hx.cell, hcs]; rfl
  have hc2 : (w.alloc (.cells cs.toArray 40)).cell? ⟨w.heap.size, 2, none⟩ = some (.int .u64 t) := by rw [hx.cell, hcs]; rfl
  have hc3 : (w.alloc (.cells cs.toArray 40)).cell? ⟨w.heap.size, 3, none⟩ = some (.int .u64 a) := by rw [hx.cell, hcs]; rfl
  have hc4 : (w.alloc (.cells cs.toArray 40)).cell? ⟨w.heap.size, 4, none⟩ = some (.int .u64 n) := by rw [hx.cell, hcs]; rfl
  have hc5 : (w.alloc (.cells cs.toArray 40)).cell? ⟨w.heap.size, 5, none⟩ = some (.int .i64 d) := by rw [hx.cell, hcs]; rfl
  have hc6 : (w.alloc (.cells cs.toArray 40)).cell? ⟨w.heap.size, 6, none⟩ = some (.int .i64 dl) := by rw [hx.cell, hcs]; rfl
  have hc40 : (w.alloc (.cells cs.toArray 40)).cell? ⟨w.heap.size, 40, none⟩ = some (.slice A nf cap) := by rw [hx.cell, hcs, getElem?_toArray]; exact txl_40 hid
  have HBU := Lib.hid build_dig0
  have HSI := Lib.hid (dig_sizedI hid)
  have HSZ := Lib.hid dig_sizedZ
  have hz0 := Blk.new (w.alloc (.cells cs.toArray 40)) 37 (List.replicate 32 (.int .u8 0) : List Value).toArray
  rw [show (w.alloc (.cells cs.toArray 40)).heap.size = w.heap.size + 1 by simp] at hz0
  have HZ0 := Lib.hid hz0
  clear hz0
  have hdig : ∀ w', (Op.equalIn 10000 37 (.agg (u8s id).toArray) (.agg #[.int .u8 0, .int .u8 0, .int .u8 0, .int .u8 0, .int .u8 0, .int .u8 0, .int .u8 0, .int .u8 0, .int .u8 0, .int .u8 0, .int .u8 0, .int .u8 0, .int .u8 0, .int .u8 0, .int .u8 0, .int .u8 0, .int .u8 0, .int .u8 0, .int .u8 0, .int .u8 0, .int .u8 0, .int .u8 0, .int .u8 0, .int .u8 0, .int .u8 0, .int .u8 0, .int .u8 0, .int .u8 0, .int .u8 0, .int .u8 0, .int .u8 0, .int .u8 0])).run Tryz.prog w' = .ok (decide (id = (List.replicate 32 (0 : UInt8)))) w' := fun w' => run_eq_dig hid (m := (List.replicate 32 (0 : UInt8))) rfl
  have HV := Lib.hid hv
  have HDIG := Lib.hid hdig
  clear hal hx hid hv hcs hdig
  by_cases hnf : nf = 0
  rotate_left
  · have HQ := Lib.hid hnf
    have hnI : ¬ (nf : Int) = 0 := by omega
    have hnB : ((nf : Int) == 0) = false := by simp; omega
    go_enter Tryz.func33, Tryz.ntmps33
    go_wp2_with fail
    go_ret
    exact ⟨by rw [HV.out, if_pos (.inl HQ.out)]; rfl, HAL.out⟩
  subst hnf
  by_cases hqid : id = (List.replicate 32 (0 : UInt8))
  rotate_left
  · have HQ := Lib.hid hqid
    have hdd : decide (id = (List.replicate 32 (0 : UInt8))) = false := decide_eq_false hqid
    have HDIG := Lib.hid (fun w2 => (HDIG.out w2).trans (by rw [hdd]))
    clear hdd hqid
    go_enter Tryz.func33, Tryz.ntmps33
    go_wp2_with ((with_reducible (show wpList _ _ _ (⟨_, .build _ _, _, _, _, _⟩ :: _) _ _)); refine Hid.out ?_)
    refine Lib.hid ?_
    refine wpList_build_ rfl 37 _ rfl #[] (by simp [Act.eval]) _ (HBU.out _) ?_
    go_wp2_with ((with_reducible (show wpList _ _ _ (⟨_, .store _ _ _, _, _, _, _⟩ :: _) _ _)); refine Hid.out ?_)
    refine Lib.hid ?_
    refine wpList_store_blk (cs0 := List.replicate 32 (.int .u8 0)) (cs := u8s (List.replicate 32 (0 : UInt8))) rfl 37 _ _ rfl HZ0.out rfl rfl (by simp [u8s]) (by kernel_rfl) (u8s_one _) ?_
    intro w2 hb hc
    have HZ2 := Lib.hid hb
    have HB2 := Lib.hid (HAL.out.trans (((((Below.refl (w.alloc (.cells cs.toArray 40)).heap.size (w.alloc (.cells cs.toArray 40))).alloc (Nat.le_refl _) (.cells ((List.replicate 32 (.int .u8 0) : List Value)).toArray 37)).trans (hc.below (by simp) fun b h => by have h : b = w.heap.size + 1 := h; simp [h]))).mono HAL.out.size))
    have HX2 := Lib.hid ((HX.out.alloc (.cells ((List.replicate 32 (.int .u8 0) : List Value)).toArray 37)).chg hc (by omega))
    have hq0 : w2.cell? ⟨w.heap.size, 0, none⟩ = some (.int .i64 2) := (by rw [HX2.out.cell, HCS.out]; rfl)
    have hq39 : w2.cell? ⟨w.heap.size, 39, none⟩ = some (.int .i64 m) := (by rw [HX2.out.cell, HCS.out, getElem?_toArray]; exact txl_39 HID.out)
    have HRI := Lib.hid (show w2.rangeAt w.heap.size 7 (u8s id) from by have h := HX2.out; rw [HCS.out] at h; exact txl_id h)
    have HZRO := Lib.hid (show w2.rangeAt (w.heap.size + 1) 0 [.int .u8 0, .int .u8 0, .int .u8 0, .int .u8 0, .int .u8 0, .int .u8 0, .int .u8 0, .int .u8 0, .int .u8 0, .int .u8 0, .int .u8 0, .int .u8 0, .int .u8 0, .int .u8 0, .int .u8 0, .int .u8 0, .int .u8 0, .int .u8 0, .int .u8 0, .int .u8 0, .int .u8 0, .int .u8 0, .int .u8 0, .int .u8 0, .int .u8 0, .int .u8 0, .int .u8 0, .int .u8 0, .int .u8 0, .int .u8 0, .int .u8 0, .int .u8 0] from by have h := HZ2.out.range; rw [z32_eq] at h; exact h)
    clear hb hc
    have hdig := HDIG.out
    go_wp2_with fail
    simp only [Tryz.sizeOf37, Result.andThen, ↓reduceIte, Nat.reduceEqDiff]
    rw [Oper.upon_value]
    go_wp2_with (first
    | (refine wpList_load_mid_g (by kernel_rfl) 37 _ rfl w.heap.size 7 rfl (u8s id) _ HRI.out Tryz.underlying37 rfl HSI.out ?_)
    | (refine wpList_load_mid_g (by kernel_rfl) 37 _ rfl (w.heap.size + 1) 0 rfl [.int .u8 0, .int .u8 0, .int .u8 0, .int .u8 0, .int .u8 0, .int .u8 0, .int .u8 0, .int .u8 0, .int .u8 0, .int .u8 0, .int .u8 0, .int .u8 0, .int .u8 0, .int .u8 0, .int .u8 0, .int .u8 0, .int .u8 0, .int .u8 0, .int .u8 0, .int .u8 0, .int .u8 0, .int .u8 0, .int .u8 0, .int .u8 0, .int .u8 0, .int .u8 0, .int .u8 0, .int .u8 0, .int .u8 0, .int .u8 0, .int .u8 0, .int .u8 0] _ HZRO.out Tryz.underlying37 rfl HSZ.out ?_; refine Hid.out ?_))
    refine Lib.hid ?_
    go_wp2_with fail
    go_ret
    exact ⟨by rw [HV.out, if_pos (.inr (.inl HQ.out))]; rfl, HB2.out⟩
  have hdd : decide (id = (List.replicate 32 (0 : UInt8))) = true := decide_eq_true hqid
  have HDIG := Lib.hid (fun w2 => (HDIG.out w2).trans (by rw [hdd]))
  have HQID := Lib.hid hqid
  clear hdd hqid
  by_cases hqm : m = 0
  rotate_left
  · have HQ := Lib.hid hqm
    go_enter Tryz.func33, Tryz.ntmps33
    go_wp2_with ((with_reducible (show wpList _ _ _ (⟨_, .build _ _, _, _, _, _⟩ :: _) _ _)); refine Hid.out ?_)
    refine Lib.hid ?_
    refine wpList_build_ rfl 37 _ rfl #[] (by simp [Act.eval]) _ (HBU.out _) ?_
    go_wp2_with ((with_reducible (show wpList _ _ _ (⟨_, .store _ _ _, _, _, _, _⟩ :: _) _ _)); refine Hid.out ?_)
    refine Lib.hid ?_
    refine wpList_store_blk (cs0 := List.replicate 32 (.int .u8 0)) (cs := u8s (List.replicate 32 (0 : UInt8))) rfl 37 _ _ rfl HZ0.out rfl rfl (by simp [u8s]) (by kernel_rfl) (u8s_one _) ?_
    intro w2 hb hc
    have HZ2 := Lib.hid hb
    have HB2 := Lib.hid (HAL.out.trans (((((Below.refl (w.alloc (.cells cs.toArray 40)).heap.size (w.alloc (.cells cs.toArray 40))).alloc (Nat.le_refl _) (.cells ((List.replicate 32 (.int .u8 0) : List Value)).toArray 37)).trans (hc.below (by simp) fun b h => by have h : b = w.heap.size + 1 := h; simp [h]))).mono HAL.out.size))
    have HX2 := Lib.hid ((HX.out.alloc (.cells ((List.replicate 32 (.int .u8 0) : List Value)).toArray 37)).chg hc (by omega))
    have hq0 : w2.cell? ⟨w.heap.size, 0, none⟩ = some (.int .i64 2) := (by rw [HX2.out.cell, HCS.out]; rfl)
    have hq39 : w2.cell? ⟨w.heap.size, 39, none⟩ = some (.int .i64 m) := (by rw [HX2.out.cell, HCS.out, getElem?_toArray]; exact txl_39 HID.out)
    have HRI := Lib.hid (show w2.rangeAt w.heap.size 7 (u8s id) from by have h := HX2.out; rw [HCS.out] at h; exact txl_id h)
    have HZRO := Lib.hid (show w2.rangeAt (w.heap.size + 1) 0 [.int .u8 0, .int .u8 0, .int .u8 0, .int .u8 0, .int .u8 0, .int .u8 0, .int .u8 0, .int .u8 0, .int .u8 0, .int .u8 0, .int .u8 0, .int .u8 0, .int .u8 0, .int .u8 0, .int .u8 0, .int .u8 0, .int .u8 0, .int .u8 0, .int .u8 0, .int .u8 0, .int .u8 0, .int .u8 0, .int .u8 0, .int .u8 0, .int .u8 0, .int .u8 0, .int .u8 0, .int .u8 0, .int .u8 0, .int .u8 0, .int .u8 0, .int .u8 0] from by have h := HZ2.out.range; rw [z32_eq] at h; exact h)
    clear hb hc
    have hdig := HDIG.out
    go_wp2_with fail
    simp only [Tryz.sizeOf37, Result.andThen, ↓reduceIte, Nat.reduceEqDiff]
    rw [Oper.upon_value]
    go_wp2_with (first
    | (refine wpList_load_mid_g (by kernel_rfl) 37 _ rfl w.heap.size 7 rfl (u8s id) _ HRI.out Tryz.underlying37 rfl HSI.out ?_)
    | (refine wpList_load_mid_g (by kernel_rfl) 37 _ rfl (w.heap.size + 1) 0 rfl [.int .u8 0, .int .u8 0, .int .u8 0, .int .u8 0, .int .u8 0, .int .u8 0, .int .u8 0, .int .u8 0, .int .u8 0, .int .u8 0, .int .u8 0, .int .u8 0, .int .u8 0, .int .u8 0, .int .u8 0, .int .u8 0, .int .u8 0, .int .u8 0, .int .u8 0, .int .u8 0, .int .u8 0, .int .u8 0, .int .u8 0, .int .u8 0, .int .u8 0, .int .u8 0, .int .u8 0, .int .u8 0, .int .u8 0, .int .u8 0, .int .u8 0, .int .u8 0] _ HZRO.out Tryz.underlying37 rfl HSZ.out ?_; refine Hid.out ?_))
    refine Lib.hid ?_
    go_wp2_with fail
    go_ret
    exact ⟨by rw [HV.out, if_pos (.inr (.inr HQ.out))]; rfl, HB2.out⟩
  subst hqm
  go_enter Tryz.func33, Tryz.ntmps33
  go_wp2_with ((with_reducible (show wpList _ _ _ (⟨_, .build _ _, _, _, _, _⟩ :: _) _ _)); refine Hid.out ?_)
  refine Lib.hid ?_
  refine wpList_build_ rfl 37 _ rfl #[] (by simp [Act.eval]) _ (HBU.out _) ?_
  go_wp2_with ((with_reducible (show wpList _ _ _ (⟨_, .store _ _ _, _, _, _, _⟩ :: _) _ _)); refine Hid.out ?_)
  refine Lib.hid ?_
  refine wpList_store_blk (cs0 := List.replicate 32 (.int .u8 0)) (cs := u8s (List.replicate 32 (0 : UInt8))) rfl 37 _ _ rfl HZ0.out rfl rfl (by simp [u8s]) (by kernel_rfl) (u8s_one _) ?_
  intro w2 hb hc
  have HZ2 := Lib.hid hb
  have HB2 := Lib.hid (HAL.out.trans (((((Below.refl (w.alloc (.cells cs.toArray 40)).heap.size (w.alloc (.cells cs.toArray 40))).alloc (Nat.le_refl _) (.cells ((List.replicate 32 (.int .u8 0) : List Value)).toArray 37)).trans (hc.below (by simp) fun b h => by have h : b = w.heap.size + 1 := h; simp [h]))).mono HAL.out.size))
  have HX2 := Lib.hid ((HX.out.alloc (.cells ((List.replicate 32 (.int .u8 0) : List Value)).toArray 37)).chg hc (by omega))
  have hq0 : w2.cell? ⟨w.heap.size, 0, none⟩ = some (.int .i64 2) := (by rw [HX2.out.cell, HCS.out]; rfl)
  have hq39 : w2.cell? ⟨w.heap.size, 39, none⟩ = some (.int .i64 0) := (by rw [HX2.out.cell, HCS.out, getElem?_toArray]; exact txl_39 HID.out)
  have HRI := Lib.hid (show w2.rangeAt w.heap.size 7 (u8s id) from by have h := HX2.out; rw [HCS.out] at h; exact txl_id h)
  have HZRO := Lib.hid (show w2.rangeAt (w.heap.size + 1) 0 [.int .u8 0, .int .u8 0, .int .u8 0, .int .u8 0, .int .u8 0, .int .u8 0, .int .u8 0, .int .u8 0, .int .u8 0, .int .u8 0, .int .u8 0, .int .u8 0, .int .u8 0, .int .u8 0, .int .u8 0, .int .u8 0, .int .u8 0, .int .u8 0, .int .u8 0, .int .u8 0, .int .u8 0, .int .u8 0, .int .u8 0, .int .u8 0, .int .u8 0, .int .u8 0, .int .u8 0, .int .u8 0, .int .u8 0, .int .u8 0, .int .u8 0, .int .u8 0] from by have h := HZ2.out.range; rw [z32_eq] at h; exact h)
  clear hb hc
  have hdig := HDIG.out
  go_wp2_with fail
  simp only [Tryz.sizeOf37, Result.andThen, ↓reduceIte, Nat.reduceEqDiff]
  rw [Oper.upon_value]
  go_wp2_with (first
  | (refine wpList_load_mid_g (by kernel_rfl) 37 _ rfl w.heap.size 7 rfl (u8s id) _ HRI.out Tryz.underlying37 rfl HSI.out ?_)
  | (refine wpList_load_mid_g (by kernel_rfl) 37 _ rfl (w.heap.size + 1) 0 rfl [.int .u8 0, .int .u8 0, .int .u8 0, .int .u8 0, .int .u8 0, .int .u8 0, .int .u8 0, .int .u8 0, .int .u8 0, .int .u8 0, .int .u8 0, .int .u8 0, .int .u8 0, .int .u8 0, .int .u8 0, .int .u8 0, .int .u8 0, .int .u8 0, .int .u8 0, .int .u8 0, .int .u8 0, .int .u8 0, .int .u8 0, .int .u8 0, .int .u8 0, .int .u8 0, .int .u8 0, .int .u8 0, .int .u8 0, .int .u8 0, .int .u8 0, .int .u8 0] _ HZRO.out Tryz.underlying37 rfl HSZ.out ?_; refine Hid.out ?_))
  refine Lib.hid ?_
  go_wp2_with fail
  go_ret
  exact ⟨by rw [HV.out, if_neg (by simp [HQID.out])]; rfl, HB2.out⟩
end
section
open Go.RowKit Go.Maps
attribute [-simp] Tryz.isAgg40 Tryz.typeInfo40 Tryz.isAgg37 Tryz.typeInfo37 Tryz.sizeOf37
set_option maxHeartbeats 8000000 in
set_option maxRecDepth 100000 in
theorem rform_3 (w : World) (f t a n d dl : Int) (id : List UInt8) (hid : id.length = 32) (m : Int) (A : Option Addr) (nf cap : Nat) (v : Int)
    (hv : v = if nf ≠ 1 ∨ f ≠ 0 ∨ t ≠ 0 ∨ a ≠ 0 ∨ n ≠ 0 ∨ d ≠ 0 ∨ dl ≠ 0 ∨ m ≠ 0 then 1 else 0) :
    Calls Tryz.prog 33 #[.agg (txl 3 f t a n d dl id m (.slice A nf cap)).toArray] w fun e w' => e = .returned (.int .i64 v) ∧ Below w.heap.size w w' := by
  obtain ⟨cs, hcs⟩ : ∃ cs, cs = (txl 3 f t a n d dl id m (.slice A nf cap)) := ⟨_, rfl⟩
  have hx := (Blk.new w 40 cs.toArray)
  have hal := (Below.refl w.heap.size w).alloc (Nat.le_refl _) (.cells cs.toArray 40)
  rw [← hcs]
  have HX := Lib.hid hx
  have HAL := Lib.hid hal
  have HCS := Lib.hid hcs
  have HID := Lib.hid hid
  have hc0 : (w.alloc (.cells cs.toArray 40)).cell? ⟨w.heap.size, 0, none⟩ = some (.int .i64 3) := by rw [hx.cell, hcs]; rfl
  have hc1 : (w.alloc (.cells cs.toArray 40)).cell? ⟨w.heap.size, 1, none⟩ = some (.int .u64 f) := by rw [hx.cell, hcs]; rfl
  have hc2 : (w.alloc (.cells cs.toArray 40)).cell? ⟨w.heap.size, 2, none⟩ = some (.int .u64 t) := by rw [hx.cell, hcs]; rfl
  have hc3 : (w.alloc (.cells cs.toArray 40)).cell? ⟨w.heap.size, 3, none⟩ = some (.int .u64 a) := by rw [hx.cell, hcs]; rfl
  have hc4 : (w.alloc (.cells cs.toArray 40)).cell? ⟨w.heap.size, 4, none⟩ = some (.int .u64 n) := by rw [hx.cell, hcs]; rfl
  have hc5 : (w.alloc (.cells cs.toArray 40)).cell? ⟨w.heap.size, 5, none⟩ = some (.int .i64 d) := by rw [hx.cell, hcs]; rfl
  have hc6 : (w.alloc (.cells cs.toArray 40)).cell? ⟨w.heap.size, 6, none⟩ = some (.int .i64 dl) := by rw [hx.cell, hcs]; rfl
  have hc40 : (w.alloc (.cells cs.toArray 40)).cell? ⟨w.heap.size, 40, none⟩ = some (.slice A nf cap) := by rw [hx.cell, hcs, getElem?_toArray]; exact txl_40 hid
  have HBU := Lib.hid build_dig0
  have HSI := Lib.hid (dig_sizedI hid)
  have HSZ := Lib.hid dig_sizedZ
  have hz0 := Blk.new (w.alloc (.cells cs.toArray 40)) 37 (List.replicate 32 (.int .u8 0) : List Value).toArray
  rw [show (w.alloc (.cells cs.toArray 40)).heap.size = w.heap.size + 1 by simp] at hz0
  have HZ0 := Lib.hid hz0
  clear hz0
  have hdig : ∀ w', (Op.equalIn 10000 37 (.agg (u8s id).toArray) (.agg #[.int .u8 0, .int .u8 0, .int .u8 0, .int .u8 0, .int .u8 0, .int .u8 0, .int .u8 0, .int .u8 0, .int .u8 0, .int .u8 0, .int .u8 0, .int .u8 0, .int .u8 0, .int .u8 0, .int .u8 0, .int .u8 0, .int .u8 0, .int .u8 0, .int .u8 0, .int .u8 0, .int .u8 0, .int .u8 0, .int .u8 0, .int .u8 0, .int .u8 0, .int .u8 0, .int .u8 0, .int .u8 0, .int .u8 0, .int .u8 0, .int .u8 0, .int .u8 0])).run Tryz.prog w' = .ok (decide (id = (List.replicate 32 (0 : UInt8)))) w' := fun w' => run_eq_dig hid (m := (List.replicate 32 (0 : UInt8))) rfl
  have HV := Lib.hid hv
  have HDIG := Lib.hid hdig
  clear hal hx hid hv hcs hdig
  by_cases hnf : nf = 1
  rotate_left
  · have HQ := Lib.hid hnf
    have hnI : ¬ (nf : Int) = 1 := by omega
    have hnB : ((nf : Int) == 1) = false := by simp; omega
    go_enter Tryz.func33, Tryz.ntmps33
    go_wp2_with fail
    go_ret
    exact ⟨by rw [HV.out, if_pos (.inl HQ.out)]; rfl, HAL.out⟩
  subst hnf
  by_cases hqf : f = 0
  rotate_left
  · have HQ := Lib.hid hqf
    go_enter Tryz.func33, Tryz.ntmps33
    go_wp2_with fail
    go_ret
    exact ⟨by rw [HV.out, if_pos (.inr (.inl HQ.out))]; rfl, HAL.out⟩
  subst hqf
  by_cases hqt : t = 0
  rotate_left
  · have HQ := Lib.hid hqt
    go_enter Tryz.func33, Tryz.ntmps33
    go_wp2_with fail
    go_ret
    exact ⟨by rw [HV.out, if_pos (.inr (.inr (.inl HQ.out)))]; rfl, HAL.out⟩
  subst hqt
  by_cases hqa : a = 0
  rotate_left
  · have HQ := Lib.hid hqa
    go_enter Tryz.func33, Tryz.ntmps33
    go_wp2_with fail
    go_ret
    exact ⟨by rw [HV.out, if_pos (.inr (.inr (.inr (.inl HQ.out))))]; rfl, HAL.out⟩
  subst hqa
  by_cases hqn : n = 0
  rotate_left
  · have HQ := Lib.hid hqn
    go_enter Tryz.func33, Tryz.ntmps33
    go_wp2_with fail
    go_ret
    exact ⟨by rw [HV.out, if_pos (.inr (.inr (.inr (.inr (.inl HQ.out)))))]; rfl, HAL.out⟩
  subst hqn
  by_cases hqd : d = 0
  rotate_left
  · have HQ := Lib.hid hqd
    go_enter Tryz.func33, Tryz.ntmps33
    go_wp2_with fail
    go_ret
    exact ⟨by rw [HV.out, if_pos (.inr (.inr (.inr (.inr (.inr (.inl HQ.out))))))]; rfl, HAL.out⟩
  subst hqd
  by_cases hqdl : dl = 0
  rotate_left
  · have HQ := Lib.hid hqdl
    go_enter Tryz.func33, Tryz.ntmps33
    go_wp2_with fail
    go_ret
    exact ⟨by rw [HV.out, if_pos (.inr (.inr (.inr (.inr (.inr (.inr (.inl HQ.out)))))))]; rfl, HAL.out⟩
  subst hqdl
  by_cases hqm : m = 0
  rotate_left
  · have HQ := Lib.hid hqm
    go_enter Tryz.func33, Tryz.ntmps33
    go_wp2_with ((with_reducible (show wpList _ _ _ (⟨_, .build _ _, _, _, _, _⟩ :: _) _ _)); refine Hid.out ?_)
    refine Lib.hid ?_
    refine wpList_build_ rfl 37 _ rfl #[] (by simp [Act.eval]) _ (HBU.out _) ?_
    go_wp2_with ((with_reducible (show wpList _ _ _ (⟨_, .store _ _ _, _, _, _, _⟩ :: _) _ _)); refine Hid.out ?_)
    refine Lib.hid ?_
    refine wpList_store_blk (cs0 := List.replicate 32 (.int .u8 0)) (cs := u8s (List.replicate 32 (0 : UInt8))) rfl 37 _ _ rfl HZ0.out rfl rfl (by simp [u8s]) (by kernel_rfl) (u8s_one _) ?_
    intro w2 hb hc
    have HZ2 := Lib.hid hb
    have HB2 := Lib.hid (HAL.out.trans (((((Below.refl (w.alloc (.cells cs.toArray 40)).heap.size (w.alloc (.cells cs.toArray 40))).alloc (Nat.le_refl _) (.cells ((List.replicate 32 (.int .u8 0) : List Value)).toArray 37)).trans (hc.below (by simp) fun b h => by have h : b = w.heap.size + 1 := h; simp [h]))).mono HAL.out.size))
    have HX2 := Lib.hid ((HX.out.alloc (.cells ((List.replicate 32 (.int .u8 0) : List Value)).toArray 37)).chg hc (by omega))
    have hq0 : w2.cell? ⟨w.heap.size, 0, none⟩ = some (.int .i64 3) := (by rw [HX2.out.cell, HCS.out]; rfl)
    have hq39 : w2.cell? ⟨w.heap.size, 39, none⟩ = some (.int .i64 m) := (by rw [HX2.out.cell, HCS.out, getElem?_toArray]; exact txl_39 HID.out)
    have HRI := Lib.hid (show w2.rangeAt w.heap.size 7 (u8s id) from by have h := HX2.out; rw [HCS.out] at h; exact txl_id h)
    have HZRO := Lib.hid (show w2.rangeAt (w.heap.size + 1) 0 [.int .u8 0, .int .u8 0, .int .u8 0, .int .u8 0, .int .u8 0, .int .u8 0, .int .u8 0, .int .u8 0, .int .u8 0, .int .u8 0, .int .u8 0, .int .u8 0, .int .u8 0, .int .u8 0, .int .u8 0, .int .u8 0, .int .u8 0, .int .u8 0, .int .u8 0, .int .u8 0, .int .u8 0, .int .u8 0, .int .u8 0, .int .u8 0, .int .u8 0, .int .u8 0, .int .u8 0, .int .u8 0, .int .u8 0, .int .u8 0, .int .u8 0, .int .u8 0] from by have h := HZ2.out.range; rw [z32_eq] at h; exact h)
    clear hb hc
    have hdig := HDIG.out
    go_wp2_with fail
    go_ret
    exact ⟨by rw [HV.out, if_pos (.inr (.inr (.inr (.inr (.inr (.inr (.inr HQ.out)))))))]; rfl, HB2.out⟩
  subst hqm
  go_enter Tryz.func33, Tryz.ntmps33
  go_wp2_with ((with_reducible (show wpList _ _ _ (⟨_, .build _ _, _, _, _, _⟩ :: _) _ _)); refine Hid.out ?_)
  refine Lib.hid ?_
  refine wpList_build_ rfl 37 _ rfl #[] (by simp [Act.eval]) _ (HBU.out _) ?_
  go_wp2_with ((with_reducible (show wpList _ _ _ (⟨_, .store _ _ _, _, _, _, _⟩ :: _) _ _)); refine Hid.out ?_)
  refine Lib.hid ?_
  refine wpList_store_blk (cs0 := List.replicate 32 (.int .u8 0)) (cs := u8s (List.replicate 32 (0 : UInt8))) rfl 37 _ _ rfl HZ0.out rfl rfl (by simp [u8s]) (by kernel_rfl) (u8s_one _) ?_
  intro w2 hb hc
  have HZ2 := Lib.hid hb
  have HB2 := Lib.hid (HAL.out.trans (((((Below.refl (w.alloc (.cells cs.toArray 40)).heap.size (w.alloc (.cells cs.toArray 40))).alloc (Nat.le_refl _) (.cells ((List.replicate 32 (.int .u8 0) : List Value)).toArray 37)).trans (hc.below (by simp) fun b h => by have h : b = w.heap.size + 1 := h; simp [h]))).mono HAL.out.size))
  have HX2 := Lib.hid ((HX.out.alloc (.cells ((List.replicate 32 (.int .u8 0) : List Value)).toArray 37)).chg hc (by omega))
  have hq0 : w2.cell? ⟨w.heap.size, 0, none⟩ = some (.int .i64 3) := (by rw [HX2.out.cell, HCS.out]; rfl)
  have hq39 : w2.cell? ⟨w.heap.size, 39, none⟩ = some (.int .i64 0) := (by rw [HX2.out.cell, HCS.out, getElem?_toArray]; exact txl_39 HID.out)
  have HRI := Lib.hid (show w2.rangeAt w.heap.size 7 (u8s id) from by have h := HX2.out; rw [HCS.out] at h; exact txl_id h)
  have HZRO := Lib.hid (show w2.rangeAt (w.heap.size + 1) 0 [.int .u8 0, .int .u8 0, .int .u8 0, .int .u8 0, .int .u8 0, .int .u8 0, .int .u8 0, .int .u8 0, .int .u8 0, .int .u8 0, .int .u8 0, .int .u8 0, .int .u8 0, .int .u8 0, .int .u8 0, .int .u8 0, .int .u8 0, .int .u8 0, .int .u8 0, .int .u8 0, .int .u8 0, .int .u8 0, .int .u8 0, .int .u8 0, .int .u8 0, .int .u8 0, .int .u8 0, .int .u8 0, .int .u8 0, .int .u8 0, .int .u8 0, .int .u8 0] from by have h := HZ2.out.range; rw [z32_eq] at h; exact h)
  clear hb hc
  have hdig := HDIG.out
  go_wp2_with fail
  go_ret
  exact ⟨by rw [HV.out, if_neg (by simp)]; rfl, HB2.out⟩
end
section
open Go.RowKit Go.Maps
attribute [-simp] Tryz.isAgg40 Tryz.typeInfo40 Tryz.isAgg37 Tryz.typeInfo37 Tryz.sizeOf37
set_option maxHeartbeats 8000000 in
set_option maxRecDepth 100000 in
theorem rform_4 (w : World) (f t a n d dl : Int) (id : List UInt8) (hid : id.length = 32) (m : Int) (A : Option Addr) (nf cap : Nat) (v : Int)
    (hv : v = if nf ≠ 1 ∨ f ≠ 0 ∨ t ≠ 0 ∨ a ≠ 0 ∨ n ≠ 0 ∨ d ≠ 0 ∨ dl ≠ 0 ∨ m ≠ 0 then 1 else 0) :
    Calls Tryz.prog 33 #[.agg (txl 4 f t a n d dl id m (.slice A nf cap)).toArray] w fun e w' => e = .returned (.int .i64 v) ∧ Below w.heap.size w w' := by
  obtain ⟨cs, hcs⟩ : ∃ cs, cs = (txl 4 f t a n d dl id m (.slice A nf cap)) := ⟨_, rfl⟩
  have hx := (Blk.new w 40 cs.toArray)
  have hal := (Below.refl w.heap.size w).alloc (Nat.le_refl _) (.cells cs.toArray 40)
  rw [← hcs]
  have HX := Lib.hid hx
  have HAL := Lib.hid hal
  have HCS := Lib.hid hcs
  have HID := Lib.hid hid
  have hc0 : (w.alloc (.cells cs.toArray 40)).cell? ⟨w.heap.size, 0, none⟩ = some (.int .i64 4) := by rw [hx.cell, hcs]; rfl
  have hc1 : (w.alloc (.cells cs.toArray 40)).cell? ⟨w.heap.size, 1, none⟩ = some (.int .u64 f) := by rw [hx.cell, hcs]; rfl
  have hc2 : (w.alloc (.cells cs.toArray 40)).cell? ⟨w.heap.size, 2, none⟩ = some (.int .u64 t) := by rw [hx.cell, hcs]; rfl
  have hc3 : (w.alloc (.cells cs.toArray 40)).cell? ⟨w.heap.size, 3, none⟩ = some (.int .u64 a) := by rw [hx.cell, hcs]; rfl
  have hc4 : (w.alloc (.cells cs.toArray 40)).cell? ⟨w.heap.size, 4, none⟩ = some (.int .u64 n) := by rw [hx.cell, hcs]; rfl
  have hc5 : (w.alloc (.cells cs.toArray 40)).cell? ⟨w.heap.size, 5, none⟩ = some (.int .i64 d) := by rw [hx.cell, hcs]; rfl
  have hc6 : (w.alloc (.cells cs.toArray 40)).cell? ⟨w.heap.size, 6, none⟩ = some (.int .i64 dl) := by rw [hx.cell, hcs]; rfl
  have hc40 : (w.alloc (.cells cs.toArray 40)).cell? ⟨w.heap.size, 40, none⟩ = some (.slice A nf cap) := by rw [hx.cell, hcs, getElem?_toArray]; exact txl_40 hid
  have HBU := Lib.hid build_dig0
  have HSI := Lib.hid (dig_sizedI hid)
  have HSZ := Lib.hid dig_sizedZ
  have hz0 := Blk.new (w.alloc (.cells cs.toArray 40)) 37 (List.replicate 32 (.int .u8 0) : List Value).toArray
  rw [show (w.alloc (.cells cs.toArray 40)).heap.size = w.heap.size + 1 by simp] at hz0
  have HZ0 := Lib.hid hz0
  clear hz0
  have hdig : ∀ w', (Op.equalIn 10000 37 (.agg (u8s id).toArray) (.agg #[.int .u8 0, .int .u8 0, .int .u8 0, .int .u8 0, .int .u8 0, .int .u8 0, .int .u8 0, .int .u8 0, .int .u8 0, .int .u8 0, .int .u8 0, .int .u8 0, .int .u8 0, .int .u8 0, .int .u8 0, .int .u8 0, .int .u8 0, .int .u8 0, .int .u8 0, .int .u8 0, .int .u8 0, .int .u8 0, .int .u8 0, .int .u8 0, .int .u8 0, .int .u8 0, .int .u8 0, .int .u8 0, .int .u8 0, .int .u8 0, .int .u8 0, .int .u8 0])).run Tryz.prog w' = .ok (decide (id = (List.replicate 32 (0 : UInt8)))) w' := fun w' => run_eq_dig hid (m := (List.replicate 32 (0 : UInt8))) rfl
  have HV := Lib.hid hv
  have HDIG := Lib.hid hdig
  clear hal hx hid hv hcs hdig
  by_cases hnf : nf = 1
  rotate_left
  · have HQ := Lib.hid hnf
    have hnI : ¬ (nf : Int) = 1 := by omega
    have hnB : ((nf : Int) == 1) = false := by simp; omega
    go_enter Tryz.func33, Tryz.ntmps33
    go_wp2_with fail
    go_ret
    exact ⟨by rw [HV.out, if_pos (.inl HQ.out)]; rfl, HAL.out⟩
  subst hnf
  by_cases hqf : f = 0
  rotate_left
  · have HQ := Lib.hid hqf
    go_enter Tryz.func33, Tryz.ntmps33
    go_wp2_with fail
    go_ret
    exact ⟨by rw [HV.out, if_pos (.inr (.inl HQ.out))]; rfl, HAL.out⟩
  subst hqf
  by_cases hqt : t = 0
  rotate_left
  · have HQ := Lib.hid hqt
    go_enter Tryz.func33, Tryz.ntmps33
    go_wp2_with fail
    go_ret
    exact ⟨by rw [HV.out, if_pos (.inr (.inr (.inl HQ.out)))]; rfl, HAL.out⟩
  subst hqt
  by_cases hqa : a = 0
  rotate_left
  · have HQ := Lib.hid hqa
    go_enter Tryz.func33, Tryz.ntmps33
    go_wp2_with fail
    go_ret
    exact ⟨by rw [HV.out, if_pos (.inr (.inr (.inr (.inl HQ.out))))]; rfl, HAL.out⟩
  subst hqa
  by_cases hqn : n = 0
  rotate_left
  · have HQ := Lib.hid hqn
    go_enter Tryz.func33, Tryz.ntmps33
    go_wp2_with fail
    go_ret
    exact ⟨by rw [HV.out, if_pos (.inr (.inr (.inr (.inr (.inl HQ.out)))))]; rfl, HAL.out⟩
  subst hqn
  by_cases hqd : d = 0
  rotate_left
  · have HQ := Lib.hid hqd
    go_enter Tryz.func33, Tryz.ntmps33
    go_wp2_with fail
    go_ret
    exact ⟨by rw [HV.out, if_pos (.inr (.inr (.inr (.inr (.inr (.inl HQ.out))))))]; rfl, HAL.out⟩
  subst hqd
  by_cases hqdl : dl = 0
  rotate_left
  · have HQ := Lib.hid hqdl
    go_enter Tryz.func33, Tryz.ntmps33
    go_wp2_with fail
    go_ret
    exact ⟨by rw [HV.out, if_pos (.inr (.inr (.inr (.inr (.inr (.inr (.inl HQ.out)))))))]; rfl, HAL.out⟩
  subst hqdl
  by_cases hqm : m = 0
  rotate_left
  · have HQ := Lib.hid hqm
    go_enter Tryz.func33, Tryz.ntmps33
    go_wp2_with ((with_reducible (show wpList _ _ _ (⟨_, .build _ _, _, _, _, _⟩ :: _) _ _)); refine Hid.out ?_)
    refine Lib.hid ?_
    refine wpList_build_ rfl 37 _ rfl #[] (by simp [Act.eval]) _ (HBU.out _) ?_
    go_wp2_with ((with_reducible (show wpList _ _ _ (⟨_, .store _ _ _, _, _, _, _⟩ :: _) _ _)); refine Hid.out ?_)
    refine Lib.hid ?_
    refine wpList_store_blk (cs0 := List.replicate 32 (.int .u8 0)) (cs := u8s (List.replicate 32 (0 : UInt8))) rfl 37 _ _ rfl HZ0.out rfl rfl (by simp [u8s]) (by kernel_rfl) (u8s_one _) ?_
    intro w2 hb hc
    have HZ2 := Lib.hid hb
    have HB2 := Lib.hid (HAL.out.trans (((((Below.refl (w.alloc (.cells cs.toArray 40)).heap.size (w.alloc (.cells cs.toArray 40))).alloc (Nat.le_refl _) (.cells ((List.replicate 32 (.int .u8 0) : List Value)).toArray 37)).trans (hc.below (by simp) fun b h => by have h : b = w.heap.size + 1 := h; simp [h]))).mono HAL.out.size))
    have HX2 := Lib.hid ((HX.out.alloc (.cells ((List.replicate 32 (.int .u8 0) : List Value)).toArray 37)).chg hc (by omega))
    have hq0 : w2.cell? ⟨w.heap.size, 0, none⟩ = some (.int .i64 4) := (by rw [HX2.out.cell, HCS.out]; rfl)
    have hq39 : w2.cell? ⟨w.heap.size, 39, none⟩ = some (.int .i64 m) := (by rw [HX2.out.cell, HCS.out, getElem?_toArray]; exact txl_39 HID.out)
    have HRI := Lib.hid (show w2.rangeAt w.heap.size 7 (u8s id) from by have h := HX2.out; rw [HCS.out] at h; exact txl_id h)
    have HZRO := Lib.hid (show w2.rangeAt (w.heap.size + 1) 0 [.int .u8 0, .int .u8 0, .int .u8 0, .int .u8 0, .int .u8 0, .int .u8 0, .int .u8 0, .int .u8 0, .int .u8 0, .int .u8 0, .int .u8 0, .int .u8 0, .int .u8 0, .int .u8 0, .int .u8 0, .int .u8 0, .int .u8 0, .int .u8 0, .int .u8 0, .int .u8 0, .int .u8 0, .int .u8 0, .int .u8 0, .int .u8 0, .int .u8 0, .int .u8 0, .int .u8 0, .int .u8 0, .int .u8 0, .int .u8 0, .int .u8 0, .int .u8 0] from by have h := HZ2.out.range; rw [z32_eq] at h; exact h)
    clear hb hc
    have hdig := HDIG.out
    go_wp2_with fail
    go_ret
    exact ⟨by rw [HV.out, if_pos (.inr (.inr (.inr (.inr (.inr (.inr (.inr HQ.out)))))))]; rfl, HB2.out⟩
  subst hqm
  go_enter Tryz.func33, Tryz.ntmps33
  go_wp2_with ((with_reducible (show wpList _ _ _ (⟨_, .build _ _, _, _, _, _⟩ :: _) _ _)); refine Hid.out ?_)
  refine Lib.hid ?_
  refine wpList_build_ rfl 37 _ rfl #[] (by simp [Act.eval]) _ (HBU.out _) ?_
  go_wp2_with ((with_reducible (show wpList _ _ _ (⟨_, .store _ _ _, _, _, _, _⟩ :: _) _ _)); refine Hid.out ?_)
  refine Lib.hid ?_
  refine wpList_store_blk (cs0 := List.replicate 32 (.int .u8 0)) (cs := u8s (List.replicate 32 (0 : UInt8))) rfl 37 _ _ rfl HZ0.out rfl rfl (by simp [u8s]) (by kernel_rfl) (u8s_one _) ?_
  intro w2 hb hc
  have HZ2 := Lib.hid hb
  have HB2 := Lib.hid (HAL.out.trans (((((Below.refl (w.alloc (.cells cs.toArray 40)).heap.size (w.alloc (.cells cs.toArray 40))).alloc (Nat.le_refl _) (.cells ((List.replicate 32 (.int .u8 0) : List Value)).toArray 37)).trans (hc.below (by simp) fun b h => by have h : b = w.heap.size + 1 := h; simp [h]))).mono HAL.out.size))
  have HX2 := Lib.hid ((HX.out.alloc (.cells ((List.replicate 32 (.int .u8 0) : List Value)).toArray 37)).chg hc (by omega))
  have hq0 : w2.cell? ⟨w.heap.size, 0, none⟩ = some (.int .i64 4) := (by rw [HX2.out.cell, HCS.out]; rfl)
  have hq39 : w2.cell? ⟨w.heap.size, 39, none⟩ = some (.int .i64 0) := (by rw [HX2.out.cell, HCS.out, getElem?_toArray]; exact txl_39 HID.out)
  have HRI := Lib.hid (show w2.rangeAt w.heap.size 7 (u8s id) from by have h := HX2.out; rw [HCS.out] at h; exact txl_id h)
  have HZRO := Lib.hid (show w2.rangeAt (w.heap.size + 1) 0 [.int .u8 0, .int .u8 0, .int .u8 0, .int .u8 0, .int .u8 0, .int .u8 0, .int .u8 0, .int .u8 0, .int .u8 0, .int .u8 0, .int .u8 0, .int .u8 0, .int .u8 0, .int .u8 0, .int .u8 0, .int .u8 0, .int .u8 0, .int .u8 0, .int .u8 0, .int .u8 0, .int .u8 0, .int .u8 0, .int .u8 0, .int .u8 0, .int .u8 0, .int .u8 0, .int .u8 0, .int .u8 0, .int .u8 0, .int .u8 0, .int .u8 0, .int .u8 0] from by have h := HZ2.out.range; rw [z32_eq] at h; exact h)
  clear hb hc
  have hdig := HDIG.out
  go_wp2_with fail
  go_ret
  exact ⟨by rw [HV.out, if_neg (by simp)]; rfl, HB2.out⟩
end
section
open Go.RowKit Go.Maps
attribute [-simp] Tryz.isAgg40 Tryz.typeInfo40 Tryz.isAgg37 Tryz.typeInfo37 Tryz.sizeOf37
set_option maxHeartbeats 8000000 in
set_option maxRecDepth 100000 in
theorem rform_5 (w : World) (f t a n d dl : Int) (id : List UInt8) (hid : id.length = 32) (m : Int) (A : Option Addr) (nf cap : Nat) (v : Int)
    (hv : v = if nf ≠ 1 ∨ f ≠ 0 ∨ t ≠ 0 ∨ a ≠ 0 ∨ n ≠ 0 ∨ d ≠ 0 ∨ dl ≠ 0 ∨ m ≠ 0 then 1 else 0) :
    Calls Tryz.prog 33 #[.agg (txl 5 f t a n d dl id m (.slice A nf cap)).toArray] w fun e w' => e = .returned (.int .i64 v) ∧ Below w.heap.size w w' := by
  obtain ⟨cs, hcs⟩ : ∃ cs, cs = (txl 5 f t a n d dl id m (.slice A nf cap)) := ⟨_, rfl⟩
  have hx := (Blk.new w 40 cs.toArray)
  have hal := (Below.refl w.heap.size w).alloc (Nat.le_refl _) (.cells cs.toArray 40)
  rw [← hcs]
  have HX := Lib.hid hx
  have HAL := Lib.hid hal
  have HCS := Lib.hid hcs
  have HID := Lib.hid hid
  have hc0 : (w.alloc (.cells cs.toArray 40)).cell? ⟨w.heap.size, 0, none⟩ = some (.int .i64 5) := by rw [hx.cell, hcs]; rfl
  have hc1 : (w.alloc (.cells cs.toArray 40)).cell? ⟨w.heap.size, 1, none⟩ = some (.int .u64 f) := by rw [hx.cell, hcs]; rfl
  have hc2 : (w.alloc (.cells cs.toArray 40)).cell? ⟨w.heap.size, 2, none⟩ = some (.int .u64 t) := by rw [hx.cell, hcs]; rfl
  have hc3 : (w.alloc (.cells cs.toArray 40)).cell? ⟨w.heap.size, 3, none⟩ = some (.int .u64 a) := by rw [hx.cell, hcs]; rfl
  have hc4 : (w.alloc (.cells cs.toArray 40)).cell? ⟨w.heap.size, 4, none⟩ = some (.int .u64 n) := by rw [hx.cell, hcs]; rfl
  have hc5 : (w.alloc (.cells cs.toArray 40)).cell? ⟨w.heap.size, 5, none⟩ = some (.int .i64 d) := by rw [hx.cell, hcs]; rfl
  have hc6 : (w.alloc (.cells cs.toArray 40)).cell? ⟨w.heap.size, 6, none⟩ = some (.int .i64 dl) := by rw [hx.cell, hcs]; rfl
  have hc40 : (w.alloc (.cells cs.toArray 40)).cell? ⟨w.heap.size, 40, none⟩ = some (.slice A nf cap) := by rw [hx.cell, hcs, getElem?_toArray]; exact txl_40 hid
  have HBU := Lib.hid build_dig0
  have HSI := Lib.hid (dig_sizedI hid)
  have HSZ := Lib.hid dig_sizedZ
  have hz0 := Blk.new (w.alloc (.cells cs.toArray 40)) 37 (List.replicate 32 (.int .u8 0) : List Value).toArray
  rw [show (w.alloc (.cells cs.toArray 40)).heap.size = w.heap.size + 1 by simp] at hz0
  have HZ0 := Lib.hid hz0
  clear hz0
  have hdig : ∀ w', (Op.equalIn 10000 37 (.agg (u8s id).toArray) (.agg #[.int .u8 0, .int .u8 0, .int .u8 0, .int .u8 0, .int .u8 0, .int .u8 0, .int .u8 0, .int .u8 0, .int .u8 0, .int .u8 0, .int .u8 0, .int .u8 0, .int .u8 0, .int .u8 0, .int .u8 0, .int .u8 0, .int .u8 0, .int .u8 0, .int .u8 0, .int .u8 0, .int .u8 0, .int .u8 0, .int .u8 0, .int .u8 0, .int .u8 0, .int .u8 0, .int .u8 0, .int .u8 0, .int .u8 0, .int .u8 0, .int .u8 0, .int .u8 0])).run Tryz.prog w' = .ok (decide (id = (List.replicate 32 (0 : UInt8)))) w' := fun w' => run_eq_dig hid (m := (List.replicate 32 (0 : UInt8))) rfl
  have HV := Lib.hid hv
  have HDIG := Lib.hid hdig
  clear hal hx hid hv hcs hdig
  by_cases hnf : nf = 1
  rotate_left
  · have HQ := Lib.hid hnf
    have hnI : ¬ (nf : Int) = 1 := by omega
    have hnB : ((nf : Int) == 1) = false := by simp; omega
    go_enter Tryz.func33, Tryz.ntmps33
    go_wp2_with fail
    go_ret
    exact ⟨by rw [HV.out, if_pos (.inl HQ.out)]; rfl, HAL.out⟩
  subst hnf
  by_cases hqf : f = 0
  rotate_left
  · have HQ := Lib.hid hqf
    go_enter Tryz.func33, Tryz.ntmps33
    go_wp2_with fail
    go_ret
    exact ⟨by rw [HV.out, if_pos (.inr (.inl HQ.out))]; rfl, HAL.out⟩
  subst hqf
  by_cases hqt : t = 0
  rotate_left
  · have HQ := Lib.hid hqt
    go_enter Tryz.func33, Tryz.ntmps33
    go_wp2_with fail
    go_ret
    exact ⟨by rw [HV.out, if_pos (.inr (.inr (.inl HQ.out)))]; rfl, HAL.out⟩
  subst hqt
  by_cases hqa : a = 0
  rotate_left
  · have HQ := Lib.hid hqa
    go_enter Tryz.func33, Tryz.ntmps33
    go_wp2_with fail
    go_ret
    exact ⟨by rw [HV.out, if_pos (.inr (.inr (.inr (.inl HQ.out))))]; rfl, HAL.out⟩
  subst hqa
  by_cases hqn : n = 0
  rotate_left
  · have HQ := Lib.hid hqn
    go_enter Tryz.func33, Tryz.ntmps33
    go_wp2_with fail
    go_ret
    exact ⟨by rw [HV.out, if_pos (.inr (.inr (.inr (.inr (.inl HQ.out)))))]; rfl, HAL.out⟩
  subst hqn
  by_cases hqd : d = 0
  rotate_left
  · have HQ := Lib.hid hqd
    go_enter Tryz.func33, Tryz.ntmps33
    go_wp2_with fail
    go_ret
    exact ⟨by rw [HV.out, if_pos (.inr (.inr (.inr (.inr (.inr (.inl HQ.out))))))]; rfl, HAL.out⟩
  subst hqd
  by_cases hqdl : dl = 0
  rotate_left
  · have HQ := Lib.hid hqdl
    go_enter Tryz.func33, Tryz.ntmps33
    go_wp2_with fail
    go_ret
    exact ⟨by rw [HV.out, if_pos (.inr (.inr (.inr (.inr (.inr (.inr (.inl HQ.out)))))))]; rfl, HAL.out⟩
  subst hqdl
  by_cases hqm : m = 0
  rotate_left
  · have HQ := Lib.hid hqm
    go_enter Tryz.func33, Tryz.ntmps33
    go_wp2_with ((with_reducible (show wpList _ _ _ (⟨_, .build _ _, _, _, _, _⟩ :: _) _ _)); refine Hid.out ?_)
    refine Lib.hid ?_
    refine wpList_build_ rfl 37 _ rfl #[] (by simp [Act.eval]) _ (HBU.out _) ?_
    go_wp2_with ((with_reducible (show wpList _ _ _ (⟨_, .store _ _ _, _, _, _, _⟩ :: _) _ _)); refine Hid.out ?_)
    refine Lib.hid ?_
    refine wpList_store_blk (cs0 := List.replicate 32 (.int .u8 0)) (cs := u8s (List.replicate 32 (0 : UInt8))) rfl 37 _ _ rfl HZ0.out rfl rfl (by simp [u8s]) (by kernel_rfl) (u8s_one _) ?_
    intro w2 hb hc
    have HZ2 := Lib.hid hb
    have HB2 := Lib.hid (HAL.out.trans (((((Below.refl (w.alloc (.cells cs.toArray 40)).heap.size (w.alloc (.cells cs.toArray 40))).alloc (Nat.le_refl _) (.cells ((List.replicate 32 (.int .u8 0) : List Value)).toArray 37)).trans (hc.below (by simp) fun b h => by have h : b = w.heap.size + 1 := h; simp [h]))).mono HAL.out.size))
    have HX2 := Lib.hid ((HX.out.alloc (.cells ((List.replicate 32 (.int .u8 0) : List Value)).toArray 37)).chg hc (by omega))
    have hq0 : w2.cell? ⟨w.heap.size, 0, none⟩ = some (.int .i64 5) := (by rw [HX2.out.cell, HCS.out]; rfl)
    have hq39 : w2.cell? ⟨w.heap.size, 39, none⟩ = some (.int .i64 m) := (by rw [HX2.out.cell, HCS.out, getElem?_toArray]; exact txl_39 HID.out)
    have HRI := Lib.hid (show w2.rangeAt w.heap.size 7 (u8s id) from by have h := HX2.out; rw [HCS.out] at h; exact txl_id h)
    have HZRO := Lib.hid (show w2.rangeAt (w.heap.size + 1) 0 [.int .u8 0, .int .u8 0, .int .u8 0, .int .u8 0, .int .u8 0, .int .u8 0, .int .u8 0, .int .u8 0, .int .u8 0, .int .u8 0, .int .u8 0, .int .u8 0, .int .u8 0, .int .u8 0, .int .u8 0, .int .u8 0, .int .u8 0, .int .u8 0, .int .u8 0, .int .u8 0, .int .u8 0, .int .u8 0, .int .u8 0, .int .u8 0, .int .u8 0, .int .u8 0, .int .u8 0, .int .u8 0, .int .u8 0, .int .u8 0, .int .u8 0, .int .u8 0] from by have h := HZ2.out.range; rw [z32_eq] at h; exact h)
    clear hb hc
    have hdig := HDIG.out
    go_wp2_with fail
    go_ret
    exact ⟨by rw [HV.out, if_pos (.inr (.inr (.inr (.inr (.inr (.inr (.inr HQ.out)))))))]; rfl, HB2.out⟩
  subst hqm
  go_enter Tryz.func33, Tryz.ntmps33
  go_wp2_with ((with_reducible (show wpList _ _ _ (⟨_, .build _ _, _, _, _, _⟩ :: _) _ _)); refine Hid.out ?_)
  refine Lib.hid ?_
  refine wpList_build_ rfl 37 _ rfl #[] (by simp [Act.eval]) _ (HBU.out _) ?_
  go_wp2_with ((with_reducible (show wpList _ _ _ (⟨_, .store _ _ _, _, _, _, _⟩ :: _) _ _)); refine Hid.out ?_)
  refine Lib.hid ?_
  refine wpList_store_blk (cs0 := List.replicate 32 (.int .u8 0)) (cs := u8s (List.replicate 32 (0 : UInt8))) rfl 37 _ _ rfl HZ0.out rfl rfl (by simp [u8s]) (by kernel_rfl) (u8s_one _) ?_
  intro w2 hb hc
  have HZ2 := Lib.hid hb
  have HB2 := Lib.hid (HAL.out.trans (((((Below.refl (w.alloc (.cells cs.toArray 40)).heap.size (w.alloc (.cells cs.toArray 40))).alloc (Nat.le_refl _) (.cells ((List.replicate 32 (.int .u8 0) : List Value)).toArray 37)).trans (hc.below (by simp) fun b h => by have h : b = w.heap.size + 1 := h; simp [h]))).mono HAL.out.size))
  have HX2 := Lib.hid ((HX.out.alloc (.cells ((List.replicate 32 (.int .u8 0) : List Value)).toArray 37)).chg hc (by omega))
  have hq0 : w2.cell? ⟨w.heap.size, 0, none⟩ = some (.int .i64 5) := (by rw [HX2.out.cell, HCS.out]; rfl)
  have hq39 : w2.cell? ⟨w.heap.size, 39, none⟩ = some (.int .i64 0) := (by rw [HX2.out.cell, HCS.out, getElem?_toArray]; exact txl_39 HID.out)
  have HRI := Lib.hid (show w2.rangeAt w.heap.size 7 (u8s id) from by have h := HX2.out; rw [HCS.out] at h; exact txl_id h)
  have HZRO := Lib.hid (show w2.rangeAt (w.heap.size + 1) 0 [.int .u8 0, .int .u8 0, .int .u8 0, .int .u8 0, .int .u8 0, .int .u8 0, .int .u8 0, .int .u8 0, .int .u8 0, .int .u8 0, .int .u8 0, .int .u8 0, .int .u8 0, .int .u8 0, .int .u8 0, .int .u8 0, .int .u8 0, .int .u8 0, .int .u8 0, .int .u8 0, .int .u8 0, .int .u8 0, .int .u8 0, .int .u8 0, .int .u8 0, .int .u8 0, .int .u8 0, .int .u8 0, .int .u8 0, .int .u8 0, .int .u8 0, .int .u8 0] from by have h := HZ2.out.range; rw [z32_eq] at h; exact h)
  clear hb hc
  have hdig := HDIG.out
  go_wp2_with fail
  go_ret
  exact ⟨by rw [HV.out, if_neg (by simp)]; rfl, HB2.out⟩
end
section
open Go.RowKit Go.Maps
attribute [-simp] Tryz.isAgg40 Tryz.typeInfo40 Tryz.isAgg37 Tryz.typeInfo37 Tryz.sizeOf37
set_option maxHeartbeats 8000000 in
set_option maxRecDepth 100000 in
theorem rform_6 (w : World) (f t a n d dl : Int) (id : List UInt8) (hid : id.length = 32) (m : Int) (A : Option Addr) (nf cap : Nat) (v : Int)
    (hv : v = if nf ≠ 1 ∨ f ≠ 0 ∨ t ≠ 0 ∨ a ≠ 0 ∨ n ≠ 0 ∨ d ≠ 0 ∨ dl ≠ 0 ∨ id ≠ (List.replicate 32 (0 : UInt8)) ∨ m ≠ 0 then 1 else 0) :
    Calls Tryz.prog 33 #[.agg (txl 6 f t a n d dl id m (.slice A nf cap)).toArray] w fun e w' => e = .returned (.int .i64 v) ∧ Below w.heap.size w w' := by
  obtain ⟨cs, hcs⟩ : ∃ cs, cs = (txl 6 f t a n d dl id m (.slice A nf cap)) := ⟨_, rfl⟩
  have hx := (Blk.new w 40 cs.toArray)
  have hal := (Below.refl w.heap.size w).alloc (Nat.le_refl _) (.cells cs.toArray 40)
  rw [← hcs]
  have HX := Lib.hid hx
  have HAL := Lib.hid hal
  have HCS := Lib.hid hcs
  have HID := Lib.hid hid
  have hc0 : (w.alloc (.cells cs.toArray 40)).cell? ⟨w.heap.size, 0, none⟩ = some (.int .i64 6) := by rw [hx.cell, hcs]; rfl
  have hc1 : (w.alloc (.cells cs.toArray 40)).cell? ⟨w.heap.size, 1, none⟩ = some (.int .u64 f) := by rw [hx.cell, hcs]; rfl
  have hc2 : (w.alloc (.cells cs.toArray 40)).cell? ⟨w.heap.size, 2, none⟩ = some (.int .u64 t) := by rw [hx.cell, hcs]; rfl
  have hc3 : (w.alloc (.cells cs.toArray 40)).cell? ⟨w.heap.size, 3, none⟩ = some (.int .u64 a) := by rw [hx.cell, hcs]; rfl
  have hc4 : (w.alloc (.cells cs.toArray 40)).cell? ⟨w.heap.size, 4, none⟩ = some (.int .u64 n) := by rw [hx.cell, hcs]; rfl
  have hc5 : (w.alloc (.cells cs.toArray 40)).cell? ⟨w.heap.size, 5, none⟩ = some (.int .i64 d) := by rw [hx.cell, hcs]; rfl
  have hc6 : (w.alloc (.cells cs.toArray 40)).cell? ⟨w.heap.size, 6, none⟩ = some (.int .i64 dl) := by rw [hx.cell, hcs]; rfl
  have hc40 : (w.alloc (.cells cs.toArray 40)).cell? ⟨w.heap.size, 40, none⟩ = some (.slice A nf cap) := by rw [hx.cell, hcs, getElem?_toArray]; exact txl_40 hid
  have HBU := Lib.hid build_dig0
  have HSI := Lib.hid (dig_sizedI hid)
  have HSZ := Lib.hid dig_sizedZ
  have hz0 := Blk.new (w.alloc (.cells cs.toArray 40)) 37 (List.replicate 32 (.int .u8 0) : List Value).toArray
  rw [show (w.alloc (.cells cs.toArray 40)).heap.size = w.heap.size + 1 by simp] at hz0
  have HZ0 := Lib.hid hz0
  clear hz0
  have hdig : ∀ w', (Op.equalIn 10000 37 (.agg (u8s id).toArray) (.agg #[.int .u8 0, .int .u8 0, .int .u8 0, .int .u8 0, .int .u8 0, .int .u8 0, .int .u8 0, .int .u8 0, .int .u8 0, .int .u8 0, .int .u8 0, .int .u8 0, .int .u8 0, .int .u8 0, .int .u8 0, .int .u8 0, .int .u8 0, .int .u8 0, .int .u8 0, .int .u8 0, .int .u8 0, .int .u8 0, .int .u8 0, .int .u8 0, .int .u8 0, .int .u8 0, .int .u8 0, .int .u8 0, .int .u8 0, .int .u8 0, .int .u8 0, .int .u8 0])).run Tryz.prog w' = .ok (decide (id = (List.replicate 32 (0 : UInt8)))) w' := fun w' => run_eq_dig hid (m := (List.replicate 32 (0 : UInt8))) rfl
  have HV := Lib.hid hv
  have HDIG := Lib.hid hdig
  clear hal hx hid hv hcs hdig
  by_cases hnf : nf = 1
  rotate_left
  · have HQ := Lib.hid hnf
    have hnI : ¬ (nf : Int) = 1 := by omega
    have hnB : ((nf : Int) == 1) = false := by simp; omega
    go_enter Tryz.func33, Tryz.ntmps33
    go_wp2_with fail
    go_ret
    exact ⟨by rw [HV.out, if_pos (.inl HQ.out)]; rfl, HAL.out⟩
  subst hnf
  by_cases hqf : f = 0
  rotate_left
  · have HQ := Lib.hid hqf
    go_enter Tryz.func33, Tryz.ntmps33
    go_wp2_with fail
    go_ret
    exact ⟨by rw [HV.out, if_pos (.inr (.inl HQ.out))]; rfl, HAL.out⟩
  subst hqf
  by_cases hqt : t = 0
  rotate_left
  · have HQ := Lib.hid hqt
    go_enter Tryz.func33, Tryz.ntmps33
    go_wp2_with fail
    go_ret
    exact ⟨by rw [HV.out, if_pos (.inr (.inr (.inl HQ.out)))]; rfl, HAL.out⟩
  subst hqt
  by_cases hqa : a = 0
  rotate_left
  · have HQ := Lib.hid hqa
    go_enter Tryz.func33, Tryz.ntmps33
    go_wp2_with fail
    go_ret
    exact ⟨by rw [HV.out, if_pos (.inr (.inr (.inr (.inl HQ.out))))]; rfl, HAL.out⟩
  subst hqa
  by_cases hqn : n = 0
  rotate_left
  · have HQ := Lib.hid hqn
    go_enter Tryz.func33, Tryz.ntmps33
    go_wp2_with fail
    go_ret
    exact ⟨by rw [HV.out, if_pos (.inr (.inr (.inr (.inr (.inl HQ.out)))))]; rfl, HAL.out⟩
  subst hqn
  by_cases hqd : d = 0
  rotate_left
  · have HQ := Lib.hid hqd
    go_enter Tryz.func33, Tryz.ntmps33
    go_wp2_with fail
    go_ret
    exact ⟨by rw [HV.out, if_pos (.inr (.inr (.inr (.inr (.inr (.inl HQ.out))))))]; rfl, HAL.out⟩
  subst hqd
  by_cases hqdl : dl = 0
  rotate_left
  · have HQ := Lib.hid hqdl
    go_enter Tryz.func33, Tryz.ntmps33
    go_wp2_with fail
    go_ret
    exact ⟨by rw [HV.out, if_pos (.inr (.inr (.inr (.inr (.inr (.inr (.inl HQ.out)))))))]; rfl, HAL.out⟩
  subst hqdl
  by_cases hqid : id = (List.replicate 32 (0 : UInt8))
  rotate_left
  · have HQ := Lib.hid hqid
    have hdd : decide (id = (List.replicate 32 (0 : UInt8))) = false := decide_eq_false hqid
    have HDIG := Lib.hid (fun w2 => (HDIG.out w2).trans (by rw [hdd]))
    clear hdd hqid
    go_enter Tryz.func33, Tryz.ntmps33
    go_wp2_with ((with_reducible (show wpList _ _ _ (⟨_, .build _ _, _, _, _, _⟩ :: _) _ _)); refine Hid.out ?_)
    refine Lib.hid ?_
    refine wpList_build_ rfl 37 _ rfl #[] (by simp [Act.eval]) _ (HBU.out _) ?_
    go_wp2_with ((with_reducible (show wpList _ _ _ (⟨_, .store _ _ _, _, _, _, _⟩ :: _) _ _)); refine Hid.out ?_)
    refine Lib.hid ?_
    refine wpList_store_blk (cs0 := List.replicate 32 (.int .u8 0)) (cs := u8s (List.replicate 32 (0 : UInt8))) rfl 37 _ _ rfl HZ0.out rfl rfl (by simp [u8s]) (by kernel_rfl) (u8s_one _) ?_
    intro w2 hb hc
    have HZ2 := Lib.hid hb
    have HB2 := Lib.hid (HAL.out.trans (((((Below.refl (w.alloc (.cells cs.toArray 40)).heap.size (w.alloc (.cells cs.toArray 40))).alloc (Nat.le_refl _) (.cells ((List.replicate 32 (.int .u8 0) : List Value)).toArray 37)).trans (hc.below (by simp) fun b h => by have h : b = w.heap.size + 1 := h; simp [h]))).mono HAL.out.size))
    have HX2 := Lib.hid ((HX.out.alloc (.cells ((List.replicate 32 (.int .u8 0) : List Value)).toArray 37)).chg hc (by omega))
    have hq0 : w2.cell? ⟨w.heap.size, 0, none⟩ = some (.int .i64 6) := (by rw [HX2.out.cell, HCS.out]; rfl)
    have hq39 : w2.cell? ⟨w.heap.size, 39, none⟩ = some (.int .i64 m) := (by rw [HX2.out.cell, HCS.out, getElem?_toArray]; exact txl_39 HID.out)
    have HRI := Lib.hid (show w2.rangeAt w.heap.size 7 (u8s id) from by have h := HX2.out; rw [HCS.out] at h; exact txl_id h)
    have HZRO := Lib.hid (show w2.rangeAt (w.heap.size + 1) 0 [.int .u8 0, .int .u8 0, .int .u8 0, .int .u8 0, .int .u8 0, .int .u8 0, .int .u8 0, .int .u8 0, .int .u8 0, .int .u8 0, .int .u8 0, .int .u8 0, .int .u8 0, .int .u8 0, .int .u8 0, .int .u8 0, .int .u8 0, .int .u8 0, .int .u8 0, .int .u8 0, .int .u8 0, .int .u8 0, .int .u8 0, .int .u8 0, .int .u8 0, .int .u8 0, .int .u8 0, .int .u8 0, .int .u8 0, .int .u8 0, .int .u8 0, .int .u8 0] from by have h := HZ2.out.range; rw [z32_eq] at h; exact h)
    clear hb hc
    have hdig := HDIG.out
    go_wp2_with fail
    simp only [Tryz.sizeOf37, Result.andThen, ↓reduceIte, Nat.reduceEqDiff]
    rw [Oper.upon_value]
    go_wp2_with (first
    | (refine wpList_load_mid_g (by kernel_rfl) 37 _ rfl w.heap.size 7 rfl (u8s id) _ HRI.out Tryz.underlying37 rfl HSI.out ?_)
    | (refine wpList_load_mid_g (by kernel_rfl) 37 _ rfl (w.heap.size + 1) 0 rfl [.int .u8 0, .int .u8 0, .int .u8 0, .int .u8 0, .int .u8 0, .int .u8 0, .int .u8 0, .int .u8 0, .int .u8 0, .int .u8 0, .int .u8 0, .int .u8 0, .int .u8 0, .int .u8 0, .int .u8 0, .int .u8 0, .int .u8 0, .int .u8 0, .int .u8 0, .int .u8 0, .int .u8 0, .int .u8 0, .int .u8 0, .int .u8 0, .int .u8 0, .int .u8 0, .int .u8 0, .int .u8 0, .int .u8 0, .int .u8 0, .int .u8 0, .int .u8 0] _ HZRO.out Tryz.underlying37 rfl HSZ.out ?_; refine Hid.out ?_))
    refine Lib.hid ?_
    go_wp2_with fail
    go_ret
    exact ⟨by rw [HV.out, if_pos (.inr (.inr (.inr (.inr (.inr (.inr (.inr (.inl HQ.out))))))))]; rfl, HB2.out⟩
  have hdd : decide (id = (List.replicate 32 (0 : UInt8))) = true := decide_eq_true hqid
  have HDIG := Lib.hid (fun w2 => (HDIG.out w2).trans (by rw [hdd]))
  have HQID := Lib.hid hqid
  clear hdd hqid
  by_cases hqm : m = 0
  rotate_left
  · have HQ := Lib.hid hqm
    go_enter Tryz.func33, Tryz.ntmps33
    go_wp2_with ((with_reducible (show wpList _ _ _ (⟨_, .build _ _, _, _, _, _⟩ :: _) _ _)); refine Hid.out ?_)
    refine Lib.hid ?_
    refine wpList_build_ rfl 37 _ rfl #[] (by simp [Act.eval]) _ (HBU.out _) ?_
    go_wp2_with ((with_reducible (show wpList _ _ _ (⟨_, .store _ _ _, _, _, _, _⟩ :: _) _ _)); refine Hid.out ?_)
    refine Lib.hid ?_
    refine wpList_store_blk (cs0 := List.replicate 32 (.int .u8 0)) (cs := u8s (List.replicate 32 (0 : UInt8))) rfl 37 _ _ rfl HZ0.out rfl rfl (by simp [u8s]) (by kernel_rfl) (u8s_one _) ?_
    intro w2 hb hc
    have HZ2 := Lib.hid hb
    have HB2 := Lib.hid (HAL.out.trans (((((Below.refl (w.alloc (.cells cs.toArray 40)).heap.size (w.alloc (.cells cs.toArray 40))).alloc (Nat.le_refl _) (.cells ((List.replicate 32 (.int .u8 0) : List Value)).toArray 37)).trans (hc.below (by simp) fun b h => by have h : b = w.heap.size + 1 := h; simp [h]))).mono HAL.out.size))
    have HX2 := Lib.hid ((HX.out.alloc (.cells ((List.replicate 32 (.int .u8 0) : List Value)).toArray 37)).chg hc (by omega))
    have hq0 : w2.cell? ⟨w.heap.size, 0, none⟩ = some (.int .i64 6) := (by rw [HX2.out.cell, HCS.out]; rfl)
    have hq39 : w2.cell? ⟨w.heap.size, 39, none⟩ = some (.int .i64 m) := (by rw [HX2.out.cell, HCS.out, getElem?_toArray]; exact txl_39 HID.out)
    have HRI := Lib.hid (show w2.rangeAt w.heap.size 7 (u8s id) from by have h := HX2.out; rw [HCS.out] at h; exact txl_id h)
    have HZRO := Lib.hid (show w2.rangeAt (w.heap.size + 1) 0 [.int .u8 0, .int .u8 0, .int .u8 0, .int .u8 0, .int .u8 0, .int .u8 0, .int .u8 0, .int .u8 0, .int .u8 0, .int .u8 0, .int .u8 0, .int .u8 0, .int .u8 0, .int .u8 0, .int .u8 0, .int .u8 0, .int .u8 0, .int .u8 0, .int .u8 0, .int .u8 0, .int .u8 0, .int .u8 0, .int .u8 0, .int .u8 0, .int .u8 0, .int .u8 0, .int .u8 0, .int .u8 0, .int .u8 0, .int .u8 0, .int .u8 0, .int .u8 0] from by have h := HZ2.out.range; rw [z32_eq] at h; exact h)
    clear hb hc
    have hdig := HDIG.out
    go_wp2_with fail
    simp only [Tryz.sizeOf37, Result.andThen, ↓reduceIte, Nat.reduceEqDiff]
    rw [Oper.upon_value]
    go_wp2_with (first
    | (refine wpList_load_mid_g (by kernel_rfl) 37 _ rfl w.heap.size 7 rfl (u8s id) _ HRI.out Tryz.underlying37 rfl HSI.out ?_)
    | (refine wpList_load_mid_g (by kernel_rfl) 37 _ rfl (w.heap.size + 1) 0 rfl [.int .u8 0, .int .u8 0, .int .u8 0, .int .u8 0, .int .u8 0, .int .u8 0, .int .u8 0, .int .u8 0, .int .u8 0, .int .u8 0, .int .u8 0, .int .u8 0, .int .u8 0, .int .u8 0, .int .u8 0, .int .u8 0, .int .u8 0, .int .u8 0, .int .u8 0, .int .u8 0, .int .u8 0, .int .u8 0, .int .u8 0, .int .u8 0, .int .u8 0, .int .u8 0, .int .u8 0, .int .u8 0, .int .u8 0, .int .u8 0, .int .u8 0, .int .u8 0] _ HZRO.out Tryz.underlying37 rfl HSZ.out ?_; refine Hid.out ?_))
    refine Lib.hid ?_
    go_wp2_with fail
    go_ret
    exact ⟨by rw [HV.out, if_pos (.inr (.inr (.inr (.inr (.inr (.inr (.inr (.inr HQ.out))))))))]; rfl, HB2.out⟩
  subst hqm
  go_enter Tryz.func33, Tryz.ntmps33
  go_wp2_with ((with_reducible (show wpList _ _ _ (⟨_, .build _ _, _, _, _, _⟩ :: _) _ _)); refine Hid.out ?_)
  refine Lib.hid ?_
  refine wpList_build_ rfl 37 _ rfl #[] (by simp [Act.eval]) _ (HBU.out _) ?_
  go_wp2_with ((with_reducible (show wpList _ _ _ (⟨_, .store _ _ _, _, _, _, _⟩ :: _) _ _)); refine Hid.out ?_)
  refine Lib.hid ?_
  refine wpList_store_blk (cs0 := List.replicate 32 (.int .u8 0)) (cs := u8s (List.replicate 32 (0 : UInt8))) rfl 37 _ _ rfl HZ0.out rfl rfl (by simp [u8s]) (by kernel_rfl) (u8s_one _) ?_
  intro w2 hb hc
  have HZ2 := Lib.hid hb
  have HB2 := Lib.hid (HAL.out.trans (((((Below.refl (w.alloc (.cells cs.toArray 40)).heap.size (w.alloc (.cells cs.toArray 40))).alloc (Nat.le_refl _) (.cells ((List.replicate 32 (.int .u8 0) : List Value)).toArray 37)).trans (hc.below (by simp) fun b h => by have h : b = w.heap.size + 1 := h; simp [h]))).mono HAL.out.size))
  have HX2 := Lib.hid ((HX.out.alloc (.cells ((List.replicate 32 (.int .u8 0) : List Value)).toArray 37)).chg hc (by omega))
  have hq0 : w2.cell? ⟨w.heap.size, 0, none⟩ = some (.int .i64 6) := (by rw [HX2.out.cell, HCS.out]; rfl)
  have hq39 : w2.cell? ⟨w.heap.size, 39, none⟩ = some (.int .i64 0) := (by rw [HX2.out.cell, HCS.out, getElem?_toArray]; exact txl_39 HID.out)
  have HRI := Lib.hid (show w2.rangeAt w.heap.size 7 (u8s id) from by have h := HX2.out; rw [HCS.out] at h; exact txl_id h)
  have HZRO := Lib.hid (show w2.rangeAt (w.heap.size + 1) 0 [.int .u8 0, .int .u8 0, .int .u8 0, .int .u8 0, .int .u8 0, .int .u8 0, .int .u8 0, .int .u8 0, .int .u8 0, .int .u8 0, .int .u8 0, .int .u8 0, .int .u8 0, .int .u8 0, .int .u8 0, .int .u8 0, .int .u8 0, .int .u8 0, .int .u8 0, .int .u8 0, .int .u8 0, .int .u8 0, .int .u8 0, .int .u8 0, .int .u8 0, .int .u8 0, .int .u8 0, .int .u8 0, .int .u8 0, .int .u8 0, .int .u8 0, .int .u8 0] from by have h := HZ2.out.range; rw [z32_eq] at h; exact h)
  clear hb hc
  have hdig := HDIG.out
  go_wp2_with fail
  simp only [Tryz.sizeOf37, Result.andThen, ↓reduceIte, Nat.reduceEqDiff]
  rw [Oper.upon_value]
  go_wp2_with (first
  | (refine wpList_load_mid_g (by kernel_rfl) 37 _ rfl w.heap.size 7 rfl (u8s id) _ HRI.out Tryz.underlying37 rfl HSI.out ?_)
  | (refine wpList_load_mid_g (by kernel_rfl) 37 _ rfl (w.heap.size + 1) 0 rfl [.int .u8 0, .int .u8 0, .int .u8 0, .int .u8 0, .int .u8 0, .int .u8 0, .int .u8 0, .int .u8 0, .int .u8 0, .int .u8 0, .int .u8 0, .int .u8 0, .int .u8 0, .int .u8 0, .int .u8 0, .int .u8 0, .int .u8 0, .int .u8 0, .int .u8 0, .int .u8 0, .int .u8 0, .int .u8 0, .int .u8 0, .int .u8 0, .int .u8 0, .int .u8 0, .int .u8 0, .int .u8 0, .int .u8 0, .int .u8 0, .int .u8 0, .int .u8 0] _ HZRO.out Tryz.underlying37 rfl HSZ.out ?_; refine Hid.out ?_))
  refine Lib.hid ?_
  go_wp2_with fail
  go_ret
  exact ⟨by rw [HV.out, if_neg (by simp [HQID.out])]; rfl, HB2.out⟩
end
section
open Go.RowKit Go.Maps
attribute [-simp] Tryz.isAgg40 Tryz.typeInfo40 Tryz.isAgg37 Tryz.typeInfo37 Tryz.sizeOf37
set_option maxHeartbeats 8000000 in
set_option maxRecDepth 100000 in
theorem rform_7 (w : World) (f t a n d dl : Int) (id : List UInt8) (hid : id.length = 32) (m : Int) (A : Option Addr) (nf cap : Nat) (v : Int)
    (hv : v = if nf ≠ 0 ∨ f ≠ 0 ∨ t ≠ 0 ∨ a ≠ 0 ∨ n ≠ 0 ∨ d ≠ 0 ∨ dl ≠ 0 ∨ id ≠ (List.replicate 32 (0 : UInt8)) then 1 else 0) :
    Calls Tryz.prog 33 #[.agg (txl 7 f t a n d dl id m (.slice A nf cap)).toArray] w fun e w' => e = .returned (.int .i64 v) ∧ Below w.heap.size w w' := by
  obtain ⟨cs, hcs⟩ : ∃ cs, cs = (txl 7 f t a n d dl id m (.slice A nf cap)) := ⟨_, rfl⟩
  have hx := (Blk.new w 40 cs.toArray)
  have hal := (Below.refl w.heap.size w).alloc (Nat.le_refl _) (.cells cs.toArray 40)
  rw [← hcs]
  have HX := Lib.hid hx
  have HAL := Lib.hid hal
  have HCS := Lib.hid hcs
  have HID := Lib.hid hid
  have hc0 : (w.alloc (.cells cs.toArray 40)).cell? ⟨w.heap.size, 0, none⟩ = some (.int .i64 7) := by rw [hx.cell, hcs]; rfl
  have hc1 : (w.alloc (.cells cs.toArray 40)).cell? ⟨w.heap.size, 1, none⟩ = some (.int .u64 f) := by rw [hx.cell, hcs]; rfl
  have hc2 : (w.alloc (.cells cs.toArray 40)).cell? ⟨w.heap.size, 2, none⟩ = some (.int .u64 t) := by rw [hx.cell, hcs]; rfl
  have hc3 : (w.alloc (.cells cs.toArray 40)).cell? ⟨w.heap.size, 3, none⟩ = some (.int .u64 a) := by rw [hx.cell, hcs]; rfl
  have hc4 : (w.alloc (.cells cs.toArray 40)).cell? ⟨w.heap.size, 4, none⟩ = some (.int .u64 n) := by rw [hx.cell, hcs]; rfl
  have hc5 : (w.alloc (.cells cs.toArray 40)).cell? ⟨w.heap.size, 5, none⟩ = some (.int .i64 d) := by rw [hx.cell, hcs]; rfl
  have hc6 : (w.alloc (.cells cs.toArray 40)).cell? ⟨w.heap.size, 6, none⟩ = some (.int .i64 dl) := by rw [hx.cell, hcs]; rfl
  have hc40 : (w.alloc (.cells cs.toArray 40)).cell? ⟨w.heap.size, 40, none⟩ = some (.slice A nf cap) := by rw [hx.cell, hcs, getElem?_toArray]; exact txl_40 hid
  have HBU := Lib.hid build_dig0
  have HSI := Lib.hid (dig_sizedI hid)
  have HSZ := Lib.hid dig_sizedZ
  have hz0 := Blk.new (w.alloc (.cells cs.toArray 40)) 37 (List.replicate 32 (.int .u8 0) : List Value).toArray
  rw [show (w.alloc (.cells cs.toArray 40)).heap.size = w.heap.size + 1 by simp] at hz0
  have HZ0 := Lib.hid hz0
  clear hz0
  have hdig : ∀ w', (Op.equalIn 10000 37 (.agg (u8s id).toArray) (.agg #[.int .u8 0, .int .u8 0, .int .u8 0, .int .u8 0, .int .u8 0, .int .u8 0, .int .u8 0, .int .u8 0, .int .u8 0, .int .u8 0, .int .u8 0, .int .u8 0, .int .u8 0, .int .u8 0, .int .u8 0, .int .u8 0, .int .u8 0, .int .u8 0, .int .u8 0, .int .u8 0, .int .u8 0, .int .u8 0, .int .u8 0, .int .u8 0, .int .u8 0, .int .u8 0, .int .u8 0, .int .u8 0, .int .u8 0, .int .u8 0, .int .u8 0, .int .u8 0])).run Tryz.prog w' = .ok (decide (id = (List.replicate 32 (0 : UInt8)))) w' := fun w' => run_eq_dig hid (m := (List.replicate 32 (0 : UInt8))) rfl
  have HV := Lib.hid hv
  have HDIG := Lib.hid hdig
  clear hal hx hid hv hcs hdig
  by_cases hnf : nf = 0
  rotate_left
  · have HQ := Lib.hid hnf
    have hnI : ¬ (nf : Int) = 0 := by omega
    have hnB : ((nf : Int) == 0) = false := by simp; omega
    go_enter Tryz.func33, Tryz.ntmps33
    go_wp2_with fail
    go_ret
    exact ⟨by rw [HV.out, if_pos (.inl HQ.out)]; rfl, HAL.out⟩
  subst hnf
  by_cases hqf : f = 0
  rotate_left
  · have HQ := Lib.hid hqf
    go_enter Tryz.func33, Tryz.ntmps33
    go_wp2_with fail
    go_ret
    exact ⟨by rw [HV.out, if_pos (.inr (.inl HQ.out))]; rfl, HAL.out⟩
  subst hqf
  by_cases hqt : t = 0
  rotate_left
  · have HQ := Lib.hid hqt
    go_enter Tryz.func33, Tryz.ntmps33
    go_wp2_with fail
    go_ret
    exact ⟨by rw [HV.out, if_pos (.inr (.inr (.inl HQ.out)))]; rfl, HAL.out⟩
  subst hqt
  by_cases hqa : a = 0
  rotate_left
  · have HQ := Lib.hid hqa
    go_enter Tryz.func33, Tryz.ntmps33
    go_wp2_with fail
    go_ret
    exact ⟨by rw [HV.out, if_pos (.inr (.inr (.inr (.inl HQ.out))))]; rfl, HAL.out⟩
  subst hqa
  by_cases hqn : n = 0
  rotate_left
  · have HQ := Lib.hid hqn
    go_enter Tryz.func33, Tryz.ntmps33
    go_wp2_with fail
    go_ret
    exact ⟨by rw [HV.out, if_pos (.inr (.inr (.inr (.inr (.inl HQ.out)))))]; rfl, HAL.out⟩
  subst hqn
  by_cases hqd : d = 0
  rotate_left
  · have HQ := Lib.hid hqd
    go_enter Tryz.func33, Tryz.ntmps33
    go_wp2_with fail
    go_ret
    exact ⟨by rw [HV.out, if_pos (.inr (.inr (.inr (.inr (.inr (.inl HQ.out))))))]; rfl, HAL.out⟩
  subst hqd
  by_cases hqdl : dl = 0
  rotate_left
  · have HQ := Lib.hid hqdl
    go_enter Tryz.func33, Tryz.ntmps33
    go_wp2_with fail
    go_ret
    exact ⟨by rw [HV.out, if_pos (.inr (.inr (.inr (.inr (.inr (.inr (.inl HQ.out)))))))]; rfl, HAL.out⟩
  subst hqdl
  by_cases hqid : id = (List.replicate 32 (0 : UInt8))
  rotate_left
  · have HQ := Lib.hid hqid
    have hdd : decide (id = (List.replicate 32 (0 : UInt8))) = false := decide_eq_false hqid
    have HDIG := Lib.hid (fun w2 => (HDIG.out w2).trans (by rw [hdd]))
    clear hdd hqid
    go_enter Tryz.func33, Tryz.ntmps33
    go_wp2_with ((with_reducible (show wpList _ _ _ (⟨_, .build _ _, _, _, _, _⟩ :: _) _ _)); refine Hid.out ?_)
    refine Lib.hid ?_
    refine wpList_build_ rfl 37 _ rfl #[] (by simp [Act.eval]) _ (HBU.out _) ?_
    go_wp2_with ((with_reducible (show wpList _ _ _ (⟨_, .store _ _ _, _, _, _, _⟩ :: _) _ _)); refine Hid.out ?_)
    refine Lib.hid ?_
    refine wpList_store_blk (cs0 := List.replicate 32 (.int .u8 0)) (cs := u8s (List.replicate 32 (0 : UInt8))) rfl 37 _ _ rfl HZ0.out rfl rfl (by simp [u8s]) (by kernel_rfl) (u8s_one _) ?_
    intro w2 hb hc
    have HZ2 := Lib.hid hb
    have HB2 := Lib.hid (HAL.out.trans (((((Below.refl (w.alloc (.cells cs.toArray 40)).heap.size (w.alloc (.cells cs.toArray 40))).alloc (Nat.le_refl _) (.cells ((List.replicate 32 (.int .u8 0) : List Value)).toArray 37)).trans (hc.below (by simp) fun b h => by have h : b = w.heap.size + 1 := h; simp [h]))).mono HAL.out.size))
    have HX2 := Lib.hid ((HX.out.alloc (.cells ((List.replicate 32 (.int .u8 0) : List Value)).toArray 37)).chg hc (by omega))
    have hq0 : w2.cell? ⟨w.heap.size, 0, none⟩ = some (.int .i64 7) := (by rw [HX2.out.cell, HCS.out]; rfl)
    have hq39 : w2.cell? ⟨w.heap.size, 39, none⟩ = some (.int .i64 m) := (by rw [HX2.out.cell, HCS.out, getElem?_toArray]; exact txl_39 HID.out)
    have HRI := Lib.hid (show w2.rangeAt w.heap.size 7 (u8s id) from by have h := HX2.out; rw [HCS.out] at h; exact txl_id h)
    have HZRO := Lib.hid (show w2.rangeAt (w.heap.size + 1) 0 [.int .u8 0, .int .u8 0, .int .u8 0, .int .u8 0, .int .u8 0, .int .u8 0, .int .u8 0, .int .u8 0, .int .u8 0, .int .u8 0, .int .u8 0, .int .u8 0, .int .u8 0, .int .u8 0, .int .u8 0, .int .u8 0, .int .u8 0, .int .u8 0, .int .u8 0, .int .u8 0, .int .u8 0, .int .u8 0, .int .u8 0, .int .u8 0, .int .u8 0, .int .u8 0, .int .u8 0, .int .u8 0, .int .u8 0, .int .u8 0, .int .u8 0, .int .u8 0] from by have h := HZ2.out.range; rw [z32_eq] at h; exact h)
    clear hb hc
    have hdig := HDIG.out
    go_wp2_with fail
    simp only [Tryz.sizeOf37, Result.andThen, ↓reduceIte, Nat.reduceEqDiff]
    rw [Oper.upon_value]
    go_wp2_with (first
    | (refine wpList_load_mid_g (by kernel_rfl) 37 _ rfl w.heap.size 7 rfl (u8s id) _ HRI.out Tryz.underlying37 rfl HSI.out ?_)
    | (refine wpList_load_mid_g (by kernel_rfl) 37 _ rfl (w.heap.size + 1) 0 rfl [.int .u8 0, .int .u8 0, .int .u8 0, .int .u8 0, .int .u8 0, .int .u8 0, .int .u8 0, .int .u8 0, .int .u8 0, .int .u8 0, .int .u8 0, .int .u8 0, .int .u8 0, .int .u8 0, .int .u8 0, .int .u8 0, .int .u8 0, .int .u8 0, .int .u8 0, .int .u8 0, .int .u8 0, .int .u8 0, .int .u8 0, .int .u8 0, .int .u8 0, .int .u8 0, .int .u8 0, .int .u8 0, .int .u8 0, .int .u8 0, .int .u8 0, .int .u8 0] _ HZRO.out Tryz.underlying37 rfl HSZ.out ?_; refine Hid.out ?_))
    refine Lib.hid ?_
    go_wp2_with fail
    go_ret
    exact ⟨by rw [HV.out, if_pos (.inr (.inr (.inr (.inr (.inr (.inr (.inr HQ.out)))))))]; rfl, HB2.out⟩
  have hdd : decide (id = (List.replicate 32 (0 : UInt8))) = true := decide_eq_true hqid
  have HDIG := Lib.hid (fun w2 => (HDIG.out w2).trans (by rw [hdd]))
  have HQID := Lib.hid hqid
  clear hdd hqid
  go_enter Tryz.func33, Tryz.ntmps33
  go_wp2_with ((with_reducible (show wpList _ _ _ (⟨_, .build _ _, _, _, _, _⟩ :: _) _ _)); refine Hid.out ?_)
  refine Lib.hid ?_
  refine wpList_build_ rfl 37 _ rfl #[] (by simp [Act.eval]) _ (HBU.out _) ?_
  go_wp2_with ((with_reducible (show wpList _ _ _ (⟨_, .store _ _ _, _, _, _, _⟩ :: _) _ _)); refine Hid.out ?_)
  refine Lib.hid ?_
  refine wpList_store_blk (cs0 := List.replicate 32 (.int .u8 0)) (cs := u8s (List.replicate 32 (0 : UInt8))) rfl 37 _ _ rfl HZ0.out rfl rfl (by simp [u8s]) (by kernel_rfl) (u8s_one _) ?_
  intro w2 hb hc
  have HZ2 := Lib.hid hb
  have HB2 := Lib.hid (HAL.out.trans (((((Below.refl (w.alloc (.cells cs.toArray 40)).heap.size (w.alloc (.cells cs.toArray 40))).alloc (Nat.le_refl _) (.cells ((List.replicate 32 (.int .u8 0) : List Value)).toArray 37)).trans (hc.below (by simp) fun b h => by have h : b = w.heap.size + 1 := h; simp [h]))).mono HAL.out.size))
  have HX2 := Lib.hid ((HX.out.alloc (.cells ((List.replicate 32 (.int .u8 0) : List Value)).toArray 37)).chg hc (by omega))
  have hq0 : w2.cell? ⟨w.heap.size, 0, none⟩ = some (.int .i64 7) := (by rw [HX2.out.cell, HCS.out]; rfl)
  have hq39 : w2.cell? ⟨w.heap.size, 39, none⟩ = some (.int .i64 m) := (by rw [HX2.out.cell, HCS.out, getElem?_toArray]; exact txl_39 HID.out)
  have HRI := Lib.hid (show w2.rangeAt w.heap.size 7 (u8s id) from by have h := HX2.out; rw [HCS.out] at h; exact txl_id h)
  have HZRO := Lib.hid (show w2.rangeAt (w.heap.size + 1) 0 [.int .u8 0, .int .u8 0, .int .u8 0, .int .u8 0, .int .u8 0, .int .u8 0, .int .u8 0, .int .u8 0, .int .u8 0, .int .u8 0, .int .u8 0, .int .u8 0, .int .u8 0, .int .u8 0, .int .u8 0, .int .u8 0, .int .u8 0, .int .u8 0, .int .u8 0, .int .u8 0, .int .u8 0, .int .u8 0, .int .u8 0, .int .u8 0, .int .u8 0, .int .u8 0, .int .u8 0, .int .u8 0, .int .u8 0, .int .u8 0, .int .u8 0, .int .u8 0] from by have h := HZ2.out.range; rw [z32_eq] at h; exact h)
  clear hb hc
  have hdig := HDIG.out
  go_wp2_with fail
  simp only [Tryz.sizeOf37, Result.andThen, ↓reduceIte, Nat.reduceEqDiff]
  rw [Oper.upon_value]
  go_wp2_with (first
  | (refine wpList_load_mid_g (by kernel_rfl) 37 _ rfl w.heap.size 7 rfl (u8s id) _ HRI.out Tryz.underlying37 rfl HSI.out ?_)
  | (refine wpList_load_mid_g (by kernel_rfl) 37 _ rfl (w.heap.size + 1) 0 rfl [.int .u8 0, .int .u8 0, .int .u8 0, .int .u8 0, .int .u8 0, .int .u8 0, .int .u8 0, .int .u8 0, .int .u8 0, .int .u8 0, .int .u8 0, .int .u8 0, .int .u8 0, .int .u8 0, .int .u8 0, .int .u8 0, .int .u8 0, .int .u8 0, .int .u8 0, .int .u8 0, .int .u8 0, .int .u8 0, .int .u8 0, .int .u8 0, .int .u8 0, .int .u8 0, .int .u8 0, .int .u8 0, .int .u8 0, .int .u8 0, .int .u8 0, .int .u8 0] _ HZRO.out Tryz.underlying37 rfl HSZ.out ?_; refine Hid.out ?_))
  refine Lib.hid ?_
  go_wp2_with fail
  go_ret
  exact ⟨by rw [HV.out, if_neg (by simp [HQID.out])]; rfl, HB2.out⟩
end
end Go.Proofs.YtkclkmjlodomkaaGreatDoor
