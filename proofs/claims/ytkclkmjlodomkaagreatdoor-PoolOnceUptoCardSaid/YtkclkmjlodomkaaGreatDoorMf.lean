/- Texts joined: CsQ PmX CsB. -/
import Derived.Test.YtkclkmjlodomkaaGreatDoorMe
import Derived.Test.YtkclkmjlodomkaaGreatDoorMa
import Derived.Test.YtkclkmjlodomkaaGreatDoorMc
import Derived.Stop.LaidTwo
import Derived.LaidLaws
import Derived.LaidHandle
import Derived.WalkKit
import Derived.ProofKit
import Derived.Lib.LaidTab
import Derived.Stop.Texts
namespace Go.Proofs.YtkclkmjlodomkaaGreatDoor
open List (setIfInBounds_toArray getElem_toArray getElem_cons_succ getElem_cons_zero set_cons_succ set_cons_zero filterMap_cons filterMap_nil getElem?_toArray getElem?_cons_succ getElem?_cons_zero)
section
open Go.ChangeShapes Go.WideShapes Go.ChangeAt Go.RowKit
theorem fits_num {P : Program} {sg : Bool} {t : TypeId} (h : P.underlying t = some (.int (nk sg))) : (Sh.num sg).fits P t := h
theorem fits_bool {P : Program} {t : TypeId} (h : P.underlying t = some .bool) : Sh.bool.fits P t := h
theorem fitsSig : tSig.fits Tryz.prog 148 := ⟨_, Tryz.underlying148, ⟨rfl, by kernel_rfl, (fits_num (by kernel_rfl)), ⟨rfl, by kernel_rfl, ⟨5, by kernel_rfl, Tryz.underlying5, by kernel_rfl, by kernel_rfl⟩, trivial⟩⟩, by kernel_rfl⟩
theorem fitsHeader : tHeader.fits Tryz.prog 125 := ⟨_, Tryz.underlying125, ⟨rfl, by kernel_rfl, (fits_num (by kernel_rfl)), ⟨rfl, by kernel_rfl, (fits_num (by kernel_rfl)), ⟨rfl, by kernel_rfl, (fits_num (by kernel_rfl)), ⟨rfl, by kernel_rfl, (fits_num (by kernel_rfl)), ⟨rfl, by kernel_rfl, ⟨5, by kernel_rfl, Tryz.underlying5, by kernel_rfl, by kernel_rfl⟩, ⟨rfl, by kernel_rfl, ⟨5, by kernel_rfl, Tryz.underlying5, by kernel_rfl, by kernel_rfl⟩, ⟨rfl, by kernel_rfl, ⟨5, by kernel_rfl, Tryz.underlying5, by kernel_rfl, by kernel_rfl⟩, ⟨rfl, by kernel_rfl, (fits_num (by kernel_rfl)), trivial⟩⟩⟩⟩⟩⟩⟩⟩, by kernel_rfl⟩
theorem fitsQC : tQC.fits Tryz.prog 88 := ⟨_, Tryz.underlying88, ⟨rfl, by kernel_rfl, (fits_num (by kernel_rfl)), ⟨rfl, by kernel_rfl, (fits_num (by kernel_rfl)), ⟨rfl, by kernel_rfl, (fits_num (by kernel_rfl)), ⟨rfl, by kernel_rfl, ⟨5, by kernel_rfl, Tryz.underlying5, by kernel_rfl, by kernel_rfl⟩, ⟨rfl, by kernel_rfl, ⟨3, by kernel_rfl, (fits_num (by kernel_rfl)), by kernel_rfl, by decide⟩, ⟨rfl, by kernel_rfl, ⟨148, by kernel_rfl, fitsSig, by kernel_rfl, by decide⟩, trivial⟩⟩⟩⟩⟩⟩, by kernel_rfl⟩
theorem fitsCommit : tCommit.fits Tryz.prog 90 := ⟨_, Tryz.underlying90, ⟨rfl, by kernel_rfl, ⟨125, by kernel_rfl, fitsHeader, by kernel_rfl, by decide⟩, ⟨rfl, by kernel_rfl, fitsQC, trivial⟩⟩, by kernel_rfl⟩
theorem fitsFact : tFact.fits Tryz.prog 92 := ⟨_, Tryz.underlying92, ⟨rfl, by kernel_rfl, fitsCommit, ⟨rfl, by kernel_rfl, ⟨5, by kernel_rfl, Tryz.underlying5, by kernel_rfl, by kernel_rfl⟩, ⟨rfl, by kernel_rfl, ⟨5, by kernel_rfl, Tryz.underlying5, by kernel_rfl⟩, ⟨rfl, by kernel_rfl, (fits_bool (by kernel_rfl)), ⟨rfl, by kernel_rfl, ⟨5, by kernel_rfl, Tryz.underlying5, by kernel_rfl⟩, trivial⟩⟩⟩⟩⟩, by kernel_rfl⟩
theorem fitsRecord : tRecord.fits Tryz.prog 75 := ⟨_, Tryz.underlying75, ⟨rfl, by kernel_rfl, (fits_num (by kernel_rfl)), ⟨rfl, by kernel_rfl, ⟨3, by kernel_rfl, (fits_num (by kernel_rfl)), by kernel_rfl, by decide⟩, ⟨rfl, by kernel_rfl, ⟨32, by kernel_rfl, ⟨3, by kernel_rfl, (fits_num (by kernel_rfl)), by kernel_rfl, by decide⟩, by kernel_rfl, by decide⟩, trivial⟩⟩⟩, by kernel_rfl⟩
theorem fitsTx : tTx.fits Tryz.prog 40 := ⟨_, Tryz.underlying40, ⟨rfl, by kernel_rfl, (fits_num (by kernel_rfl)), ⟨rfl, by kernel_rfl, (fits_num (by kernel_rfl)), ⟨rfl, by kernel_rfl, (fits_num (by kernel_rfl)), ⟨rfl, by kernel_rfl, (fits_num (by kernel_rfl)), ⟨rfl, by kernel_rfl, (fits_num (by kernel_rfl)), ⟨rfl, by kernel_rfl, (fits_num (by kernel_rfl)), ⟨rfl, by kernel_rfl, (fits_num (by kernel_rfl)), ⟨rfl, by kernel_rfl, ⟨5, by kernel_rfl, Tryz.underlying5, by kernel_rfl, by kernel_rfl⟩, ⟨rfl, by kernel_rfl, (fits_num (by kernel_rfl)), ⟨rfl, by kernel_rfl, ⟨92, by kernel_rfl, fitsFact, by kernel_rfl, by decide⟩, trivial⟩⟩⟩⟩⟩⟩⟩⟩⟩⟩, by kernel_rfl⟩
theorem fitsAccount : tAccount.fits Tryz.prog 57 := ⟨_, Tryz.underlying57, ⟨rfl, by kernel_rfl, (fits_num (by kernel_rfl)), ⟨rfl, by kernel_rfl, (fits_num (by kernel_rfl)), ⟨rfl, by kernel_rfl, (fits_num (by kernel_rfl)), trivial⟩⟩⟩, by kernel_rfl⟩
theorem fitsLock : tLock.fits Tryz.prog 71 := ⟨_, Tryz.underlying71, ⟨rfl, by kernel_rfl, ⟨5, by kernel_rfl, Tryz.underlying5, by kernel_rfl, by kernel_rfl⟩, ⟨rfl, by kernel_rfl, (fits_num (by kernel_rfl)), ⟨rfl, by kernel_rfl, (fits_num (by kernel_rfl)), ⟨rfl, by kernel_rfl, (fits_num (by kernel_rfl)), ⟨rfl, by kernel_rfl, (fits_num (by kernel_rfl)), ⟨rfl, by kernel_rfl, (fits_num (by kernel_rfl)), ⟨rfl, by kernel_rfl, (fits_num (by kernel_rfl)), trivial⟩⟩⟩⟩⟩⟩⟩, by kernel_rfl⟩
theorem fitsState : tState.fits Tryz.prog 34 := ⟨_, Tryz.underlying34, ⟨rfl, by kernel_rfl, (fits_num (by kernel_rfl)), ⟨rfl, by kernel_rfl, ⟨57, by kernel_rfl, fitsAccount, by kernel_rfl, by decide⟩, ⟨rfl, by kernel_rfl, ⟨71, by kernel_rfl, fitsLock, by kernel_rfl, by decide⟩, ⟨rfl, by kernel_rfl, ⟨37, by kernel_rfl, ⟨5, by kernel_rfl, Tryz.underlying5, by kernel_rfl, by kernel_rfl⟩, by kernel_rfl, by decide⟩, ⟨rfl, by kernel_rfl, ⟨75, by kernel_rfl, fitsRecord, by kernel_rfl, by decide⟩, ⟨rfl, by kernel_rfl, ⟨3, by kernel_rfl, (fits_num (by kernel_rfl)), by kernel_rfl, by decide⟩, trivial⟩⟩⟩⟩⟩⟩, by kernel_rfl⟩
theorem bulk_le {n k : Nat} (h : n + 8 ≤ 24 * k) (hk : k ≤ 1048576) : n ≤ 1099511627776 := by omega
theorem open_thing {P : Program} {H : Type} {enc : TypeId × Value → H} {W : World} {base : Nat} {fs : Fs} {t : TypeId} {v : Value} {d : DataW H} {p : List MemPlace} (hf : (Sh.tup fs).fits P t) (hB : (Sh.tup fs).plain = true ∨ Rows.uptoBulk d ≤ 1048576)
    (hv : Value.okWide P W .any base t v) (h : DataW.Trod enc P W 0 (fun _ => true) true t v d p) :
    ∃ (cs : List Value) (x : (Sh.tup fs).El), v = .agg cs.toArray ∧ (Sh.tup fs).rep W (fun b => b < W.heap.size) x cs ∧ (∀ u ∈ cs, u.oneCell' = true) ∧ (Rows.uptoBulk d ≤ 1048576 → ((Sh.tup fs).enc x).length ≤ 1099511627776) := by
  obtain ⟨F, hF, hfit, hc⟩ := hf
  obtain ⟨ca, hva, _⟩ := okWide_struct hF hv
  obtain ⟨n, h⟩ := h
  obtain ⟨cs, hcs⟩ : ∃ cs, cs = ca.toList := ⟨_, rfl⟩
  have hca : ca = cs.toArray := by rw [hcs]
  rw [hva, show (Value.agg ca).cells = ca from rfl, ← hcs] at h
  obtain ⟨x, hr, hl⟩ := Sh.open_ (Sh.tup fs) t n cs (d, p) ⟨F, hF, hfit, hc⟩ hB h
  exact ⟨cs, x, by rw [hva, hca], hr, Sh.rep_one _ _ _ hr, fun hd => bulk_le hl hd⟩
theorem open_list {P : Program} {H : Type} {enc : TypeId × Value → H} {W : World} {base : Nat} {s : Sh} {t : TypeId} {v : Value} {d : DataW H} {p : List MemPlace} (hf : (Sh.list s).fits P t) (hB : Rows.uptoBulk d ≤ 1048576)
    (hv : Value.okWide P W .any base t v) (h : DataW.Trod enc P W 0 (fun _ => true) true t v d p) :
    ∃ (x : List s.El), (Sh.list s).rep W (fun b => b < W.heap.size) x [v] ∧ ((Sh.list s).enc x).length ≤ 1099511627776 := by
  obtain ⟨e, he, hfit, hc⟩ := hf
  obtain ⟨a1, len, cap, rfl⟩ := okWide_slice he hv
  obtain ⟨n, h⟩ := h
  obtain ⟨x, hr, hl⟩ := Sh.open_ (Sh.list s) t n _ (d, p) ⟨e, he, hfit, hc⟩ (.inr hB) h
  exact ⟨x, hr, bulk_le hl hB⟩
theorem wpList_load_blk_g {P : Program} {ops : Array Oper} {rest : List Oper} {op : Oper} {a : Act} {w : World} {Q : Exit → Act → World → Prop} (hgd : Region.wanted op (yielded ops a.tmps) = true) (ty : TypeId) (x : Operand) (ho : op.op = .load ty x) {X : Nat} {t : TypeId} {cs : List Value} (hb : Blk w X t cs.toArray) (hx : a.eval x = .pointer (some ⟨X, 0, none⟩)) {d : TypeDesc} (hu : P.underlying ty = some d) (hd : d.isRow = true)
    (hi : (P.info? ty).map (·.size) = some cs.length) (h : wpList P ops Q rest (a.put op.dst (.agg cs.toArray)) w) : wpList P ops Q (op :: rest) a w := by
  unfold wpList
  rw [if_pos hgd]
  exact .inl (wp_load_mid ty x ho X 0 hx cs _ hb.range hu hd hi h)
mutual
def Sh.zero : Sh → List Value
  | .num sg => [.int (nk sg) 0]
  | .dig => List.replicate 32 (.int .u8 0)
  | .byt => [.slice none 0 0]
  | .bool => [.bool false]
  | .list _ => [.slice none 0 0]
  | .tup fs => fs.zero
def Fs.zero : Fs → List Value
  | .nil => []
  | .cons s fs => s.zero ++ fs.zero
end
end
section
open Go.RowKit Go.Maps
attribute [-simp] Tryz.isAgg34 Tryz.typeInfo34 Tryz.isAgg40 Tryz.typeInfo40 Tryz.isAgg37 Tryz.typeInfo37 Tryz.isAgg57 Tryz.typeInfo57
set_option maxHeartbeats 16000000 in
set_option maxRecDepth 100000 in
theorem lawOnce_any (w : World) {S T : Nat → Prop} {sent : Value} {x : StE} {ss : List Value} {most : Int} {y : Value} {l : List TxE} (hx : tState.rep w S x ss) (hxl : (tState.enc x).length ≤ 1099511627776) (hy : (Sh.list tTx).rep w T l [y]) (hyl : ((Sh.list tTx).enc l).length ≤ 1099511627776) (hk : Pk w sent) :
    Calls Tryz.prog 7 #[.agg ss.toArray, .int .i64 most, y] w fun e w' => e = .returned (.bool true) ∧ Below w.heap.size w w' := by
  have hal := (Below.refl w.heap.size w).alloc (Nat.le_refl _) (.cells ss.toArray 34)
  have hbx := Blk.new w 34 ss.toArray
  obtain ⟨A, cap, rfl, hlen, hat⟩ := list_at hy
  obtain ⟨nl, hnl⟩ : ∃ n, n = l.length := ⟨_, rfl⟩
  have e0 : (Value.slice A l.length cap) = .slice A nl cap := by rw [hnl]
  rw [e0] at hy ⊢
  have hsta := sta_of hx (acc_len hxl)
  obtain ⟨la, hla⟩ : ∃ la, la = accX x := ⟨_, rfl⟩
  rw [← hla] at hsta
  have HST := Lib.hid (st_of hsta)
  have HSA := Lib.hid hsta
  have HX := Lib.hid hx
  have HY := Lib.hid hy
  have HTL := Lib.hid (tx_len hyl)
  have HK := Lib.hid hk
  have HAL := Lib.hid hal
  have HBX := Lib.hid hbx
  have HN := Lib.hid hnl
  have hnl63 : nl ≤ 9223372036854775807 := by omega
  clear hal hbx hx hy hyl hk hxl hat hlen hla e0 hnl hsta
  go_enter Tryz.func7, Tryz.ntmps7
  go_wp2_with fail
  refine (awakeP_any _ (HK.out.below HAL.out)).mono ?_
  rintro e w1 ⟨rfl, hb1⟩
  have HB1 := Lib.hid (HAL.out.trans (hb1.mono HAL.out.size))
  have HX1 := Lib.hid (blk_low HBX.out hb1)
  clear hb1 HAL HBX
  go_wp2_with (refine wpList_load_blk' rfl 34 _ rfl HX1.out rfl Tryz.underlying34 rfl HST.out ?_)
  refine (may_any w1 (Sh.rep_below HX.out HB1.out)).mono ?_
  rintro e w2 ⟨⟨r, rfl, _⟩, hb2⟩
  have HB2 := Lib.hid (HB1.out.trans (hb2.mono HB1.out.size))
  have HX2 := Lib.hid (blk_low HX1.out hb2)
  clear hb2 HX1 HB1 HX
  cases r
  · go_wp2_with fail
    go_ret
    exact ⟨rfl, HB2.out⟩
  go_wp2_with fail
  refine (newB_any w2 most).mono ?_
  rintro e w3 ⟨rfl, hp3⟩
  obtain ⟨mm, hmm⟩ : ∃ mm, mm = (min (max most 0) 32).toNat := ⟨_, rfl⟩
  rw [← hmm] at hp3
  have HMM := Lib.hid hmm
  obtain ⟨gP, hgP⟩ : ∃ gP, gP = w2.heap.size := ⟨_, rfl⟩
  rw [← hgP] at hp3 ⊢
  have HP3 := Lib.hid hp3
  clear hp3 hmm hgP
  go_wp2_with fail
  go_loopw [9, 23] (fun n i wr => ∃ (k m : Nat), k ≤ nl ∧ m ≤ 32 ∧ i = .int .i64 k ∧ n = .int .i64 m ∧ Hid (∃ v X, PoolB w2 wr gP v mm X ∧ X.length = m)) (fun _ i _ => nl - (intOf i).toNat)
  case atStart => exact ⟨0, 0, Nat.zero_le _, by omega, rfl, rfl, Lib.hid ⟨_, _, HP3.out, rfl⟩⟩
  case round =>
    obtain ⟨k, m, hk, hm, rfl, rfl, hP⟩ := hrel
    obtain ⟨v, X, hpb, hXm⟩ := hP.out
    by_cases hlt : k < nl
    · have hkl : k < l.length := by rw [← HN.out]; exact hlt
      obtain ⟨_, _, e, _, hat⟩ := list_at (Sh.rep_below HY.out HB2.out)
      injection e with e1 e2 e3
      subst e1; subst e3
      clear e2
      obtain ⟨b, off, C, rfl, hr, hrep, hCl, _⟩ := hat k hkl
      have hCl : C.length = 41 := hCl
      have htl := HTL.out _ (List.getElem_mem hkl)
      obtain ⟨t, ht⟩ : ∃ t, t = l[k] := ⟨_, rfl⟩
      rw [← ht] at hrep htl
      have hr : w2.rangeAt b (off + k * 41) C := hr
      have HJ := Lib.hid (tx_size hCl)
      have HREP := Lib.hid hrep
      have HTLX := Lib.hid htl
      have HPB := Lib.hid hpb
      have HXM := Lib.hid hXm
      have HS2 := Lib.hid (HSA.out.below HB2.out)
      have HSW := Lib.hid (show ∀ w', Below w2.heap.size w2 w' → Blk w' w.heap.size 34 ss.toArray ∧ w'.rangeAt b (off + k * 41) C from fun w' h => ⟨blk_low HX2.out h, range_low hr h⟩)
      have hpd := hpb.below ((Below.refl wr.heap.size wr).drew)
      have hSS := HSW.out _ hpd.2.1
      clear hat hr hrep hCl htl ht hkl hpb hXm hP
      go_wp2_with fail
      refine wp_region_segsV [([0, 1, 2, 3, 4, 5], [6]), ([], [7])] (by kernel_rfl) (by kernel_rfl) (by kernel_rfl) (by kernel_rfl)
        (SegV.mk (fun w' => Blk w' w.heap.size 34 ss.toArray ∧ w'.rangeAt b (off + k * 41) C) (fun _ _ => trivial) hSS ?_)
      (refine HoistK.yes (by rfl) (by kernel_rfl) ⟨?_, fun w' hSw => ?_, ?_⟩; rotate_left; (· go_simp; try with_reducible rfl); simp only [Act.put, setIfInBounds_toArray, getElem_toArray, getElem_cons_succ, getElem_cons_zero, set_cons_succ, set_cons_zero])
      (refine HoistK.load (by rfl) (by kernel_rfl) 34 _ rfl w.heap.size 0 rfl ss _ (fun w' hw => hw.1.range) Tryz.underlying34 rfl HST.out ?_; simp only [Act.put, setIfInBounds_toArray, getElem_toArray, getElem_cons_succ, getElem_cons_zero, set_cons_succ, set_cons_zero])
      iterate 3 (refine HoistK.yes (by rfl) (by kernel_rfl) ⟨?_, fun w' hSw => ?_, ?_⟩; rotate_left; (· go_simp; try with_reducible rfl); simp only [Act.put, setIfInBounds_toArray, getElem_toArray, getElem_cons_succ, getElem_cons_zero, set_cons_succ, set_cons_zero])
      (refine HoistK.load (by rfl) (by kernel_rfl) 40 _ rfl b (off + k * 41) rfl C _ (fun w' hw => hw.2) Tryz.underlying40 rfl HJ.out ?_; simp only [Act.put, setIfInBounds_toArray, getElem_toArray, getElem_cons_succ, getElem_cons_zero, set_cons_succ, set_cons_zero])
      refine HoistK.nil_ ?_
      simp only [opsAt, filterMap_cons, filterMap_nil, getElem?_toArray, getElem?_cons_succ, getElem?_cons_zero]
      refine EffS.cons_ fun _ hQ => ?_
      go_wp2_with fail
      refine (addB_any w2 wr.drew (HS2.out.below hpd.2.1) (Sh.rep_below HREP.out hpd.2.1) hpd HTLX.out).mono ?_
      rintro e w4 ⟨rfl, hb4, v4, hp4⟩
      have hS4 := HSW.out _ hp4.2.1
      obtain ⟨r1, hr1⟩ : ∃ r, r = addE la mm (encsX X) t := ⟨_, rfl⟩
      rw [← hr1]
      have HR1 := Lib.hid hr1
      clear hr1
      go_wp2_with fail
      refine hQ _ _ hS4 (EffS.nil_ (SegV.mk (fun w' => Blk w' w.heap.size 34 ss.toArray ∧ w'.rangeAt b (off + k * 41) C) (fun _ h => h) hS4 ?_))
      refine HoistK.nil_ ?_
      simp only [opsAt, filterMap_cons, filterMap_nil, getElem?_toArray, getElem?_cons_succ, getElem?_cons_zero]
      refine EffS.cons_ fun _ hQ => ?_
      go_wp2_with fail
      refine hQ _ _ hS4 (EffS.nil_ fun _ hQ => ?_)
      have HP4 := Lib.hid hp4
      clear hp4 hpd hSS hb4
      go_wp2_with fail
      have hp5 := HP4.out.below ((Below.refl w4.heap.size w4).drew)
      have hS5 := HSW.out _ hp5.2.1
      refine wp_region_segsV [([0, 1, 2, 3, 4, 5], [6]), ([], [7])] (by kernel_rfl) (by kernel_rfl) (by kernel_rfl) (by kernel_rfl)
        (SegV.mk (fun w' => Blk w' w.heap.size 34 ss.toArray ∧ w'.rangeAt b (off + k * 41) C) (fun _ _ => trivial) hS5 ?_)
      (refine HoistK.yes (by rfl) (by kernel_rfl) ⟨?_, fun w' hSw => ?_, ?_⟩; rotate_left; (· go_simp; try with_reducible rfl); simp only [Act.put, setIfInBounds_toArray, getElem_toArray, getElem_cons_succ, getElem_cons_zero, set_cons_succ, set_cons_zero])
      (refine HoistK.load (by rfl) (by kernel_rfl) 34 _ rfl w.heap.size 0 rfl ss _ (fun w' hw => hw.1.range) Tryz.underlying34 rfl HST.out ?_; simp only [Act.put, setIfInBounds_toArray, getElem_toArray, getElem_cons_succ, getElem_cons_zero, set_cons_succ, set_cons_zero])
      iterate 3 (refine HoistK.yes (by rfl) (by kernel_rfl) ⟨?_, fun w' hSw => ?_, ?_⟩; rotate_left; (· go_simp; try with_reducible rfl); simp only [Act.put, setIfInBounds_toArray, getElem_toArray, getElem_cons_succ, getElem_cons_zero, set_cons_succ, set_cons_zero])
      (refine HoistK.load (by rfl) (by kernel_rfl) 40 _ rfl b (off + k * 41) rfl C _ (fun w' hw => hw.2) Tryz.underlying40 rfl HJ.out ?_; simp only [Act.put, setIfInBounds_toArray, getElem_toArray, getElem_cons_succ, getElem_cons_zero, set_cons_succ, set_cons_zero])
      refine HoistK.nil_ ?_
      simp only [opsAt, filterMap_cons, filterMap_nil, getElem?_toArray, getElem?_cons_succ, getElem?_cons_zero]
      refine EffS.cons_ fun _ hQ => ?_
      go_wp2_with fail
      refine (addB_any w2 w4.drew (HS2.out.below hp5.2.1) (Sh.rep_below HREP.out hp5.2.1) hp5 HTLX.out).mono ?_
      rintro e w6 ⟨rfl, hb4, v6, hp6⟩
      have hS6 := HSW.out _ hp6.2.1
      rw [addX_twice] at hp6
      obtain ⟨r2, hr2⟩ : ∃ r, r = addE la mm (encsX (addX la mm X t)) t := ⟨_, rfl⟩
      rw [← hr2]
      have HR2 := Lib.hid hr2
      clear hr2
      go_wp2_with fail
      refine hQ _ _ hS6 (EffS.nil_ (SegV.mk (fun w' => Blk w' w.heap.size 34 ss.toArray ∧ w'.rangeAt b (off + k * 41) C) (fun _ h => h) hS6 ?_))
      refine HoistK.nil_ ?_
      simp only [opsAt, filterMap_cons, filterMap_nil, getElem?_toArray, getElem?_cons_succ, getElem?_cons_zero]
      refine EffS.cons_ fun _ hQ => ?_
      go_wp2_with fail
      refine hQ _ _ hS6 (EffS.nil_ fun _ hQ => ?_)
      have HP6 := Lib.hid hp6
      have hLm : (addX la mm X t).length ≤ mm ∧ mm ≤ 32 := by have h := hp6.1.1; exact ⟨by have := h.2.1; rwa [List.length_map] at this, h.1⟩
      have HLM := Lib.hid hLm
      clear hp6 hb4 hS4 hS5 hS6 hp5 HP4 hLm
      have HALL := Lib.hid (poolAll_any w6 HP6.out.1 (HK.out.below (HB2.out.trans (HP6.out.2.1.mono HB2.out.size))))
      have hmc : (most < 0 ∧ mm = 0) ∨ (¬ most < 0 ∧ ¬ 32 < most ∧ most = mm) ∨ (¬ most < 0 ∧ 32 < most ∧ mm = 32) := by have := HMM.out; omega
      by_cases h1 : r1 = 0
      · obtain rfl : r2 = 31 := by rw [HR2.out]; exact addE_twice.1 (by rw [← HR1.out]; exact h1)
        subst h1
        have HXL := Lib.hid (show (addX la mm X t).length = m + 1 by rw [addX_len.1 HR1.out.symm, HXM.out])
        have hmm1 : m + 1 ≤ mm := by rw [← HXL.out]; exact HLM.out.1
        have hm32 := HLM.out.2
        clear HR2
        rcases hmc with ⟨ha, hb⟩ | ⟨ha, hb, hc⟩ | ⟨ha, hb, hc⟩
        · exact absurd hmm1 (by omega)
        · have hg : ¬ most < (m : Int) + 1 := by omega
          clear hc hmm1 hm32
          go_wp2_with fail
          refine HALL.out.mono ?_
          rintro e w7 ⟨vA, rfl, htA, hb7⟩
          obtain ⟨AA, cA, rfl⟩ := htA.2.form
          rw [HXL.out]
          have HPE := Lib.hid (HP6.out.below hb7)
          clear htA hb7 HALL
          go_wp2_with fail
          exact ⟨⟨k + 1, m + 1, by omega, by have := HLM.out; have := HXL.out; omega, by push_cast; rfl, by push_cast; rfl, Lib.hid ⟨_, _, HPE.out, HXL.out⟩⟩, by simp only [intOf]; omega⟩
        · have hg : ¬ (32 : Int) < (m : Int) + 1 := by omega
          clear hc hmm1 hm32
          go_wp2_with fail
          refine HALL.out.mono ?_
          rintro e w7 ⟨vA, rfl, htA, hb7⟩
          obtain ⟨AA, cA, rfl⟩ := htA.2.form
          rw [HXL.out]
          have HPE := Lib.hid (HP6.out.below hb7)
          clear htA hb7 HALL
          go_wp2_with fail
          exact ⟨⟨k + 1, m + 1, by omega, by have := HLM.out; have := HXL.out; omega, by push_cast; rfl, by push_cast; rfl, Lib.hid ⟨_, _, HPE.out, HXL.out⟩⟩, by simp only [intOf]; omega⟩
      · have e2 : r2 = r1 := by rw [HR2.out, HR1.out]; exact addE_twice.2 (by rw [← HR1.out]; exact h1)
        subst e2
        have hX1 : addX la mm X t = X := addX_len.2 (by rw [← HR1.out]; exact h1)
        rw [hX1] at HP6 HLM HALL
        have h1b : (r2 == 0) = false := by simpa using h1
        have h42 : r2 = 42 → mm ≤ m := fun h => by
          have := addE_full (accts := la) (most := mm) (L := encsX X) (x := t) (by rw [← HR1.out]; exact h)
          unfold encsX at this
          rw [List.length_map, HXM.out] at this
          exact this
        have hml : m ≤ mm := by have := HLM.out.1; rw [HXM.out] at this; exact this
        have H42 := Lib.hid h42
        have HML := Lib.hid hml
        clear HR2 HR1 hX1 h42 hml
        by_cases hq : r2 = 42
        · have hm42 : m = mm := by have := H42.out hq; have := HML.out; omega
          subst hq
          rcases hmc with ⟨ha, hb⟩ | ⟨ha, hb, hc⟩ | ⟨ha, hb, hc⟩
          · have g1 : ¬ (m : Int) < 0 := by omega
            have g2 : ¬ (0 : Int) < (m : Int) := by omega
            have g3 : ¬ 0 < m := by omega
            clear hb hm42
            go_wp2_with fail
            refine HALL.out.mono ?_
            rintro e w7 ⟨vA, rfl, htA, hb7⟩
            obtain ⟨AA, cA, rfl⟩ := htA.2.form
            rw [HXM.out]
            have HPE := Lib.hid (HP6.out.below hb7)
            clear htA hb7 HALL
            go_wp2_with fail
            exact ⟨⟨k + 1, m, by omega, hm, by push_cast; rfl, rfl, Lib.hid ⟨_, _, HPE.out, HXM.out⟩⟩, by simp only [intOf]; omega⟩
          · have g1 : ¬ (m : Int) < most := by omega
            have g2 : ¬ most < (m : Int) := by omega
            clear hc hm42
            go_wp2_with fail
            refine HALL.out.mono ?_
            rintro e w7 ⟨vA, rfl, htA, hb7⟩
            obtain ⟨AA, cA, rfl⟩ := htA.2.form
            rw [HXM.out]
            have HPE := Lib.hid (HP6.out.below hb7)
            clear htA hb7 HALL
            go_wp2_with fail
            exact ⟨⟨k + 1, m, by omega, hm, by push_cast; rfl, rfl, Lib.hid ⟨_, _, HPE.out, HXM.out⟩⟩, by simp only [intOf]; omega⟩
          · have g1 : ¬ (m : Int) < 32 := by omega
            have g2 : ¬ (32 : Int) < (m : Int) := by omega
            have g3 : ¬ m < 32 := by omega
            have g4 : ¬ 32 < m := by omega
            clear hc hm42
            go_wp2_with fail
            refine HALL.out.mono ?_
            rintro e w7 ⟨vA, rfl, htA, hb7⟩
            obtain ⟨AA, cA, rfl⟩ := htA.2.form
            rw [HXM.out]
            have HPE := Lib.hid (HP6.out.below hb7)
            clear htA hb7 HALL
            go_wp2_with fail
            exact ⟨⟨k + 1, m, by omega, hm, by push_cast; rfl, rfl, Lib.hid ⟨_, _, HPE.out, HXM.out⟩⟩, by simp only [intOf]; omega⟩
        · have hqb : (r2 == 42) = false := by simpa using hq
          have hml := HML.out
          rcases hmc with ⟨ha, hb⟩ | ⟨ha, hb, hc⟩ | ⟨ha, hb, hc⟩
          · have g2 : ¬ (0 : Int) < (m : Int) := by omega
            have g3 : ¬ 0 < m := by omega
            clear hb hml
            go_wp2_with fail
            refine HALL.out.mono ?_
            rintro e w7 ⟨vA, rfl, htA, hb7⟩
            obtain ⟨AA, cA, rfl⟩ := htA.2.form
            rw [HXM.out]
            have HPE := Lib.hid (HP6.out.below hb7)
            clear htA hb7 HALL
            go_wp2_with fail
            exact ⟨⟨k + 1, m, by omega, hm, by push_cast; rfl, rfl, Lib.hid ⟨_, _, HPE.out, HXM.out⟩⟩, by simp only [intOf]; omega⟩
          · have g2 : ¬ most < (m : Int) := by omega
            clear hc hml
            go_wp2_with fail
            refine HALL.out.mono ?_
            rintro e w7 ⟨vA, rfl, htA, hb7⟩
            obtain ⟨AA, cA, rfl⟩ := htA.2.form
            rw [HXM.out]
            have HPE := Lib.hid (HP6.out.below hb7)
            clear htA hb7 HALL
            go_wp2_with fail
            exact ⟨⟨k + 1, m, by omega, hm, by push_cast; rfl, rfl, Lib.hid ⟨_, _, HPE.out, HXM.out⟩⟩, by simp only [intOf]; omega⟩
          · have g2 : ¬ (32 : Int) < (m : Int) := by omega
            have g4 : ¬ 32 < m := by omega
            clear hc hml
            go_wp2_with fail
            refine HALL.out.mono ?_
            rintro e w7 ⟨vA, rfl, htA, hb7⟩
            obtain ⟨AA, cA, rfl⟩ := htA.2.form
            rw [HXM.out]
            have HPE := Lib.hid (HP6.out.below hb7)
            clear htA hb7 HALL
            go_wp2_with fail
            exact ⟨⟨k + 1, m, by omega, hm, by push_cast; rfl, rfl, Lib.hid ⟨_, _, HPE.out, HXM.out⟩⟩, by simp only [intOf]; omega⟩
    · have hk' : k = nl := by omega
      subst hk'
      have HBE := Lib.hid (HB2.out.trans (hpb.2.1.mono HB2.out.size))
      clear hpb hXm hP
      go_wp2_with fail
      go_ret
      exact ⟨rfl, HBE.out⟩
end
section
open Go.ChangeShapes Go.WideShapes Go.ChangeAt Go.RowKit
theorem pk_gF : Tryz.prog.globalNamed "wapentake/codec.errForm" = some 1 := by kernel_rfl
theorem pk_gB : Tryz.prog.globalNamed "wapentake/codec.errBytes" = some 0 := by kernel_rfl
theorem pk_gH : Tryz.prog.globalNamed "errors.errorType" = some 2 := by kernel_rfl
theorem pk_gFt : (Tryz.prog.globals[1]?).map (·.type) = some 131 := by kernel_rfl
theorem pk_gBt : (Tryz.prog.globals[0]?).map (·.type) = some 131 := by kernel_rfl
theorem pk_rt : (Tryz.prog.cutTypes.find? (·.1 == "internal/reflectlite.rtype")).map (·.2) = some 182 := by kernel_rfl
theorem pk_rows : ((List.range Tryz.prog.types.size).filter fun t => Tryz.prog.rowNamed t [101, 114, 114, 111, 114]) = [131] := by kernel_rfl
theorem pk_cells1 : Tryz.prog.cellsOf 226 = 1 := by kernel_rfl
theorem pk_cells2 : Tryz.prog.cellsOf 9 = 1 := by kernel_rfl
theorem pk_star : "*" ++ "errors.errorString" = "*errors.errorString" := by decide
theorem pk_row (u : TypeId) (h : Tryz.prog.typeName? 3 u = some "*errors.errorString") : u = 205 :=
  typeName_ptr_named (nm := "errors.errorString") (by rw [pk_star]; kernel_rfl) (by kernel_rfl) (by decide) u (by rw [pk_star]; exact h)
def codecLaid : List (String × DataW Unit) := [("errors.errorType", Rows.laid_errors_errorType), ("wapentake/codec.errForm", Rows.laid_wapentake_codec_errForm), ("wapentake/codec.errBytes", Rows.laid_wapentake_codec_errBytes)]
theorem pk_of_laid {W : World} (h : laidMetH Tryz.prog codecLaid W) : ∃ sent, Pk W sent := by
  have h' : laidMet Tryz.prog [("wapentake/codec.errForm", Rows.laid_wapentake_codec_errForm), ("wapentake/codec.errBytes", Rows.laid_wapentake_codec_errBytes)] W ∧ handlesMet Tryz.prog [("errors.errorType", Rows.laid_errors_errorType)] W := h
  obtain ⟨name, u, ty, e1, e2, e3, e4, e5⟩ := h'.2 _ (List.mem_singleton.2 rfl)
  have en : name = [101, 114, 114, 111, 114] := (Option.some.inj e1).symm
  subst en
  obtain rfl := Option.some.inj (pk_rt.symm.trans e2)
  have hm : ty ∈ (List.range Tryz.prog.types.size).filter fun t => Tryz.prog.rowNamed t [101, 114, 114, 111, 114] := List.mem_filter.2 ⟨List.mem_range.2 e3, e4⟩
  rw [pk_rows] at hm
  obtain rfl := List.mem_singleton.1 hm
  have hh : typeHandle Tryz.prog 131 = .pointer (some ⟨nG, 131, none⟩) := by kernel_rfl
  rw [hh] at e5
  have hty : W.cell? ⟨2, 0, none⟩ = some (.iface 182 (.agg #[.pointer (some ⟨nG, 131, none⟩)])) := by simpa using World.var?_cell pk_gH e5 0
  obtain ⟨a0, a1, s0, s1, c0, c1, t0, t1, hv0, hv1, hc0, hs0, hz0, hc1, hs1, hz1, hne, hb0, hb1⟩ := laid_sentinels2 h'.1 pk_gF pk_gFt pk_gB pk_gBt Tryz.underlying131 pk_row Tryz.underlying205 Tryz.underlying226 rfl rfl Tryz.underlying9 pk_cells1 pk_cells2
  have hg0 : W.cell? ⟨1, 0, none⟩ = some (.iface 205 (.pointer (some a0))) := by simpa using World.var?_cell pk_gF hv0 0
  have hg1 : W.cell? ⟨0, 0, none⟩ = some (.iface 205 (.pointer (some a1))) := by simpa using World.var?_cell pk_gB hv1 0
  exact ⟨_, ⟨⟨a0, rfl⟩, hg0⟩, a0, a1, c0, c1, t0, t1, rfl, hne, hb0, hb1, hg1, hty⟩
abbrev formS : ByteArray := { data := #[110, 111, 32, 115, 117, 99, 104, 32, 102, 111, 114, 109] }
abbrev bytesS : ByteArray := { data := #[116, 111, 111, 32, 109, 97, 110, 121, 32, 98, 121, 116, 101, 115] }
noncomputable def codecLow : Nat := (World.holding Tryz.prog default ⟨#[], #[], []⟩).heap.size
noncomputable def codecWorld (os : Os) : World :=
  let w0 := World.holding Tryz.prog os ⟨#[.cells #[.string formS] 226, .cells #[.string bytesS] 226], #[], []⟩
  { w0 with heap := ((w0.heap.modify 1 fun
      | .cells _ t frozen => .cells #[.iface 205 (.pointer (some ⟨codecLow, 0, none⟩))] t frozen
      | o => o).modify 0 fun
      | .cells _ t frozen => .cells #[.iface 205 (.pointer (some ⟨codecLow + 1, 0, none⟩))] t frozen
      | o => o).modify 2 fun
      | .cells _ t frozen => .cells #[.iface 182 (.agg #[.pointer (some ⟨nG, 131, none⟩)])] t frozen
      | o => o }
theorem codecWorld_met (os : Os) (args : Array Value) : laidMetH Tryz.prog codecLaid ((codecWorld os).forCall (fun _ _ => 0) ⟨#[], args, []⟩).memory :=
  laidMetH_of_parts (laidMet_of_run (ps := [.cell 1 0, .cell codecLow 0, .cell 0 0, .cell (codecLow + 1) 0]) 8 (by kernel_rfl) (by kernel_rfl) (by kernel_rfl)) (by kernel_rfl)
end
end Go.Proofs.YtkclkmjlodomkaaGreatDoor
