/- Texts joined: CuH CfY CgP CrN CtN CuI CgC CgD CgE CgF CgS. -/
import Derived.Test.YtjjgmkfkmckkoaaGreatDoorMb
import Derived.Test.YtjjgmkfkmckkoaaGreatDoorMf
import Derived.Test.YtjjgmkfkmckkoaaGreatDoorMc
import Derived.Test.YtjjgmkfkmckkoaaGreatDoorMa
namespace Go.Proofs.YtjjgmkfkmckkoaaGreatDoor
open List (setIfInBounds_toArray getElem_toArray getElem_cons_succ getElem_cons_zero set_cons_succ set_cons_zero filterMap_cons filterMap_nil getElem?_toArray getElem?_cons_succ getElem?_cons_zero)
section
open Go.RowKit Go.Maps
attribute [-simp] Tryz.isAgg36 Tryz.typeInfo36 Tryz.isAgg90 Tryz.typeInfo90
set_option maxHeartbeats 8000000 in
set_option maxRecDepth 100000 in
theorem read_Vote (w : World) {S : Nat → Prop} {v : Value} {bs : List UInt8} {sent : Value} (h : Bs w S v bs) (hlen : bs.length ≤ 1099511627776) (hp : Pk w sent) :
    Calls Tryz.prog 5 #[.int .i64 7, v] w (ReadAns w bs) := by
  have HF := Lib.hid (ReadVote_any w h hp)
  have HB := Lib.hid h
  have HLEN := Lib.hid hlen
  obtain ⟨A, cap, rfl⟩ := h.form
  clear h hlen hp
  go_enter Tryz.func5, Tryz.ntmps5
  go_wp2_with fail
  refine HF.out.mono ?_
  rintro e w1 ⟨hb1, C, n, rfl, hCl, hC1, hn⟩
  have hCl : C.length = 69 := hCl
  have HZL := Lib.hid (show zrVote.length = C.length from by rw [hCl]; exact zrVote_len)
  have HCI := Lib.hid (zrVote_sized hCl)
  have HC1 := Lib.hid hC1
  have HN := Lib.hid hn
  have HB1 := Lib.hid hb1
  have HBB := Lib.hid (HB.out.below hb1)
  have hz1 := hb1.size
  clear hCl hC1 hn hb1 HF
  go_wp2_with (refine wpList_store_blk (cs0 := zrVote) (cs := C) rfl 90 _ _ rfl (Blk.new w1 _ _) rfl rfl HZL.out HCI.out HC1.out ?_; intro w2 hyy hcc; have HX2 := Lib.hid hyy; have HCw2 := Lib.hid (show Chg (fun _ => False) w1 w2 from ((Chg.refl _ w1).alloc _).trans hcc fun b h => .inr (Nat.le_of_eq h.symm)); clear hyy hcc)
  have hz2 := HCw2.out.size
  have HB2 := Lib.hid (HB1.out.trans (HCw2.out.below HB1.out.size fun b h => h.elim))
  refine (rReadVote_any w2 (HBB.out.chg HCw2.out fun _ _ h => h) HLEN.out).mono ?_
  rintro e w3 ⟨hb3, D, g, rfl, hs, hzz⟩
  have hDl : D.length = 69 := hs.1
  have HZD := Lib.hid (show zrVote.length = D.length from by rw [hDl]; exact zrVote_len)
  have HDI := Lib.hid (zrVote_sized hDl)
  have HD1 := Lib.hid hs.2.1
  have HS := Lib.hid hs
  have HZZ := Lib.hid hzz
  have HX3 := Lib.hid (HX2.out.below hb3 HX2.out.lt)
  have HB23 := Lib.hid hb3
  have HB3 := Lib.hid (HB2.out.trans (hb3.mono HB2.out.size))
  have hz3 := hb3.size
  clear hDl hs hzz hb3 HBB HX2
  by_cases hn0 : n = 0
  · subst hn0
    obtain ⟨hbl, x, hdx, hrx⟩ : bs.length ≤ 262144 ∧ ∃ x, Sh.dec tVote bs = some x ∧ Sh.rep w1 (fun b => w.heap.size ≤ b) tVote x C := by
      rcases HN.out with ⟨_, h⟩ | ⟨hb, ⟨x, h1, _, h3⟩ | ⟨_, h⟩⟩
      · cases h
      · exact ⟨hb, x, h1, h3⟩
      · cases h
    obtain ⟨rfl, hry⟩ : g = false ∧ Sh.rep w3 (Nw w2.heap.size w3) tVote x D := by
      rcases HS.out.2.2 with ⟨y, h1, h2, h3⟩ | ⟨h1, _⟩
      · rw [hdx] at h1; injection h1 with h1; subst h1; exact ⟨h2, h3⟩
      · rw [hdx] at h1; cases h1
    have hex : Sh.enc tVote x = bs := (Sh.enc_dec _ _ _ hdx).1
    have HEX := Lib.hid hex
    have HLX := Lib.hid (show (Sh.enc tVote x).length ≤ 1099511627776 by rw [hex]; exact HLEN.out)
    have HBL := Lib.hid hbl
    have HRX := Lib.hid (Sh.rep_below (Sh.rep_chg hrx HCw2.out fun _ _ h => h) HB23.out)
    have HRY := Lib.hid hry
    clear hdx hrx hry hex hbl HN HS HZZ
    go_simp
    go_wp2_with (refine wpList_store_blk (cs0 := zrVote) (cs := D) rfl 90 _ _ rfl (Blk.new w3 _ _) rfl rfl HZD.out HDI.out HD1.out ?_; intro w4 hyy hcc; have HY4 := Lib.hid hyy; have HCw4 := Lib.hid (show Chg (fun _ => False) w3 w4 from ((Chg.refl _ w3).alloc _).trans hcc fun b h => .inr (Nat.le_of_eq h.symm)); clear hyy hcc)
    have hx := (HX3.out.chg HCw4.out id).drew
    have hy := HY4.out.drew
    have hb := (HB3.out.trans (HCw4.out.below HB3.out.size fun b h => h.elim)).drew
    have hb4 : Below w4.heap.size w4 w4.drew := (Below.refl _ w4).drew
    have hrx := Sh.rep_below (Sh.rep_chg HRX.out HCw4.out fun _ _ h => h) hb4
    have hry := Sh.rep_below (Sh.rep_chg HRY.out HCw4.out fun _ _ h => h) hb4
    have hz4 := HCw4.out.size
    refine wp_region_segsV [([0, 2, 3, 5], [1]), ([], [4]), ([6, 7, 8, 9], [])] (by kernel_rfl) (by kernel_rfl) (by kernel_rfl) (by kernel_rfl)
      (SegV.mk (fun w' => Blk w' w1.heap.size 90 C.toArray ∧ Blk w' w3.heap.size 90 D.toArray) (fun _ _ => trivial) ⟨hx, hy⟩ ?_)
    (refine HoistK.load (by rfl) (by kernel_rfl) 90 _ rfl w1.heap.size 0 rfl C _ (fun w' hw => hw.1.range) Tryz.underlying90 rfl HCI.out ?_; simp only [Act.put, setIfInBounds_toArray, getElem_toArray, getElem_cons_zero, set_cons_succ, set_cons_zero])
    (refine HoistK.yes (by rfl) (by kernel_rfl) ⟨?_, fun w' hSw => ?_, ?_⟩; rotate_left; (· go_simp; try with_reducible rfl); simp only [Act.put, setIfInBounds_toArray, getElem_toArray, getElem_cons_succ, getElem_cons_zero, set_cons_succ, set_cons_zero])
    (refine HoistK.load (by rfl) (by kernel_rfl) 90 _ rfl w3.heap.size 0 rfl D _ (fun w' hw => hw.2.range) Tryz.underlying90 rfl HDI.out ?_; simp only [Act.put, setIfInBounds_toArray, getElem_toArray, getElem_cons_succ, getElem_cons_zero, set_cons_succ, set_cons_zero])
    (refine HoistK.yes (by rfl) (by kernel_rfl) ⟨?_, fun w' hSw => ?_, ?_⟩; rotate_left; (· go_simp; try with_reducible rfl); simp only [Act.put, setIfInBounds_toArray, getElem_toArray, getElem_cons_succ, getElem_cons_zero, set_cons_succ, set_cons_zero])
    refine HoistK.nil_ ?_
    simp only [opsAt, filterMap_cons, filterMap_nil, getElem?_toArray, getElem?_cons_succ, getElem?_cons_zero]
    refine EffS.cons_ fun _ hQ => ?_
    go_wp2_with fail
    refine (rVote_any _ hrx HLX.out).mono ?_
    rintro e w5 ⟨v5, rfl, f5⟩
    rw [HEX.out] at f5
    obtain ⟨A5, c5, rfl⟩ := f5.1.form
    have hx5 := hx.below f5.2 hx.lt
    have hy5 := hy.below f5.2 hy.lt
    have hb5 := hb.trans (f5.2.mono hb.size)
    have hry5 := Sh.rep_below hry f5.2
    have hw5 := f5.1.sub (T := fun b => w.heap.size ≤ b) fun b hb' _ => Nat.le_trans hb.size hb'.1
    clear f5
    go_wp2_with fail
    refine hQ _ _ ⟨hx5, hy5⟩ (EffS.nil_ (SegV.mk (fun w' => (Blk w' w1.heap.size 90 C.toArray ∧ Blk w' w3.heap.size 90 D.toArray) ∧ Bs w' (fun b => w.heap.size ≤ b) (.slice A5 bs.length c5) bs) (fun _ h => h.1) ⟨⟨hx5, hy5⟩, hw5⟩ ?_))
    refine HoistK.nil_ ?_
    simp only [opsAt, filterMap_cons, filterMap_nil, getElem?_toArray, getElem?_cons_succ, getElem?_cons_zero]
    refine EffS.cons_ fun _ hQ => ?_
    go_wp2_with fail
    refine (rVote_any _ hry5 HLX.out).mono ?_
    rintro e w6 ⟨v6, rfl, f6⟩
    rw [HEX.out] at f6
    obtain ⟨A6, c6, rfl⟩ := f6.1.form
    have hx6 := hx5.below f6.2 hx5.lt
    have hy6 := hy5.below f6.2 hy5.lt
    have hb6 := hb5.trans (f6.2.mono hb5.size)
    have hw56 := hw5.below f6.2
    have hw6 := f6.1.sub (T := fun b => w.heap.size ≤ b) fun b hb' _ => Nat.le_trans hb5.size hb'.1
    clear f6
    go_wp2_with fail
    refine hQ _ _ ⟨⟨hx6, hy6⟩, hw56⟩ (EffS.nil_ (SegV.mk (fun w' => ((Blk w' w1.heap.size 90 C.toArray ∧ Blk w' w3.heap.size 90 D.toArray) ∧ Bs w' (fun b => w.heap.size ≤ b) (.slice A5 bs.length c5) bs) ∧ Bs w' (fun b => w.heap.size ≤ b) (.slice A6 bs.length c6) bs) (fun _ h => h.1) ⟨⟨⟨hx6, hy6⟩, hw56⟩, hw6⟩ ?_))
    iterate 4 (refine HoistK.yes (by rfl) (by kernel_rfl) ⟨?_, fun w' hSw => ?_, ?_⟩; rotate_left; (· go_simp; try with_reducible rfl); simp only [Act.put, setIfInBounds_toArray, getElem_toArray, getElem_cons_succ, getElem_cons_zero, set_cons_succ, set_cons_zero])
    refine HoistK.nil_ ?_
    simp only [opsAt, filterMap_nil, getElem?_toArray]
    refine EffS.nil_ fun _ hQ => ?_
    go_wp2_with fail
    ((try simp only [Exit.inBlock, Exit.then]); refine bodyPost_ret (results_tmp4 rfl _ _ _) rfl ?_)
    exact ⟨hb6, _, _, 0, true, rfl, .inr ⟨HBL.out, .inl ⟨rfl, rfl, hw56, hw6⟩⟩⟩
  · obtain ⟨x, hrx, hlx⟩ : ∃ x, Sh.rep w3 (Nw w2.heap.size w3) tVote x D ∧ (Sh.enc tVote x).length ≤ 1099511627776 := by
      rcases HS.out.2.2 with ⟨x, h1, _, h3⟩ | ⟨_, h2⟩
      · exact ⟨x, h3, by rw [(Sh.enc_dec _ _ _ h1).1]; exact HLEN.out⟩
      · rw [HZZ.out h2]
        exact ⟨Sh.zel tVote, Sh.zel_rep w3 _ tVote, by rw [Sh.zel_len]; decide⟩
    have hans : (262144 < bs.length ∧ n = 4) ∨ (bs.length ≤ 262144 ∧ n = 5 ∧ g = true) := by
      rcases HN.out with h | ⟨hb, ⟨_, _, h, _⟩ | ⟨h1, h2⟩⟩
      · exact .inl h
      · exact absurd h hn0
      · refine .inr ⟨hb, h2, ?_⟩
        rcases HS.out.2.2 with ⟨y, h3, _, _⟩ | ⟨_, h3⟩
        · rw [h1] at h3; cases h3
        · exact h3
    have HANS := Lib.hid hans
    have HRX := Lib.hid hrx
    have HLX := Lib.hid hlx
    clear hans hrx hlx HN HS HZZ
    go_simp
    go_wp2_with (first
      | (refine wpList_store_blk (cs0 := zrVote) (cs := D) rfl 90 _ _ rfl (Blk.new w3 _ _) rfl rfl HZD.out HDI.out HD1.out ?_; intro w4 hyy hcc; have HY4 := Lib.hid hyy; have HCw4 := Lib.hid (show Chg (fun _ => False) w3 w4 from ((Chg.refl _ w3).alloc _).trans hcc fun b h => .inr (Nat.le_of_eq h.symm)); clear hyy hcc)
      | (refine wpList_load_blk' rfl 90 _ rfl HY4.out rfl Tryz.underlying90 rfl HDI.out ?_))
    have hb4 := HB3.out.trans (HCw4.out.below HB3.out.size fun b h => h.elim)
    refine (rVote_any _ (Sh.rep_chg HRX.out HCw4.out fun _ _ h => h) HLX.out).mono ?_
    rintro e w5 ⟨v5, rfl, f5⟩
    have hb5 := hb4.trans (f5.2.mono hb4.size)
    clear f5
    go_wp2_with fail
    ((try simp only [Exit.inBlock, Exit.then]); refine bodyPost_ret (results_tmp4 rfl _ _ _) rfl ?_)
    refine ⟨hb5, _, _, n, !g, rfl, ?_⟩
    rcases HANS.out with h | ⟨h1, h2, h3⟩
    · exact .inl h
    · exact .inr ⟨h1, .inr ⟨h2, by rw [h3]; rfl⟩⟩
end
section
open Go.RowKit Go.Maps
attribute [-simp] Tryz.isAgg36 Tryz.typeInfo36 Tryz.isAgg97 Tryz.typeInfo97
theorem info_readTimeout : (Tryz.prog.info? 97).map (fun i => (i.zero.map (fun z => z.cells.size))) = some (some 74) := by kernel_rfl
theorem size_readTimeout : (Tryz.prog.info? 97).map (·.size) = some 74 := by kernel_rfl
theorem places_readTimeout : ((match Tryz.prog.underlying 97 with | some (.struct fields) => fields.toList.mapM (fun f => (Tryz.prog.info? f.type).map fun i => (f.offset, i.size)) | _ => none)) = some [(0, 1), (1, 1), (2, 1), (3, 37), (40, 1), (41, 33)] := by kernel_rfl
set_option maxHeartbeats 4000000 in
set_option maxRecDepth 100000 in
theorem readTimeout_any (w : World) {S : Nat → Prop} {v sent : Value} {bs : List UInt8} (h : Bs w S v bs) (hlen : bs.length ≤ 262144) (hg : Gl w sent) :
    Calls Tryz.prog 67 #[v] w (ReadOut (.tup (.cons i64 (.cons i64 (.cons i64 (.cons tQC (.cons i64 (.cons tSig .nil))))))) w sent bs) := by
  have hal := (Below.refl w.heap.size w).alloc (Nat.le_refl _) (.cells (([.int .i64 0, .int .i64 0, .int .i64 0] ++ ([.int .i64 0, .int .i64 0, .int .i64 0] ++ List.replicate 32 (.int .u8 0) ++ [.slice none 0 0, .slice none 0 0]) ++ [.int .i64 0] ++ ([.int .i64 0] ++ List.replicate 32 (.int .u8 0)) : List Value)).toArray 97)
  have HS := Lib.hid (psplit_any _ (h.below hal) (by omega) (hg.below hal) 6 (by omega) ⟨#[97, 32, 116, 105, 109, 101, 111, 117, 116]⟩)
  have HN := Lib.hid (Blk.new w 97 (([.int .i64 0, .int .i64 0, .int .i64 0] ++ ([.int .i64 0, .int .i64 0, .int .i64 0] ++ List.replicate 32 (.int .u8 0) ++ [.slice none 0 0, .slice none 0 0]) ++ [.int .i64 0] ++ ([.int .i64 0] ++ List.replicate 32 (.int .u8 0)) : List Value)).toArray)
  have HAL := Lib.hid hal
  obtain ⟨A, cap, rfl⟩ := h.form
  clear h hg hal
  go_enter Tryz.func67, Tryz.ntmps67
  go_wp2_with fail
  refine HS.out.mono ?_
  rintro e w1 ⟨g, rows, bad, rfl, hgw, hb1, hp, hn, hrl, hs⟩
  obtain ⟨r0, r1, r2, r3, r4, r5, rfl⟩ : ∃ r0 r1 r2 r3 r4 r5, rows = [r0, r1, r2, r3, r4, r5] := by
    match rows, hn with
    | [r0, r1, r2, r3, r4, r5], _ => exact ⟨r0, r1, r2, r3, r4, r5, rfl⟩
  have HK := Lib.hid (HN.out.below hb1 (by simp))
  have hgw' : w.heap.size + 1 ≤ g := by simpa using hgw
  have hz1 : w.heap.size + 1 ≤ w1.heap.size := by simpa using hb1.size
  have HB1 := Lib.hid (HAL.out.trans (hb1.mono (by simp)))
  have HSS := Lib.hid hs
  have HRL := Lib.hid (show ∀ x ∈ [r0, r1, r2, r3, r4, r5], x.length ≤ 262144 from fun x hx => Nat.le_trans (hrl x hx) hlen)
  have hE : Pt w1 (fun b => b = g) (w.heap.size + 1) g sent [r0, r1, r2, r3, r4, r5] bad := by simpa using hp
  clear HS HN HAL hgw hb1 hs hn hp hrl hlen
  have hp0 := hE
  clear hE
  go_wp2_with fail
  refine (int_any _ hp0).mono ?_
  rintro e w2 ht
  obtain ⟨y0, b0, rfl, h10, hc0, hp1, ho0⟩ := ht.one (fun _ => rfl) rfl
  have hgl0 := hp0.lt
  have hz2 := Nat.le_trans hz1 hc0.size
  have HO0 := Lib.hid ho0
  have HC0 := Lib.hid hc0
  have H10 := Lib.hid h10
  clear ht ho0 hc0 h10 hp0
  go_wp2_with fail
  refine (int_any _ hp1).mono ?_
  rintro e w3 ht
  obtain ⟨y1, b1, rfl, h11, hc1, hp2, ho1⟩ := ht.one (fun _ => rfl) rfl
  have hgl1 := hp1.lt
  have hz3 := Nat.le_trans hz2 hc1.size
  have HO1 := Lib.hid ho1
  have HC1 := Lib.hid hc1
  have H11 := Lib.hid h11
  clear ht ho1 hc1 h11 hp1
  go_wp2_with fail
  refine (n_any _ hp2).mono ?_
  rintro e w4 ht
  obtain ⟨y2, b2, rfl, h12, hc2, hp3, ho2⟩ := ht.one (fun _ => rfl) rfl
  have hgl2 := hp2.lt
  have hz4 := Nat.le_trans hz3 hc2.size
  have HO2 := Lib.hid ho2
  have HC2 := Lib.hid hc2
  have H12 := Lib.hid h12
  clear ht ho2 hc2 h12 hp2
  go_wp2_with fail
  refine (oneQC_any _ hp3 (HRL.out _ (by simp))).mono ?_
  rintro e w5 ht
  obtain ⟨c3, b3, rfl, h13, hl3, hc3, hp4, ho3⟩ := ht.agg (fun _ => rfl)
  have hl3 : c3.length = 37 := hl3
  have hgl3 := hp3.lt
  have hz5 := Nat.le_trans hz4 hc3.size
  have HO3 := Lib.hid ho3
  have HC3 := Lib.hid hc3
  have H13 := Lib.hid h13
  have HL3 := Lib.hid hl3
  clear hl3
  clear ht ho3 hc3 h13 hp3
  go_wp2_with fail
  refine (int_any _ hp4).mono ?_
  rintro e w6 ht
  obtain ⟨y4, b4, rfl, h14, hc4, hp5, ho4⟩ := ht.one (fun _ => rfl) rfl
  have hgl4 := hp4.lt
  have hz6 := Nat.le_trans hz5 hc4.size
  have HO4 := Lib.hid ho4
  have HC4 := Lib.hid hc4
  have H14 := Lib.hid h14
  clear ht ho4 hc4 h14 hp4
  go_wp2_with fail
  refine (oneSig_any _ hp5 (HRL.out _ (by simp))).mono ?_
  rintro e w7 ht
  obtain ⟨c5, b5, rfl, h15, hl5, hc5, hp6, ho5⟩ := ht.agg (fun _ => rfl)
  have hl5 : c5.length = 33 := hl5
  have hgl5 := hp5.lt
  have hz7 := Nat.le_trans hz6 hc5.size
  have HO5 := Lib.hid ho5
  have HC5 := Lib.hid hc5
  have H15 := Lib.hid h15
  have HL5 := Lib.hid hl5
  clear hl5
  clear ht ho5 hc5 h15 hp5
  have hbu := run_struct (P := Tryz.prog) (vs := [y0, y1, y2, .agg c3.toArray, y4, .agg c5.toArray]) (cs := [[y0], [y1], [y2], c3, [y4], c5]) info_readTimeout places_readTimeout ⟨cells_one H10.out, cells_one H11.out, cells_one H12.out, rfl, cells_one H14.out, rfl, trivial⟩ (by simp [PlaceOk, HL3.out, HL5.out]) (by simp [HL3.out, HL5.out]) #[(0, y0), (1, y1), (2, y2), (3, .agg c3.toArray), (4, y4), (5, .agg c5.toArray)] rfl
  have hone : ∀ v ∈ [[y0], [y1], [y2], c3, [y4], c5].flatten, v.oneCell' = true := by
    intro v hv
    simp only [List.flatten_cons, List.flatten_nil, List.mem_append, List.mem_singleton, List.not_mem_nil, or_false] at hv
    rcases hv with rfl | rfl | rfl | hv | rfl | hv
    · exact H10.out
    · exact H11.out
    · exact H12.out
    · exact H13.out v hv
    · exact H14.out
    · exact H15.out v hv
  have HOUT := Lib.hid (show Fs.Out (.cons i64 (.cons i64 (.cons i64 (.cons tQC (.cons i64 (.cons tSig .nil)))))) w7 (Nw (w.heap.size + 1) w7) [r0, r1, r2, r3, r4, r5] [[y0], [y1], [y2], c3, [y4], c5].flatten bad b5 from by
    have := Fs.Out.step HO0.out (Fs.Out.step HO1.out (Fs.Out.step HO2.out (Fs.Out.step HO3.out (Fs.Out.step HO4.out (Fs.Out.step HO5.out (Fs.Out.nil_ w7 _ _) (Chg.refl _ _) hgl5 hz6) HC5.out hgl4 hz5) (HC4.out.trans HC5.out fun b h => .inl h) hgl3 hz4) ((HC3.out.trans HC4.out fun b h => .inl h).trans HC5.out fun b h => .inl h) hgl2 hz3) (((HC2.out.trans HC3.out fun b h => .inl h).trans HC4.out fun b h => .inl h).trans HC5.out fun b h => .inl h) hgl1 hz2) ((((HC1.out.trans HC2.out fun b h => .inl h).trans HC3.out fun b h => .inl h).trans HC4.out fun b h => .inl h).trans HC5.out fun b h => .inl h) hgl0 hz1
    simpa using this)
  have HCA := Lib.hid (show Chg (fun k => k = g) w1 w7 from (((((HC0.out.trans HC1.out fun b h => .inl h).trans HC2.out fun b h => .inl h).trans HC3.out fun b h => .inl h).trans HC4.out fun b h => .inl h).trans HC5.out fun b h => .inl h))
  have hcl : [[y0], [y1], [y2], c3, [y4], c5].flatten.length = 74 := by simp [HL3.out, HL5.out]
  obtain ⟨C, hC⟩ : ∃ C, C = [[y0], [y1], [y2], c3, [y4], c5].flatten := ⟨_, rfl⟩
  rw [← hC] at hbu hone hcl HOUT
  have HBU := Lib.hid hbu
  have HONE := Lib.hid hone
  have HCL := Lib.hid hcl
  have HI := Lib.hid (show (Tryz.prog.info? 97).map (·.size) = some C.length from by rw [hcl]; exact size_readTimeout)
  have HK2 := Lib.hid (HK.out.chg HCA.out (show ¬ w.heap.size = g from by omega))
  clear hbu hone hcl hC HK HO0 HC0 H10 HO1 HC1 H11 HO2 HC2 H12 HO3 HC3 H13 HO4 HC4 H14 HO5 HC5 H15 HL3 HL5
  have HP := Lib.hid hp6
  have hgX := hp6.lt
  clear hp6
  have hbu := HBU.out w7
  have HX := Lib.hid (HP.out.parts)
  go_wp2_with (first | (refine wpList_build_ rfl 97 _ rfl #[(0, y0), (1, y1), (2, y2), (3, .agg c3.toArray), (4, y4), (5, .agg c5.toArray)] (by simp [Act.eval]) _ hbu ?_) | (refine wpList_store_blk (cs0 := ([.int .i64 0, .int .i64 0, .int .i64 0] ++ ([.int .i64 0, .int .i64 0, .int .i64 0] ++ List.replicate 32 (.int .u8 0) ++ [.slice none 0 0, .slice none 0 0]) ++ [.int .i64 0] ++ ([.int .i64 0] ++ List.replicate 32 (.int .u8 0)) : List Value)) (cs := C) rfl 97 _ _ rfl (Blk.new w7 _ _) rfl rfl (by rw [HCL.out]; rfl) HI.out HONE.out ?_; intro wx hbx hcx; have HBX := Lib.hid hbx; have HCX := Lib.hid hcx; clear hbx hcx))
  obtain ⟨vy, ey, hblk, herr⟩ := HX.out
  have HCX' := Lib.hid (show Chg (fun _ => False) w7 wx from ((Chg.refl _ w7).alloc _).trans HCX.out fun b h => .inr (Nat.le_of_eq h.symm))
  have HGX := Lib.hid (hblk.chg HCX'.out id)
  have HKX := Lib.hid (HK2.out.chg HCX'.out id)
  have HE := Lib.hid herr
  clear hbu hblk herr HX HBU
  refine wp_region_hoist [0, 1, 2, 3, 4] [5] [6] (fun w' => Blk w' w7.heap.size 97 C.toArray ∧ Blk w' g 168 #[vy, ey])
    (by kernel_rfl) (by kernel_rfl) (by kernel_rfl) (by kernel_rfl) (by kernel_rfl) (by kernel_rfl) ⟨HBX.out.drew, HGX.out.drew⟩ ?_
  (refine HoistK.load (by rfl) (by kernel_rfl) 97 _ rfl w7.heap.size 0 rfl C _ (fun w' hw => hw.1.range) Tryz.underlying97 rfl HI.out ?_; simp only [Act.put, setIfInBounds_toArray, getElem_toArray, getElem_cons_zero, set_cons_succ, set_cons_zero])
  iterate 3 (refine HoistK.yes (by rfl) (by kernel_rfl) ⟨?_, fun w' hSw => ?_, ?_⟩; rotate_left; (· go_simp; try with_reducible rfl); simp only [Act.put, setIfInBounds_toArray, getElem_toArray, getElem_cons_succ, getElem_cons_zero, set_cons_succ, set_cons_zero])
  (refine HoistK.yes (by rfl) (by kernel_rfl) ⟨?_, fun w' hSw => ?_, ?_⟩; rotate_left; (· have hcc := hSw.2.cell; go_simp; try with_reducible rfl); simp only [Act.put, setIfInBounds_toArray, getElem_toArray, getElem_cons_succ, getElem_cons_zero, set_cons_succ, set_cons_zero])
  refine HoistK.nil_ ?_
  simp only [opsAt, filterMap_cons, filterMap_nil, getElem?_toArray, getElem?_cons_succ, getElem?_cons_zero]
  refine Effects.cons_ fun _ hQ1 => ?_
  go_wp2_with (refine wpList_store_blk (cs0 := ([.int .i64 0, .int .i64 0, .int .i64 0] ++ ([.int .i64 0, .int .i64 0, .int .i64 0] ++ List.replicate 32 (.int .u8 0) ++ [.slice none 0 0, .slice none 0 0]) ++ [.int .i64 0] ++ ([.int .i64 0] ++ List.replicate 32 (.int .u8 0)) : List Value)) (cs := C) rfl 97 _ _ rfl HKX.out.drew rfl rfl (by rw [HCL.out]; rfl) HI.out HONE.out ?_; intro wy hby hcy; have HBY := Lib.hid hby; have HCY := Lib.hid hcy; clear hby hcy)
  refine hQ1 _ _ ⟨HBX.out.drew.chg HCY.out (fun h => by omega), HGX.out.drew.chg HCY.out (fun h => by omega)⟩ (Effects.nil_ fun _ hQ2 => ?_)
  go_wp2
  have hld := run_loadVar_mid (P := Tryz.prog) wy w.heap.size 0 97 C _ HBY.out.range Tryz.underlying97 rfl HI.out
  refine bodyPost_ret (v := .tuple #[.agg C.toArray, ey]) (by simp [results, Tryz.results67, asAddr, hld]) rfl ?_
  have hcf : Chg (fun b => b = w.heap.size) w7 wy := ((HCX'.out.mono fun _ h => h.elim).drew).trans HCY.out fun b h => .inl h
  exact ReadOut.mk (n := 6) HOUT.out HSS.out rfl HE.out (HB1.out.trans (HCA.out.below HB1.out.size fun b h => by omega)) hcf
end
section
open Go.RowKit Go.Maps
attribute [-simp] Tryz.isAgg36 Tryz.typeInfo36 Tryz.isAgg97 Tryz.typeInfo97
def zFTimeout : List Value := ([.int .i64 0, .int .i64 0, .int .i64 0] ++ ([.int .i64 0, .int .i64 0, .int .i64 0] ++ List.replicate 32 (.int .u8 0) ++ [.slice none 0 0, .slice none 0 0]) ++ [.int .i64 0] ++ ([.int .i64 0] ++ List.replicate 32 (.int .u8 0)) : List Value)
set_option maxRecDepth 100000 in
theorem one_faceTimeout : ∀ v ∈ zFTimeout, v.oneCell' = true := by decide
set_option maxRecDepth 100000 in
theorem len_faceTimeout : zFTimeout.length = 74 := by decide
theorem size_faceTimeout : (Tryz.prog.info? 97).map (·.size) = some zFTimeout.length := by kernel_rfl
set_option maxHeartbeats 8000000 in
set_option maxRecDepth 100000 in
theorem faceTimeout_any (w : World) {S : Nat → Prop} {v sent : Value} {bs : List UInt8} (h : Bs w S v bs) (hp : Pk w sent) :
    Calls Tryz.prog 66 #[v, .func (Fn.func 67) #[] #[]] w (FaceOutN tTimeout zFTimeout w bs) := by
  obtain ⟨A, cap, rfl⟩ := h.form
  have hal1 := (Below.refl w.heap.size w).alloc (Nat.le_refl _) (.cells (zFTimeout).toArray 97)
  have hal2 := hal1.alloc (by simp) (.cells (zFTimeout).toArray 97)
  have hr0 := (Blk.new w 97 (zFTimeout).toArray).alloc (.cells (zFTimeout).toArray 97)
  have hz0 := Blk.new (w.alloc (.cells (zFTimeout).toArray 97)) 97 (zFTimeout).toArray
  rw [show (w.alloc (.cells (zFTimeout).toArray 97)).heap.size = w.heap.size + 1 by simp] at hz0
  by_cases hbig : 262144 < bs.length
  · obtain ⟨sb, hsb⟩ : ∃ sb, w.cell? ⟨0, 0, none⟩ = some (.iface 237 (.pointer (some sb))) := by
      obtain ⟨_, _, b, _, _, _, _, _, _, _, _, h, _⟩ := hp
      exact ⟨b, h⟩
    have hgb : ∀ {W : World}, Below w.heap.size w W → W.cell? ⟨0, 0, none⟩ = some (.iface 237 (.pointer (some sb))) := fun hb => cell_low hsb hb
    clear h
    go_enter Tryz.func66, Tryz.ntmps66
    go_wp2_with fail
    have hb := hal2.drew
    have hr : Blk _ _ _ _ := hr0.drew
    have hz : Blk _ _ _ _ := hz0.drew
    clear hal1 hal2 hz0 hsb
    refine wp_region_hoist [0, 1, 2] [3, 4, 5] [6, 7] (fun w' => Blk w' (w.heap.size + 1) 97 (zFTimeout).toArray ∧ w'.cell? ⟨0, 0, none⟩ = some (.iface 237 (.pointer (some sb)))) (by kernel_rfl) (by kernel_rfl) (by kernel_rfl) (by kernel_rfl) (by kernel_rfl) (by kernel_rfl) ⟨hz, hgb hb⟩ ?_
    (refine HoistK.load (by rfl) (by kernel_rfl) 97 _ rfl (w.heap.size + 1) 0 rfl zFTimeout _ (fun w' hw => hw.1.range) Tryz.underlying97 rfl size_faceTimeout ?_; simp only [Act.put, setIfInBounds_toArray, getElem_toArray, getElem_cons_zero, set_cons_succ, set_cons_zero])
    (refine HoistK.yes (by rfl) (by kernel_rfl) ⟨?_, fun w' hSw => ?_, ?_⟩; rotate_left; (· have hcc := hSw.2; go_simp; try with_reducible rfl); simp only [Act.put, setIfInBounds_toArray, getElem_toArray, getElem_cons_succ, getElem_cons_zero, set_cons_succ, set_cons_zero])
    (refine HoistK.yes (by rfl) (by kernel_rfl) ⟨?_, fun w' hSw => ?_, ?_⟩; rotate_left; (· go_simp; try with_reducible rfl); simp only [Act.put, setIfInBounds_toArray, getElem_toArray, getElem_cons_succ, getElem_cons_zero, set_cons_succ, set_cons_zero])
    refine HoistK.nil_ ?_
    simp only [opsAt, filterMap_cons, filterMap_nil, getElem?_toArray, getElem?_cons_succ, getElem?_cons_zero]
    refine Effects.world (F := fun W => Below w.heap.size w W ∧ Blk W w.heap.size 97 (zFTimeout).toArray ∧ Blk W (w.heap.size + 1) 97 (zFTimeout).toArray) (fun W hF => ?_) ⟨hb, hr, hz⟩
    clear hb hr hz hr0
    obtain ⟨hb, hr, hz⟩ := hF
    refine Effects.cons_ fun _ hQ => ?_
    have hzl := hz.lt
    go_wp2_with fail
    have hk := Blk.new W 158 #[.string ⟨#[97, 108, 108]⟩, .iface 237 (.pointer (some sb))]
    replace hb := hb.alloc hb.size (.cells #[.string ⟨#[97, 108, 108]⟩, .iface 237 (.pointer (some sb))] 158)
    replace hr := hr.alloc (.cells #[.string ⟨#[97, 108, 108]⟩, .iface 237 (.pointer (some sb))] 158)
    replace hz := hz.alloc (.cells #[.string ⟨#[97, 108, 108]⟩, .iface 237 (.pointer (some sb))] 158)
    obtain ⟨gg, hgg⟩ : ∃ gg, gg = W.heap.size := ⟨_, rfl⟩
    have hgn : gg ≠ w.heap.size := by omega
    rw [← hgg] at hk ⊢
    have HGG := Lib.hid hgg; clear hgg
    generalize W.alloc (.cells #[.string ⟨#[97, 108, 108]⟩, .iface 237 (.pointer (some sb))] 158) = W1 at *
    refine hQ _ _ ⟨hz, hgb hb⟩ (Effects.cons_ fun _ hQ => ?_)
    go_wp2_with fail
    refine hQ _ _ ⟨hz, hgb hb⟩ (Effects.cons_ fun _ hQ => ?_)
    go_wp2_with fail
    refine (told_any (r := true) _ (hp.below hb) ⟨gg, 1, _, rfl, .more hk .last, hgb hb⟩).mono ?_
    rintro e W2 ⟨rfl, hb2⟩
    replace hb := hb.trans (hb2.mono hb.size)
    replace hr := hr.below hb2 hr.lt
    replace hz := hz.below hb2 hz.lt
    replace hk := hk.below hb2 hk.lt
    go_wp2_with fail
    refine hQ _ _ ⟨hz, hgb hb⟩ (Effects.nil_ fun _ hQ => ?_)
    refine wpList_store_blk (cs0 := zFTimeout) (cs := zFTimeout) rfl 97 _ _ rfl hr rfl rfl rfl size_faceTimeout one_faceTimeout ?_
    intro W3 hr3 hc3
    go_wp2_with fail
    replace hb := hb.trans (hc3.below hb.size fun b h => Nat.le_of_eq h.symm)
    have hld := run_loadVar_mid (P := Tryz.prog) _ w.heap.size 0 97 zFTimeout _ hr3.range Tryz.underlying97 rfl size_faceTimeout
    exact bodyPost_ret (v := .tuple #[.agg (zFTimeout).toArray, .int .i64 4]) (by simp [results, Tryz.results66, asAddr, hld]) rfl ⟨hb, _, 4, rfl, len_faceTimeout, one_faceTimeout, .inl ⟨hbig, rfl, rfl⟩⟩
  · have hlen : bs.length ≤ 262144 := by omega
    have HR := Lib.hid (readTimeout_any _ (h.below hal2) hlen (hp.1.below hal2))
    have HA := Lib.hid hal2
    have HR0 := Lib.hid hr0
    have HZ0 := Lib.hid hz0
    clear h hal1 hal2 hr0 hz0
    go_enter Tryz.func66, Tryz.ntmps66
    go_wp2_with fail
    refine HR.out.mono ?_
    rintro e w2 hro
    obtain ⟨C, err, bd, rfl, h1, hl, hb2, he, ho⟩ := hro.agg (fun _ => rfl)
    have hl : C.length = 74 := hl
    have HL := Lib.hid hl
    have HI := Lib.hid (show (Tryz.prog.info? 97).map (·.size) = some C.length from by rw [hl]; rw [size_faceTimeout, len_faceTimeout])
    have H1 := Lib.hid h1
    have HK := Lib.hid (HR0.out.below hb2 HR0.out.lt)
    have HZ := Lib.hid (HZ0.out.below hb2 HZ0.out.lt)
    have hz2 : w.heap.size + 2 ≤ w2.heap.size := by have := hb2.size; simpa using this
    have HB2 := Lib.hid (HA.out.trans (hb2.mono HA.out.size))
    have HO := Lib.hid (show SOut tTimeout w2 (Nw (w.heap.size + 2) w2) bs C false bd from ho.nw (fun b _ hlt => ⟨hlt, rfl⟩) (by simp))
    have he := he.to (w' := w2) (S' := fun b => w.heap.size + 2 ≤ b) (fun b _ hlt => ⟨hlt, rfl⟩) fun b hb _ => by simpa using hb
    clear hro h1 hl hb2 ho HR HA HR0 HZ0
    rcases he with ⟨rfl, rfl⟩ | ⟨rfl, hch⟩
    · go_wp2_with (first
        | (refine wpList_store_blk (cs0 := zFTimeout) (cs := C) rfl 97 _ _ rfl (Blk.new w2 _ _) rfl rfl (by rw [HL.out]; exact len_faceTimeout) HI.out H1.out ?_; intro w3 hb3 hc3; have HB3 := Lib.hid hb3
           have HC3 := Lib.hid (show Chg (fun _ => False) w2 w3 from ((Chg.refl _ w2).alloc _).trans hc3 fun b h => .inr (Nat.le_of_eq h.symm)); clear hb3 hc3
           have HK3 := Lib.hid (HK.out.chg HC3.out id))
        | (refine wpList_load_blk' rfl 97 _ rfl HB3.out rfl Tryz.underlying97 rfl HI.out ?_)
        | (refine wpList_store_blk (cs0 := zFTimeout) (cs := C) rfl 97 _ _ rfl HK3.out rfl rfl (by rw [HL.out]; exact len_faceTimeout) HI.out H1.out ?_; intro w9 hb9 hc9; have HB9 := Lib.hid hb9; have HC9 := Lib.hid hc9; clear hb9 hc9))
      have hld := run_loadVar_mid (P := Tryz.prog) w9 w.heap.size 0 97 C _ HB9.out.range Tryz.underlying97 rfl HI.out
      refine bodyPost_ret (v := .tuple #[.agg C.toArray, .int .i64 0]) (by simp [results, Tryz.results66, asAddr, hld]) rfl ?_
      obtain ⟨o1, o2, o3⟩ := HO.out
      have hc29 : Chg (fun b => b = w.heap.size) w2 w9 := (HC3.out.mono (M' := fun b => b = w.heap.size) fun _ h => h.elim).trans HC9.out fun b h => .inl h
      refine ⟨HB2.out.trans (hc29.below HB2.out.size fun b h => Nat.le_of_eq h.symm), C, 0, rfl, o1, o2, .inr ⟨hlen, .inl ?_⟩⟩
      rcases o3 with ⟨x, e1, _, e3⟩ | ⟨_, e2⟩
      · exact ⟨x, e1, rfl, Sh.rep_to (fun b hb hlt => ⟨ltle hlt hc29.size, hc29.block b hlt fun e => by have := hb.1; omega⟩) (fun b hb hlt => hb.to (by omega) (hc29.block b hlt fun e => by have := hb.1; omega)) _ _ _ e3⟩
      · cases e2
    · obtain ⟨gw, rfl⟩ := hch.form
      have HCH := Lib.hid hch; clear hch
      have hno : Sh.dec tTimeout bs = none := by
        obtain ⟨_, _, o3⟩ := HO.out
        rcases o3 with ⟨x, _, e2, _⟩ | ⟨e1, _⟩
        · cases e2
        · exact e1
      have HNO := Lib.hid hno; clear hno
      go_wp2_with (refine wpList_store_blk (cs0 := zFTimeout) (cs := C) rfl 97 _ _ rfl (Blk.new w2 _ _) rfl rfl (by rw [HL.out]; exact len_faceTimeout) HI.out H1.out ?_; intro w3 hb3 hc3; have HC3 := Lib.hid (show Chg (fun _ => False) w2 w3 from ((Chg.refl _ w2).alloc _).trans hc3 fun b h => .inr (Nat.le_of_eq h.symm)); clear hb3 hc3)
      have hr : Blk _ _ _ _ := (HK.out.chg HC3.out id).drew
      have hz : Blk _ _ _ _ := (HZ.out.chg HC3.out id).drew
      have hb := (HB2.out.trans (HC3.out.below HB2.out.size fun b h => h.elim)).drew
      have hch3 := HCH.out.to (w' := w3.drew) (S' := fun b => w.heap.size + 2 ≤ b) (fun b hb hlt => ⟨ltle hlt HC3.out.size, HC3.out.block b hlt id⟩) fun b hb _ => hb
      have hz3 : w.heap.size + 2 ≤ w3.drew.heap.size := Nat.le_trans hz2 HC3.out.size
      refine wp_region_hoist [0, 1] [2] [3, 4] (fun w' => Blk w' (w.heap.size + 1) 97 (zFTimeout).toArray) (by kernel_rfl) (by kernel_rfl) (by kernel_rfl) (by kernel_rfl) (by kernel_rfl) (by kernel_rfl) hz ?_
      (refine HoistK.load (by rfl) (by kernel_rfl) 97 _ rfl (w.heap.size + 1) 0 rfl zFTimeout _ (fun w' hw => hw.range) Tryz.underlying97 rfl size_faceTimeout ?_; simp only [Act.put, setIfInBounds_toArray, getElem_toArray, getElem_cons_zero, set_cons_succ, set_cons_zero])
      (refine HoistK.yes (by rfl) (by kernel_rfl) ⟨?_, fun w' hSw => ?_, ?_⟩; rotate_left; (· go_simp; try with_reducible rfl); simp only [Act.put, setIfInBounds_toArray, getElem_toArray, getElem_cons_succ, getElem_cons_zero, set_cons_succ, set_cons_zero])
      refine HoistK.nil_ ?_
      simp only [opsAt, filterMap_cons, filterMap_nil, getElem?_toArray, getElem?_cons_succ, getElem?_cons_zero]
      refine Effects.world (F := fun W => Below w.heap.size w W ∧ Blk W w.heap.size 97 (zFTimeout).toArray ∧ Blk W (w.heap.size + 1) 97 (zFTimeout).toArray ∧ Chain W (fun b => w.heap.size + 2 ≤ b) sent (.iface 154 (.pointer (some ⟨gw, 0, none⟩)))) (fun W hF => ?_) ⟨hb, hr, hz, hch3⟩
      clear hb hr hz hch3 hz3
      obtain ⟨hb, hr, hz, hch⟩ := hF
      refine Effects.cons_ fun _ hQ => ?_
      go_wp2_with fail
      refine (told_any (r := false) _ (hp.below hb) (Wr.of_chain hch)).mono ?_
      rintro e W2 ⟨rfl, hb2⟩
      replace hb := hb.trans (hb2.mono hb.size)
      replace hr := hr.below hb2 hr.lt
      replace hz := hz.below hb2 hz.lt
      go_wp2_with fail
      refine hQ _ _ hz (Effects.nil_ fun _ hQ => ?_)
      refine wpList_store_blk (cs0 := zFTimeout) (cs := zFTimeout) rfl 97 _ _ rfl hr rfl rfl rfl size_faceTimeout one_faceTimeout ?_
      intro W3 hr3 hc3
      go_wp2_with fail
      replace hb := hb.trans (hc3.below hb.size fun b h => Nat.le_of_eq h.symm)
      have hld := run_loadVar_mid (P := Tryz.prog) _ w.heap.size 0 97 zFTimeout _ hr3.range Tryz.underlying97 rfl size_faceTimeout
      exact bodyPost_ret (v := .tuple #[.agg (zFTimeout).toArray, .int .i64 5]) (by simp [results, Tryz.results66, asAddr, hld]) rfl ⟨hb, _, 5, rfl, len_faceTimeout, one_faceTimeout, .inr ⟨hlen, .inr ⟨HNO.out, rfl, rfl⟩⟩⟩
set_option maxHeartbeats 4000000 in
set_option maxRecDepth 100000 in
theorem ReadTimeout_anyN (w : World) {S : Nat → Prop} {v sent : Value} {bs : List UInt8} (h : Bs w S v bs) (hp : Pk w sent) :
    Calls Tryz.prog 31 #[v] w (FaceOutN tTimeout zFTimeout w bs) := by
  have hal1 := (Below.refl w.heap.size w).alloc (Nat.le_refl _) (.cells (zFTimeout).toArray 97)
  have HF := Lib.hid (faceTimeout_any _ (h.below hal1) (hp.below hal1))
  have HR := Lib.hid (Blk.new w 97 (zFTimeout).toArray)
  have HA := Lib.hid hal1
  obtain ⟨A, cap, rfl⟩ := h.form
  clear h hp hal1
  go_enter Tryz.func31, Tryz.ntmps31
  go_wp2_with fail
  refine HF.out.mono ?_
  rintro e w1 ⟨hb, C, n, rfl, hl, h1, hn⟩
  have hl : C.length = 74 := hl
  have HL := Lib.hid hl
  have HI := Lib.hid (show (Tryz.prog.info? 97).map (·.size) = some C.length from by rw [hl]; rw [size_faceTimeout, len_faceTimeout])
  have H1 := Lib.hid h1
  have hlz : (zFTimeout).length = C.length := by rw [hl, len_faceTimeout]
  have HLZ := Lib.hid hlz
  have HK := Lib.hid (HR.out.below hb (by simp))
  have HB := Lib.hid hb
  have HN := Lib.hid hn
  have hz1 : w.heap.size + 1 ≤ w1.heap.size := by have := hb.size; simpa using this
  clear hl h1 hlz hb hn HF HR
  go_wp2_with (refine wpList_store_blk (cs0 := zFTimeout) (cs := C) rfl 97 _ _ rfl HK.out rfl rfl HLZ.out HI.out H1.out ?_; intro w9 hb9 hc9; have HB9 := Lib.hid hb9; have HC9 := Lib.hid hc9; clear hb9 hc9)
  have hld := run_loadVar_mid (P := Tryz.prog) w9 w.heap.size 0 97 C _ HB9.out.range Tryz.underlying97 rfl HI.out
  refine bodyPost_ret (v := .tuple #[.agg C.toArray, .int .i64 n]) (by simp [results, Tryz.results31, asAddr, hld]) rfl ?_
  have hbw := HA.out.trans (HB.out.mono HA.out.size)
  refine ⟨hbw.trans (HC9.out.below hbw.size fun b h => Nat.le_of_eq h.symm), C, n, rfl, HL.out, H1.out, HN.out.imp id fun ⟨q1, q2⟩ => ⟨q1, q2.imp (fun ⟨x, e1, e2, e3⟩ => ⟨x, e1, e2, ?_⟩) id⟩⟩
  exact Sh.rep_to (fun b hb hlt => ⟨ltle hlt HC9.out.size, HC9.out.block b hlt fun e => by have hb := hb.1; simp at hb; omega⟩) (fun b hb hlt => hb.to (by simp) (HC9.out.block b hlt fun e => by have hb := hb.1; simp at hb; omega)) _ _ _ e3
theorem ReadTimeout_any (w : World) {S : Nat → Prop} {v sent : Value} {bs : List UInt8} (h : Bs w S v bs) (hp : Pk w sent) :
    Calls Tryz.prog 31 #[v] w (FaceOut tTimeout w bs) :=
  (ReadTimeout_anyN w h hp).mono fun _ _ h => h.weak
end
section
open Go.RowKit Go.Maps
attribute [-simp] Tryz.isAgg36 Tryz.typeInfo36 Tryz.isAgg81 Tryz.typeInfo81 Tryz.isAgg46 Tryz.typeInfo46
set_option maxHeartbeats 8000000 in
set_option maxRecDepth 100000 in
theorem rTimeout_any (w : World) {S : Nat → Prop} {x : tTimeout.El} {cs : List Value} (h : tTimeout.rep w S x cs) (hl : (tTimeout.enc x).length ≤ 1099511627776) :
    Calls Tryz.prog 33 #[.agg cs.toArray] w fun e w' => ∃ v', e = .returned v' ∧ Fresh w w' v' (tTimeout.enc x) := by
  obtain ⟨x0, x1, x2, x3, x4, x5, _⟩ := x
  obtain ⟨c0, _, rfl, ⟨rfl, _⟩, c1, _, rfl, ⟨rfl, _⟩, c2, _, rfl, ⟨rfl, _⟩, c3, _, rfl, r3, c4, _, rfl, ⟨rfl, _⟩, c5, _, rfl, r5, rfl⟩ := h
  have l3 : c3.length = 37 := Sh.rep_size _ _ _ r3
  obtain ⟨y3, hy3⟩ : ∃ y, y = c3 := ⟨_, rfl⟩
  subst hy3
  have l5 : c5.length = 33 := Sh.rep_size _ _ _ r5
  obtain ⟨y5, hy5⟩ : ∃ y, y = c5 := ⟨_, rfl⟩
  subst hy5
  have R3 := Lib.hid r3; clear r3
  have R5 := Lib.hid r5; clear r5
  simp only [nk_t]
  obtain ⟨C, hC⟩ : ∃ C, C = [Value.int .i64 x0] ++ ([Value.int .i64 x1] ++ ([Value.int .i64 x2] ++ (y3 ++ ([Value.int .i64 x4] ++ (y5 ++ ([])))))) := ⟨_, rfl⟩
  rw [← hC]
  have hf : ∀ w', Blk w' w.heap.size 97 C.toArray → w'.cell? ⟨w.heap.size, 0, none⟩ = some (.int .i64 x0) ∧ w'.cell? ⟨w.heap.size, 1, none⟩ = some (.int .i64 x1) ∧ w'.cell? ⟨w.heap.size, 2, none⟩ = some (.int .i64 x2) ∧ w'.rangeAt w.heap.size 3 y3 ∧ w'.cell? ⟨w.heap.size, 40, none⟩ = some (.int .i64 x4) ∧ w'.rangeAt w.heap.size 41 y5 := fun w' hb => by
    have := hb.lies [[Value.int .i64 x0], [Value.int .i64 x1], [Value.int .i64 x2], y3, [Value.int .i64 x4], y5] [] (by rw [hC]; simp)
    simp only [Lies, l3, List.length_cons, List.length_nil] at this
    obtain ⟨s0, s1, s2, s3, s4, s5, _⟩ := this
    exact ⟨Lies.one s0, Lies.one s1, Lies.one s2, s3, Lies.one s4, s5⟩
  have HF := Lib.hid hf
  clear hf hC
  have L3 := Lib.hid l3; clear l3
  have L5 := Lib.hid l5; clear l5
  have hl' : (joinB [numB x0, numB x1, numB x2, tQC.enc x3, numB x4, tSig.enc x5]).length ≤ 1099511627776 := hl
  have HLL := Lib.hid hl'
  clear hl hl'
  go_enter Tryz.func33, Tryz.ntmps33
  go_wp2_with fail
  have hsz := (Blk.new w 97 C.toArray).lt
  have hb0 : Blk (w.alloc (.cells C.toArray 97)).drew w.heap.size 97 C.toArray := (Blk.new w 97 C.toArray).drew
  have hbw : Below w.heap.size w (w.alloc (.cells C.toArray 97)).drew := ((Below.refl w.heap.size w).alloc (Nat.le_refl _) _).drew
  refine wp_region_hoist [0, 1, 2, 4, 5, 6, 8, 9, 10, 12, 13, 15, 16, 17, 19, 20] [3, 7, 11, 14, 18, 21] [22, 23, 24] (fun w' => Blk w' w.heap.size 97 C.toArray)
    (by kernel_rfl) (by kernel_rfl) (by kernel_rfl) (by kernel_rfl) (by kernel_rfl) (by kernel_rfl) hb0 ?_
  (refine HoistK.yes (by rfl) (by kernel_rfl) ⟨?_, fun w' hSw => ?_, ?_⟩; rotate_left; (· go_simp; try with_reducible rfl); simp only [Act.put, setIfInBounds_toArray, getElem_toArray, getElem_cons_zero, set_cons_succ, set_cons_zero])
  (refine HoistK.yes (by rfl) (by kernel_rfl) ⟨?_, fun w' hSw => ?_, ?_⟩; rotate_left; (· obtain ⟨s0, s1, s2, s3, s4, s5⟩ := HF.out _ hSw; go_simp; try with_reducible rfl); simp only [Act.put, setIfInBounds_toArray, getElem_toArray, getElem_cons_succ, getElem_cons_zero, set_cons_succ, set_cons_zero])
  iterate 2 (refine HoistK.yes (by rfl) (by kernel_rfl) ⟨?_, fun w' hSw => ?_, ?_⟩; rotate_left; (· go_simp; try with_reducible rfl); simp only [Act.put, setIfInBounds_toArray, getElem_toArray, getElem_cons_succ, getElem_cons_zero, set_cons_succ, set_cons_zero])
  (refine HoistK.yes (by rfl) (by kernel_rfl) ⟨?_, fun w' hSw => ?_, ?_⟩; rotate_left; (· obtain ⟨s0, s1, s2, s3, s4, s5⟩ := HF.out _ hSw; go_simp; try with_reducible rfl); simp only [Act.put, setIfInBounds_toArray, getElem_toArray, getElem_cons_succ, getElem_cons_zero, set_cons_succ, set_cons_zero])
  iterate 2 (refine HoistK.yes (by rfl) (by kernel_rfl) ⟨?_, fun w' hSw => ?_, ?_⟩; rotate_left; (· go_simp; try with_reducible rfl); simp only [Act.put, setIfInBounds_toArray, getElem_toArray, getElem_cons_succ, getElem_cons_zero, set_cons_succ, set_cons_zero])
  (refine HoistK.yes (by rfl) (by kernel_rfl) ⟨?_, fun w' hSw => ?_, ?_⟩; rotate_left; (· obtain ⟨s0, s1, s2, s3, s4, s5⟩ := HF.out _ hSw; go_simp; try with_reducible rfl); simp only [Act.put, setIfInBounds_toArray, getElem_toArray, getElem_cons_succ, getElem_cons_zero, set_cons_succ, set_cons_zero])
  iterate 2 (refine HoistK.yes (by rfl) (by kernel_rfl) ⟨?_, fun w' hSw => ?_, ?_⟩; rotate_left; (· go_simp; try with_reducible rfl); simp only [Act.put, setIfInBounds_toArray, getElem_toArray, getElem_cons_succ, getElem_cons_zero, set_cons_succ, set_cons_zero])
  (refine HoistK.load (by rfl) (by kernel_rfl) 46 _ rfl w.heap.size 3 rfl (y3) _ (fun w' hw => (HF.out w' hw).2.2.2.1) Tryz.underlying46 rfl (by rw [L3.out]; kernel_rfl) ?_; simp only [Act.put, setIfInBounds_toArray, getElem_toArray, getElem_cons_succ, getElem_cons_zero, set_cons_succ, set_cons_zero])
  (refine HoistK.yes (by rfl) (by kernel_rfl) ⟨?_, fun w' hSw => ?_, ?_⟩; rotate_left; (· go_simp; try with_reducible rfl); simp only [Act.put, setIfInBounds_toArray, getElem_toArray, getElem_cons_succ, getElem_cons_zero, set_cons_succ, set_cons_zero])
  (refine HoistK.yes (by rfl) (by kernel_rfl) ⟨?_, fun w' hSw => ?_, ?_⟩; rotate_left; (· obtain ⟨s0, s1, s2, s3, s4, s5⟩ := HF.out _ hSw; go_simp; try with_reducible rfl); simp only [Act.put, setIfInBounds_toArray, getElem_toArray, getElem_cons_succ, getElem_cons_zero, set_cons_succ, set_cons_zero])
  iterate 2 (refine HoistK.yes (by rfl) (by kernel_rfl) ⟨?_, fun w' hSw => ?_, ?_⟩; rotate_left; (· go_simp; try with_reducible rfl); simp only [Act.put, setIfInBounds_toArray, getElem_toArray, getElem_cons_succ, getElem_cons_zero, set_cons_succ, set_cons_zero])
  (refine HoistK.load (by rfl) (by kernel_rfl) 81 _ rfl w.heap.size 41 rfl (y5) _ (fun w' hw => (HF.out w' hw).2.2.2.2.2) Tryz.underlying81 rfl (by rw [L5.out]; kernel_rfl) ?_; simp only [Act.put, setIfInBounds_toArray, getElem_toArray, getElem_cons_succ, getElem_cons_zero, set_cons_succ, set_cons_zero])
  refine HoistK.nil_ ?_
  simp only [opsAt, filterMap_cons, filterMap_nil, getElem?_toArray, getElem?_cons_succ, getElem?_cons_zero]
  have g0 : Got (w.alloc (.cells C.toArray 97)).drew (w.alloc (.cells C.toArray 97)).drew [] [] := Got.start (Below.refl _ _)
  refine Effects.cons_ fun _ hQ1 => ?_
  go_wp2_with fail
  refine (rNumI_any _ _).mono ?_
  rintro e u1 ⟨v1, rfl, f1⟩
  have g1 := g0.step f1
  have hb1 := hb0.below f1.2 hb0.lt
  clear f1
  go_wp2_with fail
  refine hQ1 _ _ hb1 (Effects.cons_ fun _ hQ2 => ?_)
  clear hQ1 hb0 g0
  go_wp2_with fail
  refine (rNumI_any _ _).mono ?_
  rintro e u2 ⟨v2, rfl, f2⟩
  have g2 := g1.step f2
  have hb2 := hb1.below f2.2 hb1.lt
  clear f2
  go_wp2_with fail
  refine hQ2 _ _ hb2 (Effects.cons_ fun _ hQ3 => ?_)
  clear hQ2 hb1 g1
  go_wp2_with fail
  refine (rNumI_any _ _).mono ?_
  rintro e u3 ⟨v3, rfl, f3⟩
  have g3 := g2.step f3
  have hb3 := hb2.below f3.2 hb2.lt
  clear f3
  go_wp2_with fail
  refine hQ3 _ _ hb3 (Effects.cons_ fun _ hQ4 => ?_)
  clear hQ3 hb2 g2
  go_wp2_with fail
  refine (rQC_any _ (Sh.rep_below R3.out (hbw.trans (g3.1.mono hbw.size))) (by have h1 := HLL.out; rw [joinB_length] at h1; have h2 := joinP_mem (l := [numB x0, numB x1, numB x2, tQC.enc x3, numB x4, tSig.enc x5]) (x := tQC.enc x3) (by simp); omega)).mono ?_
  rintro e u4 ⟨v4, rfl, f4⟩
  have g4 := g3.step f4
  have hb4 := hb3.below f4.2 hb3.lt
  clear f4
  go_wp2_with fail
  refine hQ4 _ _ hb4 (Effects.cons_ fun _ hQ5 => ?_)
  clear hQ4 hb3 g3
  go_wp2_with fail
  refine (rNumI_any _ _).mono ?_
  rintro e u5 ⟨v5, rfl, f5⟩
  have g5 := g4.step f5
  have hb5 := hb4.below f5.2 hb4.lt
  clear f5
  go_wp2_with fail
  refine hQ5 _ _ hb5 (Effects.cons_ fun _ hQ6 => ?_)
  clear hQ5 hb4 g4
  go_wp2_with fail
  refine (rSig_any _ (Sh.rep_below R5.out (hbw.trans (g5.1.mono hbw.size))) (by have h1 := HLL.out; rw [joinB_length] at h1; have h2 := joinP_mem (l := [numB x0, numB x1, numB x2, tQC.enc x3, numB x4, tSig.enc x5]) (x := tSig.enc x5) (by simp); omega)).mono ?_
  rintro e u6 ⟨v6, rfl, f6⟩
  have g6 := g5.step f6
  have hb6 := hb5.below f6.2 hb5.lt
  clear f6
  go_wp2_with fail
  refine hQ6 _ _ hb6 (Effects.nil_ fun _ hQ7 => ?_)
  clear hQ6 hb5 g5
  have hcs : ∀ v ∈ [v1, v2, v3, v4, v5, v6], v.cells = #[v] := fun v hv => by
    obtain ⟨i, hi, rfl⟩ := List.getElem_of_mem hv
    obtain ⟨y, _, hr⟩ := g6.2.get i hi
    obtain ⟨A, c, e⟩ := hr.form
    have e' : [v1, v2, v3, v4, v5, v6][i] = .slice A y.length c := e
    rw [e']; rfl
  refine wpList_rows rfl 6 _ rfl [v1, v2, v3, v4, v5, v6] rfl (by decide) (by decide) hcs (by simp [Act.eval]) ?_
  have hr : Bsr (u6.alloc (.cells [v1, v2, v3, v4, v5, v6].toArray 22)) (fun b => b < u6.heap.size + 1) (.slice (some ⟨u6.heap.size, 0, none⟩) 6 6) [numB x0, numB x1, numB x2, tQC.enc x3, numB x4, tSig.enc x5] := g6.row (by simp [maxLen]) 22
  have hj := rJoin_any _ hr (by have := HLL.out; omega) (fun b hb => by simpa using hb)
  have hbb : Below w.heap.size w (u6.alloc (.cells [v1, v2, v3, v4, v5, v6].toArray 22)) := (hbw.trans (g6.1.mono hbw.size)).alloc (hbw.trans (g6.1.mono hbw.size)).size _
  have HJ := Lib.hid hj
  have HBB := Lib.hid hbb
  clear hj hbb hr g6 hcs
  go_wp2_with fail
  refine HJ.out.mono ?_
  rintro e uz ⟨vz, rfl, fz⟩
  go_wp2_with fail
  go_ret
  exact ⟨vz, rfl, fz.1.sub fun b hb _ => ⟨Nat.le_trans HBB.out.size hb.1, hb.2⟩, HBB.out.trans (fz.2.mono HBB.out.size)⟩
end
section
open Go.RowKit Go.Maps
attribute [-simp] Tryz.isAgg36 Tryz.typeInfo36 Tryz.isAgg81 Tryz.typeInfo81 Tryz.isAgg46 Tryz.typeInfo46 Tryz.isAgg97 Tryz.typeInfo97
def zrTimeout : List Value := (([.int .i64 0] : List Value) ++ (([.int .i64 0] : List Value) ++ (([.int .i64 0] : List Value) ++ (zrQC ++ (([.int .i64 0] : List Value) ++ (zrSig ++ ([] : List Value)))))))
set_option maxRecDepth 100000 in
theorem zrTimeout_one : ∀ v ∈ zrTimeout, v.oneCell' = true := by decide
theorem zrTimeout_len : zrTimeout.length = 74 := by kernel_rfl
theorem zrTimeout_size : (Tryz.prog.info? 97).map (·.size) = some zrTimeout.length := by kernel_rfl
theorem zrTimeout_sizes : (Tryz.prog.info? 97).map (fun i => (i.zero.map (fun z => z.cells.size), i.size)) = some (some 74, 74) := by kernel_rfl
theorem zrTimeout_info : (Tryz.prog.info? 97).map (fun i => (i.zero, i.size, i.bytes)) = some (some (.agg zrTimeout.toArray), 74, 176) := by kernel_rfl
theorem zrTimeout_sized {C : List Value} (h : C.length = 74) : (Tryz.prog.info? 97).map (·.size) = some C.length := by rw [h]; kernel_rfl
set_option maxHeartbeats 8000000 in
set_option maxRecDepth 100000 in
theorem rReadTimeout_any (w : World) {S : Nat → Prop} {v : Value} {bs : List UInt8} (h : Bs w S v bs) (hlen : bs.length ≤ 1099511627776) :
    Calls Tryz.prog 32 #[v] w (RefOutZ tTimeout zrTimeout w bs) := by
  have hal := (Below.refl w.heap.size w).alloc (Nat.le_refl _) (.cells zrTimeout.toArray 97)
  have HS := Lib.hid (rsplit_any _ (h.below hal) hlen)
  have HR := Lib.hid (Blk.new w 97 zrTimeout.toArray)
  have HAL := Lib.hid hal
  have HLEN := Lib.hid hlen
  obtain ⟨A, cap, rfl⟩ := h.form
  clear h hal hlen
  go_enter Tryz.func32, Tryz.ntmps32
  go_wp2_with fail
  refine HS.out.mono ?_
  rintro e w1 ⟨hb1, hsp⟩
  have HR1 := Lib.hid (HR.out.below hb1 HR.out.lt)
  have HB1 := Lib.hid (HAL.out.trans (hb1.mono HAL.out.size))
  have hz01 : w.heap.size + 1 ≤ w1.heap.size := by have := hb1.size; simpa using this
  clear HR HAL HS hb1
  rcases hsp with ⟨hno, rfl⟩ | ⟨v1, l, hsp, rfl, hbss⟩
  · have HNO := Lib.hid (show Sh.dec tTimeout bs = none from by
      show (match splitB bs with | none => none | some l => Fs.decs _ l) = none
      rw [hno])
    have HRR := Lib.hid HR1.out
    have HB0 := Lib.hid HB1.out
    clear hno HR1 HB1
    go_wp2_with (refine wpList_store_blk (cs0 := zrTimeout) (cs := zrTimeout) rfl 97 _ _ rfl HRR.out rfl rfl rfl zrTimeout_size zrTimeout_one ?_; intro w9 hb9 hc9; have HB9 := Lib.hid hb9; have HC9 := Lib.hid hc9; clear hb9 hc9)
    have hld := run_loadVar_mid (P := Tryz.prog) w9 w.heap.size 0 97 zrTimeout _ HB9.out.range Tryz.underlying97 rfl zrTimeout_size
    refine bodyPost_ret (v := .tuple #[.agg (zrTimeout).toArray, .bool false]) (by simp [results, Tryz.results32, asAddr, hld]) rfl ?_
    exact ⟨HB0.out.trans (HC9.out.below HB0.out.size fun b h => Nat.le_of_eq h.symm), _, true, rfl, ⟨zrTimeout_len, zrTimeout_one, .inr ⟨HNO.out, rfl⟩⟩, fun _ => rfl⟩
  by_cases hln : l.length = 6
  rotate_left
  · have HNO := Lib.hid (show Sh.dec tTimeout bs = none from by
      show (match splitB bs with | none => none | some l => Fs.decs _ l) = none
      rw [hsp]
      cases hd : Fs.decs (.cons i64 (.cons i64 (.cons i64 (.cons tQC (.cons i64 (.cons tSig .nil)))))) l with
      | none => exact hd
      | some x => exact absurd (Fs.decs_len _ l x hd) hln)
    have HRR := Lib.hid HR1.out
    have HB0 := Lib.hid HB1.out
    obtain ⟨A1, c1, rfl⟩ := hbss.form
    have hlI : ¬ (l.length : Int) = 6 := by omega
    clear hsp HR1 HB1 hbss
    go_wp2_with (refine wpList_store_blk (cs0 := zrTimeout) (cs := zrTimeout) rfl 97 _ _ rfl HRR.out rfl rfl rfl zrTimeout_size zrTimeout_one ?_; intro w9 hb9 hc9; have HB9 := Lib.hid hb9; have HC9 := Lib.hid hc9; clear hb9 hc9)
    have hld := run_loadVar_mid (P := Tryz.prog) w9 w.heap.size 0 97 zrTimeout _ HB9.out.range Tryz.underlying97 rfl zrTimeout_size
    refine bodyPost_ret (v := .tuple #[.agg (zrTimeout).toArray, .bool false]) (by simp [results, Tryz.results32, asAddr, hld]) rfl ?_
    exact ⟨HB0.out.trans (HC9.out.below HB0.out.size fun b h => Nat.le_of_eq h.symm), _, true, rfl, ⟨zrTimeout_len, zrTimeout_one, .inr ⟨HNO.out, rfl⟩⟩, fun _ => rfl⟩
  have HSP := Lib.hid hsp
  have hrl : ∀ y ∈ l, y.length ≤ 1099511627776 := fun y hy => Nat.le_trans (joinP_mem_le hsp y hy) HLEN.out
  obtain ⟨A1, c1, rfl⟩ := hbss.form
  have hall := Bsr.all (hbss.read fun y hy => by have := hrl y hy; omega) (by omega)
  obtain ⟨r0, r1, r2, r3, r4, r5, rfl⟩ : ∃ r0 r1 r2 r3 r4 r5, l = [r0, r1, r2, r3, r4, r5] := by
    match l, hln with
    | [r0, r1, r2, r3, r4, r5], _ => exact ⟨r0, r1, r2, r3, r4, r5, rfl⟩
  have HRL := Lib.hid hrl
  obtain ⟨ba, oa, rfl, _, hba, hall⟩ := hall
  obtain ⟨A_0, c_0, hc_0, hr_0⟩ := hall 0 r0 rfl
  have HC_0 := Lib.hid hc_0
  have HR_0 := Lib.hid (hr_0.sub (T := fun b => b < w1.heap.size) fun _ _ h => h)
  obtain ⟨A_1, c_1, hc_1, hr_1⟩ := hall 1 r1 rfl
  have HC_1 := Lib.hid hc_1
  have HR_1 := Lib.hid (hr_1.sub (T := fun b => b < w1.heap.size) fun _ _ h => h)
  obtain ⟨A_2, c_2, hc_2, hr_2⟩ := hall 2 r2 rfl
  have HC_2 := Lib.hid hc_2
  have HR_2 := Lib.hid (hr_2.sub (T := fun b => b < w1.heap.size) fun _ _ h => h)
  obtain ⟨A_3, c_3, hc_3, hr_3⟩ := hall 3 r3 rfl
  have HC_3 := Lib.hid hc_3
  have HR_3 := Lib.hid (hr_3.sub (T := fun b => b < w1.heap.size) fun _ _ h => h)
  obtain ⟨A_4, c_4, hc_4, hr_4⟩ := hall 4 r4 rfl
  have HC_4 := Lib.hid hc_4
  have HR_4 := Lib.hid (hr_4.sub (T := fun b => b < w1.heap.size) fun _ _ h => h)
  obtain ⟨A_5, c_5, hc_5, hr_5⟩ := hall 5 r5 rfl
  have HC_5 := Lib.hid hc_5
  have HR_5 := Lib.hid (hr_5.sub (T := fun b => b < w1.heap.size) fun _ _ h => h)
  clear hall hbss hsp hrl hln hc_0 hr_0 hc_1 hr_1 hc_2 hr_2 hc_3 hr_3 hc_4 hr_4 hc_5 hr_5
  go_wp2_with (refine wpList_store_blk (cs0 := zrTimeout) (cs := zrTimeout) rfl 97 _ _ rfl (Blk.new w1 _ _) rfl rfl rfl zrTimeout_size zrTimeout_one ?_; intro w2 hb2 hc2; have HX2 := Lib.hid (show Blk w2 w1.heap.size 97 (([] : List Value) ++ (([.int .i64 0] : List Value) ++ (([.int .i64 0] : List Value) ++ (([.int .i64 0] : List Value) ++ (zrQC ++ (([.int .i64 0] : List Value) ++ (zrSig ++ ([] : List Value)))))))).toArray from hb2); have HP2 := Lib.hid (show Chg (fun b => b = w1.heap.size) w1 w2 from ((Chg.refl _ w1).alloc _).trans hc2 fun b h => .inl h); have hz2 : w1.heap.size + 1 ≤ w2.heap.size := (by have := hb2.lt; omega); have hcl0 : w2.cell? ⟨ba, oa, none⟩ = some (.slice A_0 r0.length c_0) := (World.cell?_of_block (a := ⟨ba, oa, none⟩) (HP2.out.block ba hba (fun e => by have e : ba = w1.heap.size := e; omega))).trans HC_0.out; clear hb2 hc2)
  refine (rnumI_out _ (HR_0.out.chg HP2.out fun b hb h => by have h : b = w1.heap.size := h; omega)).mono ?_
  rintro e wq ⟨hw, m0, g0, rfl, hm0, hsI, hsU⟩
  obtain rfl := hw.symm
  have HS0 := Lib.hid hsI
  clear hsI hsU hcl0
  have HPL0 := Lib.hid (show (([] : List Value)).length = 0 from by simp)
  go_simp
  repeat (first
    | (go_big_may; refine wpList_store_part (pre := ([] : List Value)) (old := ([.int .i64 0] : List Value)) (vals := ([.int .i64 (wrap64 (m0 : Int))] : List Value)) (post := (([.int .i64 0] : List Value) ++ (([.int .i64 0] : List Value) ++ (zrQC ++ (([.int .i64 0] : List Value) ++ (zrSig ++ ([] : List Value))))))) rfl 3 _ _ rfl HX2.out HPL0.out rfl (v := .int .i64 (wrap64 (m0 : Int))) rfl rfl (by simp only [List.length_cons, List.length_nil]) (by kernel_rfl) (fun u hu => by obtain rfl := List.mem_singleton.1 hu; rfl) ?_; intro w3 hbn hcn; have HX3 := Lib.hid hbn; have HC2 := Lib.hid hcn; have HP3 := Lib.hid (HP2.out.trans HC2.out fun b h => .inl h); have hz3 := Nat.le_trans hz2 HC2.out.size; have hcl1 : w3.cell? ⟨ba, oa + 1, none⟩ = some (.slice A_1 r1.length c_1) := (World.cell?_of_block (a := ⟨ba, oa + 1, none⟩) (HP3.out.block ba hba (fun e => by have e : ba = w1.heap.size := e; omega))).trans HC_1.out; clear hbn hcn)
    | go_values | go_skip | go_guarded | go_step | go_upon)
  refine (rnumI_out _ (HR_1.out.chg HP3.out fun b hb h => by have h : b = w1.heap.size := h; omega)).mono ?_
  rintro e wq ⟨hw, m1, g1, rfl, hm1, hsI, hsU⟩
  obtain rfl := hw.symm
  have HS1 := Lib.hid hsI
  clear hsI hsU hcl1
  have HPL1 := Lib.hid (show ((([] : List Value) ++ ([.int .i64 (wrap64 (m0 : Int))] : List Value))).length = 1 from by simp)
  go_simp
  repeat (first
    | ((with_reducible (show wpList _ _ _ (⟨_, .move _, _, _, _, some _⟩ :: _) _ _)); refine wpList_and g0 g1 _ _ _ rfl rfl rfl (by cases g0 <;> rfl) rfl (fun _ => rfl) (fun _ => rfl) ?_; intro vA1 k1 hk1; have HK1 := Lib.hid hk1; clear hk1)
    | (go_big_may; refine wpList_store_part (pre := (([] : List Value) ++ ([.int .i64 (wrap64 (m0 : Int))] : List Value))) (old := ([.int .i64 0] : List Value)) (vals := ([.int .i64 (wrap64 (m1 : Int))] : List Value)) (post := (([.int .i64 0] : List Value) ++ (zrQC ++ (([.int .i64 0] : List Value) ++ (zrSig ++ ([] : List Value)))))) rfl 3 _ _ rfl HX3.out HPL1.out rfl (v := .int .i64 (wrap64 (m1 : Int))) rfl rfl (by simp only [List.length_cons, List.length_nil]) (by kernel_rfl) (fun u hu => by obtain rfl := List.mem_singleton.1 hu; rfl) ?_; intro w4 hbn hcn; have HX4 := Lib.hid hbn; have HC3 := Lib.hid hcn; have HP4 := Lib.hid (HP3.out.trans HC3.out fun b h => .inl h); have hz4 := Nat.le_trans hz3 HC3.out.size; have hcl2 : w4.cell? ⟨ba, oa + 2, none⟩ = some (.slice A_2 r2.length c_2) := (World.cell?_of_block (a := ⟨ba, oa + 2, none⟩) (HP4.out.block ba hba (fun e => by have e : ba = w1.heap.size := e; omega))).trans HC_2.out; clear hbn hcn)
    | go_values | go_skip | go_guarded | go_step | go_upon)
  refine (rnumI_out _ (HR_2.out.chg HP4.out fun b hb h => by have h : b = w1.heap.size := h; omega)).mono ?_
  rintro e wq ⟨hw, m2, g2, rfl, hm2, hsI, hsU⟩
  obtain rfl := hw.symm
  have HS2 := Lib.hid hsI
  clear hsI hsU hcl2
  have HPL2 := Lib.hid (show (((([] : List Value) ++ ([.int .i64 (wrap64 (m0 : Int))] : List Value)) ++ ([.int .i64 (wrap64 (m1 : Int))] : List Value))).length = 2 from by simp)
  go_simp
  repeat (first
    | ((with_reducible (show wpList _ _ _ (⟨_, .move _, _, _, _, some _⟩ :: _) _ _)); refine wpList_and k1 g2 _ _ _ rfl rfl rfl (by cases k1 <;> rfl) rfl (fun _ => rfl) (fun _ => rfl) ?_; intro vA2 k2 hk2; have HK2 := Lib.hid hk2; clear hk2)
    | (go_big_may; refine wpList_store_part (pre := ((([] : List Value) ++ ([.int .i64 (wrap64 (m0 : Int))] : List Value)) ++ ([.int .i64 (wrap64 (m1 : Int))] : List Value))) (old := ([.int .i64 0] : List Value)) (vals := ([.int .i64 (wrap64 (m2 : Int))] : List Value)) (post := (zrQC ++ (([.int .i64 0] : List Value) ++ (zrSig ++ ([] : List Value))))) rfl 2 _ _ rfl HX4.out HPL2.out rfl (v := .int .i64 (wrap64 (m2 : Int))) rfl rfl (by simp only [List.length_cons, List.length_nil]) (by kernel_rfl) (fun u hu => by obtain rfl := List.mem_singleton.1 hu; rfl) ?_; intro w5 hbn hcn; have HX5 := Lib.hid hbn; have HC4 := Lib.hid hcn; have HP5 := Lib.hid (HP4.out.trans HC4.out fun b h => .inl h); have hz5 := Nat.le_trans hz4 HC4.out.size; have hcl3 : w5.cell? ⟨ba, oa + 3, none⟩ = some (.slice A_3 r3.length c_3) := (World.cell?_of_block (a := ⟨ba, oa + 3, none⟩) (HP5.out.block ba hba (fun e => by have e : ba = w1.heap.size := e; omega))).trans HC_3.out; clear hbn hcn)
    | go_values | go_skip | go_guarded | go_step | go_upon)
  refine (rReadQC_any _ (HR_3.out.chg HP5.out fun b hb h => by have h : b = w1.heap.size := h; omega) (HRL.out _ (by simp))).mono ?_
  rintro e wa3 ⟨hba3, q3, g3, rfl, hs3, _⟩
  have hl3 : q3.length = 37 := hs3.1
  have HL3 := Lib.hid hl3
  have H13 := Lib.hid hs3.2.1
  have HI3 := Lib.hid (zrQC_sized hl3)
  have HZ3 := Lib.hid (show (zrQC).length = q3.length from by rw [hl3]; exact zrQC_len)
  have HXa3 := Lib.hid (HX5.out.below hba3 HX5.out.lt)
  have HBA3 := Lib.hid hba3
  have HS3 := Lib.hid hs3
  have hza3 := hba3.size
  clear hba3 hs3 hl3 hcl3
  have HPL3 := Lib.hid (show ((((([] : List Value) ++ ([.int .i64 (wrap64 (m0 : Int))] : List Value)) ++ ([.int .i64 (wrap64 (m1 : Int))] : List Value)) ++ ([.int .i64 (wrap64 (m2 : Int))] : List Value))).length = 3 from by simp)
  go_simp
  repeat (first
    | ((with_reducible (show wpList _ _ _ (⟨_, .move _, _, _, _, some _⟩ :: _) _ _)); refine wpList_and k2 g3 _ _ _ rfl rfl rfl (by cases k2 <;> rfl) rfl (fun _ => rfl) (fun _ => rfl) ?_; intro vA3 k3 hk3; have HK3 := Lib.hid hk3; clear hk3)
    | (go_big_may; refine wpList_store_blk (cs0 := zrQC) (cs := q3) rfl 46 _ _ rfl (Blk.new wa3 _ _) rfl rfl HZ3.out HI3.out H13.out ?_; intro wb3 hbb hcb; have HBB3 := Lib.hid hbb; have HCB3 := Lib.hid (show Chg (fun _ => False) wa3 wb3 from ((Chg.refl _ wa3).alloc _).trans hcb fun b h => .inr (Nat.le_of_eq h.symm)); have HXb3 := Lib.hid (HXa3.out.chg HCB3.out id); clear hbb hcb)
    | (go_big_may; refine wpList_load_blk' rfl 46 _ rfl HBB3.out rfl Tryz.underlying46 rfl HI3.out ?_)
    | (go_big_may; refine wpList_store_part (pre := (((([] : List Value) ++ ([.int .i64 (wrap64 (m0 : Int))] : List Value)) ++ ([.int .i64 (wrap64 (m1 : Int))] : List Value)) ++ ([.int .i64 (wrap64 (m2 : Int))] : List Value))) (old := zrQC) (vals := q3) (post := (([.int .i64 0] : List Value) ++ (zrSig ++ ([] : List Value)))) rfl 46 _ _ rfl HXb3.out HPL3.out rfl (v := .agg q3.toArray) rfl rfl HZ3.out HI3.out H13.out ?_; intro w6 hbn hcn; have HX6 := Lib.hid hbn; have HC5 := Lib.hid (show Chg (fun b => b = w1.heap.size) w5 w6 from (((Chg.of_below HBA3.out fun b => b = w1.heap.size).trans HCB3.out fun b h => h.elim).trans hcn fun b h => .inl h)); have HCD3 := Lib.hid (show Chg (fun b => b = w1.heap.size) wa3 w6 from (HCB3.out.mono (M' := fun b => b = w1.heap.size) fun _ h => h.elim).trans hcn fun b h => .inl h); have HP6 := Lib.hid (HP5.out.trans HC5.out fun b h => .inl h); have hz6 := Nat.le_trans hz5 HC5.out.size; have hcl4 : w6.cell? ⟨ba, oa + 4, none⟩ = some (.slice A_4 r4.length c_4) := (World.cell?_of_block (a := ⟨ba, oa + 4, none⟩) (HP6.out.block ba hba (fun e => by have e : ba = w1.heap.size := e; omega))).trans HC_4.out; clear hbn hcn)
    | go_values | go_skip | go_guarded | go_step | go_upon)
  refine (rnumI_out _ (HR_4.out.chg HP6.out fun b hb h => by have h : b = w1.heap.size := h; omega)).mono ?_
  rintro e wq ⟨hw, m4, g4, rfl, hm4, hsI, hsU⟩
  obtain rfl := hw.symm
  have HS4 := Lib.hid hsI
  clear hsI hsU hcl4
  have HPL4 := Lib.hid (show (((((([] : List Value) ++ ([.int .i64 (wrap64 (m0 : Int))] : List Value)) ++ ([.int .i64 (wrap64 (m1 : Int))] : List Value)) ++ ([.int .i64 (wrap64 (m2 : Int))] : List Value)) ++ q3)).length = 40 from by simp [HL3.out])
  go_simp
  repeat (first
    | ((with_reducible (show wpList _ _ _ (⟨_, .move _, _, _, _, some _⟩ :: _) _ _)); refine wpList_and k3 g4 _ _ _ rfl rfl rfl (by cases k3 <;> rfl) rfl (fun _ => rfl) (fun _ => rfl) ?_; intro vA4 k4 hk4; have HK4 := Lib.hid hk4; clear hk4)
    | (go_big_may; refine wpList_store_part (pre := ((((([] : List Value) ++ ([.int .i64 (wrap64 (m0 : Int))] : List Value)) ++ ([.int .i64 (wrap64 (m1 : Int))] : List Value)) ++ ([.int .i64 (wrap64 (m2 : Int))] : List Value)) ++ q3)) (old := ([.int .i64 0] : List Value)) (vals := ([.int .i64 (wrap64 (m4 : Int))] : List Value)) (post := (zrSig ++ ([] : List Value))) rfl 3 _ _ rfl HX6.out HPL4.out rfl (v := .int .i64 (wrap64 (m4 : Int))) rfl rfl (by simp only [List.length_cons, List.length_nil]) (by kernel_rfl) (fun u hu => by obtain rfl := List.mem_singleton.1 hu; rfl) ?_; intro w7 hbn hcn; have HX7 := Lib.hid hbn; have HC6 := Lib.hid hcn; have HP7 := Lib.hid (HP6.out.trans HC6.out fun b h => .inl h); have hz7 := Nat.le_trans hz6 HC6.out.size; have hcl5 : w7.cell? ⟨ba, oa + 5, none⟩ = some (.slice A_5 r5.length c_5) := (World.cell?_of_block (a := ⟨ba, oa + 5, none⟩) (HP7.out.block ba hba (fun e => by have e : ba = w1.heap.size := e; omega))).trans HC_5.out; clear hbn hcn)
    | go_values | go_skip | go_guarded | go_step | go_upon)
  refine (rReadSig_any _ (HR_5.out.chg HP7.out fun b hb h => by have h : b = w1.heap.size := h; omega) (HRL.out _ (by simp))).mono ?_
  rintro e wa5 ⟨hba5, q5, g5, rfl, hs5, _⟩
  have hl5 : q5.length = 33 := hs5.1
  have HL5 := Lib.hid hl5
  have H15 := Lib.hid hs5.2.1
  have HI5 := Lib.hid (zrSig_sized hl5)
  have HZ5 := Lib.hid (show (zrSig).length = q5.length from by rw [hl5]; exact zrSig_len)
  have HXa5 := Lib.hid (HX7.out.below hba5 HX7.out.lt)
  have HBA5 := Lib.hid hba5
  have HS5 := Lib.hid hs5
  have hza5 := hba5.size
  clear hba5 hs5 hl5 hcl5
  have HPL5 := Lib.hid (show ((((((([] : List Value) ++ ([.int .i64 (wrap64 (m0 : Int))] : List Value)) ++ ([.int .i64 (wrap64 (m1 : Int))] : List Value)) ++ ([.int .i64 (wrap64 (m2 : Int))] : List Value)) ++ q3) ++ ([.int .i64 (wrap64 (m4 : Int))] : List Value))).length = 41 from by simp [HL3.out])
  go_simp
  repeat (first
    | ((with_reducible (show wpList _ _ _ (⟨_, .move _, _, _, _, some _⟩ :: _) _ _)); refine wpList_and k4 g5 _ _ _ rfl rfl rfl (by cases k4 <;> rfl) rfl (fun _ => rfl) (fun _ => rfl) ?_; intro vA5 k5 hk5; have HK5 := Lib.hid hk5; clear hk5; cases k5 <;> refine Hid.out ?_)
    | (go_big_may; refine wpList_store_blk (cs0 := zrSig) (cs := q5) rfl 81 _ _ rfl (Blk.new wa5 _ _) rfl rfl HZ5.out HI5.out H15.out ?_; intro wb5 hbb hcb; have HBB5 := Lib.hid hbb; have HCB5 := Lib.hid (show Chg (fun _ => False) wa5 wb5 from ((Chg.refl _ wa5).alloc _).trans hcb fun b h => .inr (Nat.le_of_eq h.symm)); have HXb5 := Lib.hid (HXa5.out.chg HCB5.out id); clear hbb hcb)
    | (go_big_may; refine wpList_load_blk' rfl 81 _ rfl HBB5.out rfl Tryz.underlying81 rfl HI5.out ?_)
    | (go_big_may; refine wpList_store_part (pre := (((((([] : List Value) ++ ([.int .i64 (wrap64 (m0 : Int))] : List Value)) ++ ([.int .i64 (wrap64 (m1 : Int))] : List Value)) ++ ([.int .i64 (wrap64 (m2 : Int))] : List Value)) ++ q3) ++ ([.int .i64 (wrap64 (m4 : Int))] : List Value))) (old := zrSig) (vals := q5) (post := ([] : List Value)) rfl 81 _ _ rfl HXb5.out HPL5.out rfl (v := .agg q5.toArray) rfl rfl HZ5.out HI5.out H15.out ?_; intro w8 hbn hcn; have HX8 := Lib.hid hbn; have HC7 := Lib.hid (show Chg (fun b => b = w1.heap.size) w7 w8 from (((Chg.of_below HBA5.out fun b => b = w1.heap.size).trans HCB5.out fun b h => h.elim).trans hcn fun b h => .inl h)); have HCD5 := Lib.hid (show Chg (fun b => b = w1.heap.size) wa5 w8 from (HCB5.out.mono (M' := fun b => b = w1.heap.size) fun _ h => h.elim).trans hcn fun b h => .inl h); have HP8 := Lib.hid (HP7.out.trans HC7.out fun b h => .inl h); have hz8 := Nat.le_trans hz7 HC7.out.size; clear hbn hcn)
    | go_values | go_skip | go_guarded | go_step | go_upon)
  · refine Lib.hid ?_
    have HRR := Lib.hid ((HR1.out.chg HP8.out (fun h => by have h : w.heap.size = w1.heap.size := h; omega)))
    have HB0 := Lib.hid (HB1.out.trans (HP8.out.below HB1.out.size fun b h => by have h : b = w1.heap.size := h; omega))
    have hkb3 : ∀ b, w5.heap.size ≤ b → b < wa3.heap.size → b < w6.heap.size ∧ w6.heap[b]? = wa3.heap[b]? := fun b hb hlt => ⟨ltle hlt HCD3.out.size, HCD3.out.block b hlt fun e => by have e : b = w1.heap.size := e; omega⟩
    have hkb5 : ∀ b, w7.heap.size ≤ b → b < wa5.heap.size → b < w8.heap.size ∧ w8.heap[b]? = wa5.heap[b]? := fun b hb hlt => ⟨ltle hlt HCD5.out.size, HCD5.out.block b hlt fun e => by have e : b = w1.heap.size := e; omega⟩
    have ho0 : SOut i64 w3 (Nw w2.heap.size w3) r0 ([.int .i64 (wrap64 (m0 : Int))] : List Value) false g0 := (HS0.out w3 (Nw w2.heap.size w3))
    have ho1 : SOut i64 w4 (Nw w3.heap.size w4) r1 ([.int .i64 (wrap64 (m1 : Int))] : List Value) g0 k1 := (HS1.out w4 (Nw w3.heap.size w4)).orr g0 k1 HK1.out
    have ho2 : SOut i64 w5 (Nw w4.heap.size w5) r2 ([.int .i64 (wrap64 (m2 : Int))] : List Value) k1 k2 := (HS2.out w5 (Nw w4.heap.size w5)).orr k1 k2 HK2.out
    have ho3 : SOut tQC w6 (Nw w5.heap.size w6) r3 q3 k2 k3 := (HS3.out.nw (k' := w5.heap.size) (w' := w6) hkb3 (Nat.le_refl _)).orr k2 k3 HK3.out
    have ho4 : SOut i64 w7 (Nw w6.heap.size w7) r4 ([.int .i64 (wrap64 (m4 : Int))] : List Value) k3 k4 := (HS4.out w7 (Nw w6.heap.size w7)).orr k3 k4 HK4.out
    have ho5 : SOut tSig w8 (Nw w7.heap.size w8) r5 q5 k4 false := (HS5.out.nw (k' := w7.heap.size) (w' := w8) hkb5 (Nat.le_refl _)).orr k4 false HK5.out
    have hout : Fs.Out (.cons i64 (.cons i64 (.cons i64 (.cons tQC (.cons i64 (.cons tSig .nil)))))) w8 (Nw (w.heap.size + 1) w8) [r0, r1, r2, r3, r4, r5] (([.int .i64 (wrap64 (m0 : Int))] : List Value) ++ (([.int .i64 (wrap64 (m1 : Int))] : List Value) ++ (([.int .i64 (wrap64 (m2 : Int))] : List Value) ++ (q3 ++ (([.int .i64 (wrap64 (m4 : Int))] : List Value) ++ (q5 ++ [])))))) false false := Fs.Out.stepR ho0 (Fs.Out.stepR ho1 (Fs.Out.stepR ho2 (Fs.Out.stepR ho3 (Fs.Out.stepR ho4 (Fs.Out.stepR ho5 (Fs.Out.nil_ w8 _ _) (Chg.refl (fun k => k = w1.heap.size) _) (by omega) (by omega)) HC7.out (by omega) (by omega)) (HC6.out.trans HC7.out fun b h => .inl h) (by omega) (by omega)) ((HC5.out.trans HC6.out fun b h => .inl h).trans HC7.out fun b h => .inl h) (by omega) (by omega)) (((HC4.out.trans HC5.out fun b h => .inl h).trans HC6.out fun b h => .inl h).trans HC7.out fun b h => .inl h) (by omega) (by omega)) ((((HC3.out.trans HC4.out fun b h => .inl h).trans HC5.out fun b h => .inl h).trans HC6.out fun b h => .inl h).trans HC7.out fun b h => .inl h) (by omega) (by omega)
    have htup : SOut tTimeout w8 (Nw (w.heap.size + 1) w8) bs (([.int .i64 (wrap64 (m0 : Int))] : List Value) ++ (([.int .i64 (wrap64 (m1 : Int))] : List Value) ++ (([.int .i64 (wrap64 (m2 : Int))] : List Value) ++ (q3 ++ (([.int .i64 (wrap64 (m4 : Int))] : List Value) ++ (q5 ++ [])))))) false false := Fs.Out.tup (n := 6) hout (.inl ⟨rfl, HSP.out⟩) fun l x h => Fs.decs_len _ l x h
    have hpre : ((((((([] : List Value) ++ ([.int .i64 (wrap64 (m0 : Int))] : List Value)) ++ ([.int .i64 (wrap64 (m1 : Int))] : List Value)) ++ ([.int .i64 (wrap64 (m2 : Int))] : List Value)) ++ q3) ++ ([.int .i64 (wrap64 (m4 : Int))] : List Value)) ++ q5) = (([.int .i64 (wrap64 (m0 : Int))] : List Value) ++ (([.int .i64 (wrap64 (m1 : Int))] : List Value) ++ (([.int .i64 (wrap64 (m2 : Int))] : List Value) ++ (q3 ++ (([.int .i64 (wrap64 (m4 : Int))] : List Value) ++ (q5 ++ [])))))) := by simp
    obtain ⟨C, hC⟩ : ∃ C, C = (([.int .i64 (wrap64 (m0 : Int))] : List Value) ++ (([.int .i64 (wrap64 (m1 : Int))] : List Value) ++ (([.int .i64 (wrap64 (m2 : Int))] : List Value) ++ (q3 ++ (([.int .i64 (wrap64 (m4 : Int))] : List Value) ++ (q5 ++ [])))))) := ⟨_, rfl⟩
    rw [← hC] at htup hpre
    have hX := HX8.out
    rw [hpre, List.append_nil] at hX
    have HX := Lib.hid hX
    have hCl : C.length = 74 := htup.1
    have HI := Lib.hid (zrTimeout_sized hCl)
    have HL := Lib.hid (show zrTimeout.length = C.length from by rw [hCl]; exact zrTimeout_len)
    have H1 := Lib.hid htup.2.1
    have HT := Lib.hid htup
    clear hout htup hpre hX hCl hC ho0 ho1 ho2 ho3 ho4 ho5 hkb3 hkb5
    go_wp2_with (first
      | (refine wpList_load_blk' rfl 97 _ rfl HX.out rfl Tryz.underlying97 rfl HI.out ?_)
      | (refine wpList_store_blk (cs0 := zrTimeout) (cs := C) rfl 97 _ _ rfl HRR.out rfl rfl HL.out HI.out H1.out ?_; intro w9 hb9 hc9; have HB9 := Lib.hid hb9; have HC9 := Lib.hid hc9; clear hb9 hc9))
    have hld := run_loadVar_mid (P := Tryz.prog) w9 w.heap.size 0 97 C _ HB9.out.range Tryz.underlying97 rfl HI.out
    refine bodyPost_ret (v := .tuple #[.agg (C).toArray, .bool true]) (by simp [results, Tryz.results32, asAddr, hld]) rfl ?_
    exact ⟨HB0.out.trans (HC9.out.below HB0.out.size fun b h => Nat.le_of_eq h.symm), C, false, rfl, HT.out.nw (w' := w9) (k' := w.heap.size) (fun b hb hlt => ⟨ltle hlt HC9.out.size, HC9.out.block b hlt fun e => by have e : b = w.heap.size := e; omega⟩) (by omega), fun h => by cases h⟩
  · refine Lib.hid ?_
    have HRR := Lib.hid ((HR1.out.chg HP8.out (fun h => by have h : w.heap.size = w1.heap.size := h; omega)))
    have HB0 := Lib.hid (HB1.out.trans (HP8.out.below HB1.out.size fun b h => by have h : b = w1.heap.size := h; omega))
    have hkb3 : ∀ b, w5.heap.size ≤ b → b < wa3.heap.size → b < w6.heap.size ∧ w6.heap[b]? = wa3.heap[b]? := fun b hb hlt => ⟨ltle hlt HCD3.out.size, HCD3.out.block b hlt fun e => by have e : b = w1.heap.size := e; omega⟩
    have hkb5 : ∀ b, w7.heap.size ≤ b → b < wa5.heap.size → b < w8.heap.size ∧ w8.heap[b]? = wa5.heap[b]? := fun b hb hlt => ⟨ltle hlt HCD5.out.size, HCD5.out.block b hlt fun e => by have e : b = w1.heap.size := e; omega⟩
    have ho0 : SOut i64 w3 (Nw w2.heap.size w3) r0 ([.int .i64 (wrap64 (m0 : Int))] : List Value) false g0 := (HS0.out w3 (Nw w2.heap.size w3))
    have ho1 : SOut i64 w4 (Nw w3.heap.size w4) r1 ([.int .i64 (wrap64 (m1 : Int))] : List Value) g0 k1 := (HS1.out w4 (Nw w3.heap.size w4)).orr g0 k1 HK1.out
    have ho2 : SOut i64 w5 (Nw w4.heap.size w5) r2 ([.int .i64 (wrap64 (m2 : Int))] : List Value) k1 k2 := (HS2.out w5 (Nw w4.heap.size w5)).orr k1 k2 HK2.out
    have ho3 : SOut tQC w6 (Nw w5.heap.size w6) r3 q3 k2 k3 := (HS3.out.nw (k' := w5.heap.size) (w' := w6) hkb3 (Nat.le_refl _)).orr k2 k3 HK3.out
    have ho4 : SOut i64 w7 (Nw w6.heap.size w7) r4 ([.int .i64 (wrap64 (m4 : Int))] : List Value) k3 k4 := (HS4.out w7 (Nw w6.heap.size w7)).orr k3 k4 HK4.out
    have ho5 : SOut tSig w8 (Nw w7.heap.size w8) r5 q5 k4 true := (HS5.out.nw (k' := w7.heap.size) (w' := w8) hkb5 (Nat.le_refl _)).orr k4 true HK5.out
    have hout : Fs.Out (.cons i64 (.cons i64 (.cons i64 (.cons tQC (.cons i64 (.cons tSig .nil)))))) w8 (Nw (w.heap.size + 1) w8) [r0, r1, r2, r3, r4, r5] (([.int .i64 (wrap64 (m0 : Int))] : List Value) ++ (([.int .i64 (wrap64 (m1 : Int))] : List Value) ++ (([.int .i64 (wrap64 (m2 : Int))] : List Value) ++ (q3 ++ (([.int .i64 (wrap64 (m4 : Int))] : List Value) ++ (q5 ++ [])))))) false true := Fs.Out.stepR ho0 (Fs.Out.stepR ho1 (Fs.Out.stepR ho2 (Fs.Out.stepR ho3 (Fs.Out.stepR ho4 (Fs.Out.stepR ho5 (Fs.Out.nil_ w8 _ _) (Chg.refl (fun k => k = w1.heap.size) _) (by omega) (by omega)) HC7.out (by omega) (by omega)) (HC6.out.trans HC7.out fun b h => .inl h) (by omega) (by omega)) ((HC5.out.trans HC6.out fun b h => .inl h).trans HC7.out fun b h => .inl h) (by omega) (by omega)) (((HC4.out.trans HC5.out fun b h => .inl h).trans HC6.out fun b h => .inl h).trans HC7.out fun b h => .inl h) (by omega) (by omega)) ((((HC3.out.trans HC4.out fun b h => .inl h).trans HC5.out fun b h => .inl h).trans HC6.out fun b h => .inl h).trans HC7.out fun b h => .inl h) (by omega) (by omega)
    have htup : SOut tTimeout w8 (Nw (w.heap.size + 1) w8) bs (([.int .i64 (wrap64 (m0 : Int))] : List Value) ++ (([.int .i64 (wrap64 (m1 : Int))] : List Value) ++ (([.int .i64 (wrap64 (m2 : Int))] : List Value) ++ (q3 ++ (([.int .i64 (wrap64 (m4 : Int))] : List Value) ++ (q5 ++ [])))))) false true := Fs.Out.tup (n := 6) hout (.inl ⟨rfl, HSP.out⟩) fun l x h => Fs.decs_len _ l x h
    have HNO := Lib.hid (show Sh.dec tTimeout bs = none from by
      rcases htup.2.2 with ⟨_, _, h, _⟩ | ⟨h, _⟩
      · cases h
      · exact h)
    clear hout htup ho0 ho1 ho2 ho3 ho4 ho5 hkb3 hkb5
    go_wp2_with (refine wpList_store_blk (cs0 := zrTimeout) (cs := zrTimeout) rfl 97 _ _ rfl HRR.out rfl rfl rfl zrTimeout_size zrTimeout_one ?_; intro w9 hb9 hc9; have HB9 := Lib.hid hb9; have HC9 := Lib.hid hc9; clear hb9 hc9)
    have hld := run_loadVar_mid (P := Tryz.prog) w9 w.heap.size 0 97 zrTimeout _ HB9.out.range Tryz.underlying97 rfl zrTimeout_size
    refine bodyPost_ret (v := .tuple #[.agg (zrTimeout).toArray, .bool false]) (by simp [results, Tryz.results32, asAddr, hld]) rfl ?_
    exact ⟨HB0.out.trans (HC9.out.below HB0.out.size fun b h => Nat.le_of_eq h.symm), _, true, rfl, ⟨zrTimeout_len, zrTimeout_one, .inr ⟨HNO.out, rfl⟩⟩, fun _ => rfl⟩
end
section
open Go.RowKit Go.Maps
attribute [-simp] Tryz.isAgg36 Tryz.typeInfo36 Tryz.isAgg97 Tryz.typeInfo97
set_option maxHeartbeats 8000000 in
set_option maxRecDepth 100000 in
theorem read_Timeout (w : World) {S : Nat → Prop} {v : Value} {bs : List UInt8} {sent : Value} (h : Bs w S v bs) (hlen : bs.length ≤ 1099511627776) (hp : Pk w sent) :
    Calls Tryz.prog 5 #[.int .i64 8, v] w (ReadAns w bs) := by
  have HF := Lib.hid (ReadTimeout_any w h hp)
  have HB := Lib.hid h
  have HLEN := Lib.hid hlen
  obtain ⟨A, cap, rfl⟩ := h.form
  clear h hlen hp
  go_enter Tryz.func5, Tryz.ntmps5
  go_wp2_with fail
  refine HF.out.mono ?_
  rintro e w1 ⟨hb1, C, n, rfl, hCl, hC1, hn⟩
  have hCl : C.length = 74 := hCl
  have HZL := Lib.hid (show zrTimeout.length = C.length from by rw [hCl]; exact zrTimeout_len)
  have HCI := Lib.hid (zrTimeout_sized hCl)
  have HC1 := Lib.hid hC1
  have HN := Lib.hid hn
  have HB1 := Lib.hid hb1
  have HBB := Lib.hid (HB.out.below hb1)
  have hz1 := hb1.size
  clear hCl hC1 hn hb1 HF
  go_wp2_with (refine wpList_store_blk (cs0 := zrTimeout) (cs := C) rfl 97 _ _ rfl (Blk.new w1 _ _) rfl rfl HZL.out HCI.out HC1.out ?_; intro w2 hyy hcc; have HX2 := Lib.hid hyy; have HCw2 := Lib.hid (show Chg (fun _ => False) w1 w2 from ((Chg.refl _ w1).alloc _).trans hcc fun b h => .inr (Nat.le_of_eq h.symm)); clear hyy hcc)
  have hz2 := HCw2.out.size
  have HB2 := Lib.hid (HB1.out.trans (HCw2.out.below HB1.out.size fun b h => h.elim))
  refine (rReadTimeout_any w2 (HBB.out.chg HCw2.out fun _ _ h => h) HLEN.out).mono ?_
  rintro e w3 ⟨hb3, D, g, rfl, hs, hzz⟩
  have hDl : D.length = 74 := hs.1
  have HZD := Lib.hid (show zrTimeout.length = D.length from by rw [hDl]; exact zrTimeout_len)
  have HDI := Lib.hid (zrTimeout_sized hDl)
  have HD1 := Lib.hid hs.2.1
  have HS := Lib.hid hs
  have HZZ := Lib.hid hzz
  have HX3 := Lib.hid (HX2.out.below hb3 HX2.out.lt)
  have HB23 := Lib.hid hb3
  have HB3 := Lib.hid (HB2.out.trans (hb3.mono HB2.out.size))
  have hz3 := hb3.size
  clear hDl hs hzz hb3 HBB HX2
  by_cases hn0 : n = 0
  · subst hn0
    obtain ⟨hbl, x, hdx, hrx⟩ : bs.length ≤ 262144 ∧ ∃ x, Sh.dec tTimeout bs = some x ∧ Sh.rep w1 (fun b => w.heap.size ≤ b) tTimeout x C := by
      rcases HN.out with ⟨_, h⟩ | ⟨hb, ⟨x, h1, _, h3⟩ | ⟨_, h⟩⟩
      · cases h
      · exact ⟨hb, x, h1, h3⟩
      · cases h
    obtain ⟨rfl, hry⟩ : g = false ∧ Sh.rep w3 (Nw w2.heap.size w3) tTimeout x D := by
      rcases HS.out.2.2 with ⟨y, h1, h2, h3⟩ | ⟨h1, _⟩
      · rw [hdx] at h1; injection h1 with h1; subst h1; exact ⟨h2, h3⟩
      · rw [hdx] at h1; cases h1
    have hex : Sh.enc tTimeout x = bs := (Sh.enc_dec _ _ _ hdx).1
    have HEX := Lib.hid hex
    have HLX := Lib.hid (show (Sh.enc tTimeout x).length ≤ 1099511627776 by rw [hex]; exact HLEN.out)
    have HBL := Lib.hid hbl
    have HRX := Lib.hid (Sh.rep_below (Sh.rep_chg hrx HCw2.out fun _ _ h => h) HB23.out)
    have HRY := Lib.hid hry
    clear hdx hrx hry hex hbl HN HS HZZ
    go_simp
    go_wp2_with (refine wpList_store_blk (cs0 := zrTimeout) (cs := D) rfl 97 _ _ rfl (Blk.new w3 _ _) rfl rfl HZD.out HDI.out HD1.out ?_; intro w4 hyy hcc; have HY4 := Lib.hid hyy; have HCw4 := Lib.hid (show Chg (fun _ => False) w3 w4 from ((Chg.refl _ w3).alloc _).trans hcc fun b h => .inr (Nat.le_of_eq h.symm)); clear hyy hcc)
    have hx := (HX3.out.chg HCw4.out id).drew
    have hy := HY4.out.drew
    have hb := (HB3.out.trans (HCw4.out.below HB3.out.size fun b h => h.elim)).drew
    have hb4 : Below w4.heap.size w4 w4.drew := (Below.refl _ w4).drew
    have hrx := Sh.rep_below (Sh.rep_chg HRX.out HCw4.out fun _ _ h => h) hb4
    have hry := Sh.rep_below (Sh.rep_chg HRY.out HCw4.out fun _ _ h => h) hb4
    have hz4 := HCw4.out.size
    refine wp_region_segsV [([0, 2, 3, 5], [1]), ([], [4]), ([6, 7, 8, 9], [])] (by kernel_rfl) (by kernel_rfl) (by kernel_rfl) (by kernel_rfl)
      (SegV.mk (fun w' => Blk w' w1.heap.size 97 C.toArray ∧ Blk w' w3.heap.size 97 D.toArray) (fun _ _ => trivial) ⟨hx, hy⟩ ?_)
    (refine HoistK.load (by rfl) (by kernel_rfl) 97 _ rfl w1.heap.size 0 rfl C _ (fun w' hw => hw.1.range) Tryz.underlying97 rfl HCI.out ?_; simp only [Act.put, setIfInBounds_toArray, getElem_toArray, getElem_cons_zero, set_cons_succ, set_cons_zero])
    (refine HoistK.yes (by rfl) (by kernel_rfl) ⟨?_, fun w' hSw => ?_, ?_⟩; rotate_left; (· go_simp; try with_reducible rfl); simp only [Act.put, setIfInBounds_toArray, getElem_toArray, getElem_cons_succ, getElem_cons_zero, set_cons_succ, set_cons_zero])
    (refine HoistK.load (by rfl) (by kernel_rfl) 97 _ rfl w3.heap.size 0 rfl D _ (fun w' hw => hw.2.range) Tryz.underlying97 rfl HDI.out ?_; simp only [Act.put, setIfInBounds_toArray, getElem_toArray, getElem_cons_succ, getElem_cons_zero, set_cons_succ, set_cons_zero])
    (refine HoistK.yes (by rfl) (by kernel_rfl) ⟨?_, fun w' hSw => ?_, ?_⟩; rotate_left; (· go_simp; try with_reducible rfl); simp only [Act.put, setIfInBounds_toArray, getElem_toArray, getElem_cons_succ, getElem_cons_zero, set_cons_succ, set_cons_zero])
    refine HoistK.nil_ ?_
    simp only [opsAt, filterMap_cons, filterMap_nil, getElem?_toArray, getElem?_cons_succ, getElem?_cons_zero]
    refine EffS.cons_ fun _ hQ => ?_
    go_wp2_with fail
    refine (rTimeout_any _ hrx HLX.out).mono ?_
    rintro e w5 ⟨v5, rfl, f5⟩
    rw [HEX.out] at f5
    obtain ⟨A5, c5, rfl⟩ := f5.1.form
    have hx5 := hx.below f5.2 hx.lt
    have hy5 := hy.below f5.2 hy.lt
    have hb5 := hb.trans (f5.2.mono hb.size)
    have hry5 := Sh.rep_below hry f5.2
    have hw5 := f5.1.sub (T := fun b => w.heap.size ≤ b) fun b hb' _ => Nat.le_trans hb.size hb'.1
    clear f5
    go_wp2_with fail
    refine hQ _ _ ⟨hx5, hy5⟩ (EffS.nil_ (SegV.mk (fun w' => (Blk w' w1.heap.size 97 C.toArray ∧ Blk w' w3.heap.size 97 D.toArray) ∧ Bs w' (fun b => w.heap.size ≤ b) (.slice A5 bs.length c5) bs) (fun _ h => h.1) ⟨⟨hx5, hy5⟩, hw5⟩ ?_))
    refine HoistK.nil_ ?_
    simp only [opsAt, filterMap_cons, filterMap_nil, getElem?_toArray, getElem?_cons_succ, getElem?_cons_zero]
    refine EffS.cons_ fun _ hQ => ?_
    go_wp2_with fail
    refine (rTimeout_any _ hry5 HLX.out).mono ?_
    rintro e w6 ⟨v6, rfl, f6⟩
    rw [HEX.out] at f6
    obtain ⟨A6, c6, rfl⟩ := f6.1.form
    have hx6 := hx5.below f6.2 hx5.lt
    have hy6 := hy5.below f6.2 hy5.lt
    have hb6 := hb5.trans (f6.2.mono hb5.size)
    have hw56 := hw5.below f6.2
    have hw6 := f6.1.sub (T := fun b => w.heap.size ≤ b) fun b hb' _ => Nat.le_trans hb5.size hb'.1
    clear f6
    go_wp2_with fail
    refine hQ _ _ ⟨⟨hx6, hy6⟩, hw56⟩ (EffS.nil_ (SegV.mk (fun w' => ((Blk w' w1.heap.size 97 C.toArray ∧ Blk w' w3.heap.size 97 D.toArray) ∧ Bs w' (fun b => w.heap.size ≤ b) (.slice A5 bs.length c5) bs) ∧ Bs w' (fun b => w.heap.size ≤ b) (.slice A6 bs.length c6) bs) (fun _ h => h.1) ⟨⟨⟨hx6, hy6⟩, hw56⟩, hw6⟩ ?_))
    iterate 4 (refine HoistK.yes (by rfl) (by kernel_rfl) ⟨?_, fun w' hSw => ?_, ?_⟩; rotate_left; (· go_simp; try with_reducible rfl); simp only [Act.put, setIfInBounds_toArray, getElem_toArray, getElem_cons_succ, getElem_cons_zero, set_cons_succ, set_cons_zero])
    refine HoistK.nil_ ?_
    simp only [opsAt, filterMap_nil, getElem?_toArray]
    refine EffS.nil_ fun _ hQ => ?_
    go_wp2_with fail
    ((try simp only [Exit.inBlock, Exit.then]); refine bodyPost_ret (results_tmp4 rfl _ _ _) rfl ?_)
    exact ⟨hb6, _, _, 0, true, rfl, .inr ⟨HBL.out, .inl ⟨rfl, rfl, hw56, hw6⟩⟩⟩
  · obtain ⟨x, hrx, hlx⟩ : ∃ x, Sh.rep w3 (Nw w2.heap.size w3) tTimeout x D ∧ (Sh.enc tTimeout x).length ≤ 1099511627776 := by
      rcases HS.out.2.2 with ⟨x, h1, _, h3⟩ | ⟨_, h2⟩
      · exact ⟨x, h3, by rw [(Sh.enc_dec _ _ _ h1).1]; exact HLEN.out⟩
      · rw [HZZ.out h2]
        exact ⟨Sh.zel tTimeout, Sh.zel_rep w3 _ tTimeout, by rw [Sh.zel_len]; decide⟩
    have hans : (262144 < bs.length ∧ n = 4) ∨ (bs.length ≤ 262144 ∧ n = 5 ∧ g = true) := by
      rcases HN.out with h | ⟨hb, ⟨_, _, h, _⟩ | ⟨h1, h2⟩⟩
      · exact .inl h
      · exact absurd h hn0
      · refine .inr ⟨hb, h2, ?_⟩
        rcases HS.out.2.2 with ⟨y, h3, _, _⟩ | ⟨_, h3⟩
        · rw [h1] at h3; cases h3
        · exact h3
    have HANS := Lib.hid hans
    have HRX := Lib.hid hrx
    have HLX := Lib.hid hlx
    clear hans hrx hlx HN HS HZZ
    go_simp
    go_wp2_with (first
      | (refine wpList_store_blk (cs0 := zrTimeout) (cs := D) rfl 97 _ _ rfl (Blk.new w3 _ _) rfl rfl HZD.out HDI.out HD1.out ?_; intro w4 hyy hcc; have HY4 := Lib.hid hyy; have HCw4 := Lib.hid (show Chg (fun _ => False) w3 w4 from ((Chg.refl _ w3).alloc _).trans hcc fun b h => .inr (Nat.le_of_eq h.symm)); clear hyy hcc)
      | (refine wpList_load_blk' rfl 97 _ rfl HY4.out rfl Tryz.underlying97 rfl HDI.out ?_))
    have hb4 := HB3.out.trans (HCw4.out.below HB3.out.size fun b h => h.elim)
    refine (rTimeout_any _ (Sh.rep_chg HRX.out HCw4.out fun _ _ h => h) HLX.out).mono ?_
    rintro e w5 ⟨v5, rfl, f5⟩
    have hb5 := hb4.trans (f5.2.mono hb4.size)
    clear f5
    go_wp2_with fail
    ((try simp only [Exit.inBlock, Exit.then]); refine bodyPost_ret (results_tmp4 rfl _ _ _) rfl ?_)
    refine ⟨hb5, _, _, n, !g, rfl, ?_⟩
    rcases HANS.out with h | ⟨h1, h2, h3⟩
    · exact .inl h
    · exact .inr ⟨h1, .inr ⟨h2, by rw [h3]; rfl⟩⟩
end
section
open Go.RowKit Go.Maps
attribute [-simp] Tryz.isAgg36 Tryz.typeInfo36 Tryz.isAgg83 Tryz.typeInfo83
theorem size_allBlock_any : (Tryz.prog.info? 83).map (·.size) = some 173 := by kernel_rfl
theorem sizes_allBlock_any : (Tryz.prog.info? 83).map (fun i => (i.zero.map (fun z => z.cells.size), i.size)) = some (some 173, 173) := by kernel_rfl
theorem info_allBlock_any : (Tryz.prog.info? 83).map (fun i => (i.zero, i.size, i.bytes)) = some (some (.agg ((([.int .i64 0, .int .i64 0, .int .i64 0, .int .i64 0] ++ List.replicate 96 (.int .u8 0) ++ [.int .i64 0]) ++ ([.int .i64 0, .int .i64 0, .int .i64 0] ++ List.replicate 32 (.int .u8 0) ++ [.slice none 0 0, .slice none 0 0]) ++ [.slice none 0 0, .slice none 0 0] ++ ([.int .i64 0] ++ List.replicate 32 (.int .u8 0)) : List Value)).toArray), 173, 328) := by kernel_rfl
set_option maxHeartbeats 8000000 in
set_option maxRecDepth 100000 in
theorem allBlock_any (w : World) {X : Nat → Prop} {E g : Nat} {sent : Value} {x : List UInt8} {rows : List (List UInt8)} {bad : Bool} (h : Pt w X E g sent (x :: rows) bad) (hxl : x.length ≤ 262144) :
    Calls Tryz.prog 96 #[.pointer (some ⟨g, 0, none⟩), .func (Fn.func 63) #[] #[]] w (Took (.list tBlock) w X E g sent x rows bad) := by
  have hgx := h.2.2.1
  have hgw := h.lt
  have hEw := h.2.2.2.2.1
  have HGX := Lib.hid hgx
  have HX1 := Lib.hid (show ∀ b, X b → b < w.heap.size from h.2.2.2.1)
  have H := Lib.hid (next_any _ h)
  clear h hgx
  go_enter Tryz.func96, Tryz.ntmps96
  go_wp2_with fail
  refine H.out.mono ?_
  rintro e w1 ⟨v1, rfl, hb1, hc1, hp1⟩
  have HSP := Lib.hid (split_any w1 hb1 (by omega))
  have hz1 := hc1.size
  have HP1 := Lib.hid hp1
  have HC1 := Lib.hid hc1
  obtain ⟨A1, c1, rfl⟩ := hb1.form
  clear hb1 hp1 hc1 H
  go_wp2_with fail
  refine HSP.out.mono ?_
  rintro e w2 ⟨hb2, ⟨hno, rfl⟩ | ⟨v2, l, hsp, rfl, hbss⟩⟩
  · have HNO := Lib.hid hno; clear hno
    have hp2 := HP1.out.below hb2
    obtain ⟨⟨sa, rfl⟩, hgl⟩ := hp2.1
    have hgl : w2.cell? ⟨gF, 0, none⟩ = some _ := hgl
    unfold gF at hgl
    have hlx := hp2.2.2.2.1
    have hE2 := hp2.2.2.2.2.1
    have hal := (Below.refl w2.heap.size w2).alloc (Nat.le_refl _) (.cells #[.string ⟨#[97, 32, 108, 105, 115, 116]⟩, .iface 237 (.pointer (some sa))] 158)
    have HBAD := Lib.hid (bad_any _ (hp2.below hal) (Chain.fresh _ ⟨fun h => absurd (hlx _ h) (Nat.lt_irrefl _), hE2⟩))
    have HC2 := Lib.hid (HC1.out.trans (Chg.of_below hb2 fun k => k = g) fun b h => .inl h)
    clear hp2 hlx hal hE2 hb2 HP1 HC1 HSP
    go_wp2_with fail
    refine HBAD.out.mono ?_
    rintro e w3 ⟨rfl, hc3, hp3⟩
    have HP3 := Lib.hid hp3
    have HC3 := Lib.hid hc3
    clear hp3 hc3 HBAD
    go_wp2_with fail
    refine wp_loop_rounds 1 ?_
    rw [rounds_succ]
    go_wp2
    go_ret
    exact ⟨[.slice none 0 0], true, rfl, (HC2.out.alloc _).trans HC3.out fun b h => .inl h, HP3.out, SOut.noList HNO.out rfl⟩
  · have hrl : ∀ y ∈ l, y.length ≤ 262144 := fun y hy => Nat.le_trans (joinP_mem_le hsp y hy) hxl
    have hll : l.length ≤ 32768 := by
      have h1 := splitB_back hsp
      have h2 := joinP_count l
      rw [← h1, joinB_length] at hxl
      omega
    obtain ⟨A2, c2, rfl⟩ := hbss.form
    have HROWS := Lib.hid (((hbss.read fun y hy => by have := hrl y hy; omega).lt_ (T := fun b => w1.heap.size ≤ b) fun b h => h.elim id id).subs (T := fun b => b ≠ g) fun b hb _ => by have := hb.1; omega)
    have HP2 := Lib.hid (HP1.out.below hb2)
    have HC2 := Lib.hid (HC1.out.trans (Chg.of_below hb2 fun k => k = g) fun b h => .inl h)
    have HSPL := Lib.hid hsp
    have HRL := Lib.hid hrl
    have hwS : w.heap.size ≤ w2.heap.size := Nat.le_trans hz1 hb2.size
    clear hbss hsp hrl hb2 HP1 HC1 HSP hxl
    go_wp2_with fail
    go_loopw [7, 28] (fun o i wr => ∃ k : Nat, k ≤ l.length ∧ i = .int .i64 k ∧ AllI 83 173 tBlock w w2 X E g sent rows bad l o k wr) (fun _ i _ => l.length - (intOf i).toNat)
    case atStart => exact ⟨0, Nat.zero_le _, rfl, AllI.start HP2.out⟩
    case round =>
      obtain ⟨k, hk, rfl, hI⟩ := hrel
      by_cases hlt : k < l.length
      · obtain ⟨css, bk, hown, hob, hlo, hpt, hch⟩ := hI
        obtain ⟨ba, oa, ua, rfl, hca, hua, _, hSb⟩ := (HROWS.out.chg hch (fun b hb h => hb h)).at_ hlt
        have htk : l.take (k + 1) = l.take k ++ [l[k]] := List.take_succ_eq_append_getElem hlt
        have hyl := HRL.out l[k] (List.getElem_mem hlt)
        obtain ⟨y, hy⟩ : ∃ y, y = l[k] := ⟨_, rfl⟩
        rw [← hy] at hua htk hyl
        have HR := Lib.hid (readBlock_any wr hua hyl hpt.1)
        obtain ⟨Ay, cy, rfl⟩ := hua.form
        obtain ⟨Ao, co, rfl⟩ := hown.form
        have HOWN := Lib.hid hown
        have HOB := Lib.hid hob
        have HLO := Lib.hid hlo
        have HPT := Lib.hid hpt
        have HCH := Lib.hid hch
        have HTK := Lib.hid htk
        have H63 := Lib.hid (show k + 1 ≤ maxLen ∧ (k + 1) * 328 ≤ 140737488355328 from ⟨by simp only [maxLen]; omega, by omega⟩)
        have hzr := hch.size
        clear hown hob hlo hpt hch htk hy hua hyl
        go_wp2_with fail
        refine HR.out.mono ?_
        rintro e w3 hro
        obtain ⟨C, err, bd, rfl, h1, hl, hb3, he, ho⟩ := hro.agg (fun _ => rfl)
        have hl : C.length = 173 := hl
        have HL := Lib.hid hl
        have HI := Lib.hid (show (Tryz.prog.info? 83).map (·.size) = some C.length from by rw [hl]; exact size_allBlock_any)
        have HI2 := Lib.hid (show (Tryz.prog.info? 83).map (fun i => (i.zero.map (fun z => z.cells.size), i.size)) = some (some C.length, C.length) from by rw [hl]; exact sizes_allBlock_any)
        have H1 := Lib.hid h1
        clear h1 hl
        have HB3 := Lib.hid hb3
        have HP3 := Lib.hid (HPT.out.below hb3)
        have HO := Lib.hid (ho.or_ bk)
        clear hro hb3 ho HR
        rcases he with ⟨rfl, rfl⟩ | ⟨rfl, hcn⟩
        · skip
          go_wp2_with (first
            | (refine wpList_store_blk (cs0 := (([.int .i64 0, .int .i64 0, .int .i64 0, .int .i64 0] ++ List.replicate 96 (.int .u8 0) ++ [.int .i64 0]) ++ ([.int .i64 0, .int .i64 0, .int .i64 0] ++ List.replicate 32 (.int .u8 0) ++ [.slice none 0 0, .slice none 0 0]) ++ [.slice none 0 0, .slice none 0 0] ++ ([.int .i64 0] ++ List.replicate 32 (.int .u8 0)) : List Value)) (cs := C) rfl 83 _ _ rfl (Blk.new w3 _ _) rfl rfl (by rw [HL.out]; rfl) HI.out H1.out ?_; intro w4 hb4 hc4; have HB4 := Lib.hid hb4; have HC4 := Lib.hid (show Chg (fun _ => False) w3 w4 from ((Chg.refl _ w3).alloc _).trans hc4 fun b h => .inr (Nat.le_of_eq h.symm)); clear hb4 hc4; have HO2 := Lib.hid (show ∀ ob, Own (w4.alloc ob) 83 173 (.slice Ao k co) k css.flatten from fun ob => own_keep HOWN.out fun b hb => (by have h1 := own_lt HOWN.out hb; have h2 := HOB.out b hb; have h3 := HB3.out.size; exact (Below.heap_alloc w4 ob b (ltle (ltle h1 h3) HC4.out.size)).trans ((HC4.out.block b (ltle h1 h3) id).trans (HB3.out.block b h1)))); have HS2 := Lib.hid (Cs.of_new w4 83 (size := 173) 1 (cs := C) (by rw [HL.out]) (by simp only [maxLen]; decide)))
            | (refine wpList_load_blk' rfl 83 _ rfl HB4.out rfl Tryz.underlying83 rfl HI.out ?_)
            | (refine wpList_row1 rfl 103 83 _ rfl Tryz.underlying103 (.agg C.toArray) rfl C rfl HI2.out (by rw [HL.out]; decide) (by rw [HL.out]; decide) ?_)
            | (at_builtin; refine wpList_app _ rfl _ _ _ rfl Tryz.underlying103 info_allBlock_any rfl (by decide) (HO2.out _) rfl HS2.out rfl H1.out H63.out.1 H63.out.2 ?_; intro v6 w6 ho6 hc6 hnil6 hat6; clear hnil6; have HO6 := Lib.hid ho6; clear ho6; have HC6 := Lib.hid hc6; clear hc6; have HAT6 := Lib.hid hat6; clear hat6))
          refine ⟨⟨k + 1, by omega, by push_cast; rfl, AllI.step hgw hwS HOWN.out HOB.out HLO.out HCH.out HB3.out (by have := HO.out; rw [Bool.or_false] at this; exact this) (HC4.out.mono (M' := fun b => b = g) fun _ h => h.elim) (HP3.out.chg HC4.out fun b h => h.elim) HTK.out HO6.out HC6.out HAT6.out⟩, ?_⟩
          simp only [intOf]; omega
        · skip
          obtain ⟨gw, rfl⟩ := hcn.form
          have HCN := Lib.hid hcn; clear hcn
          go_wp2_with (refine wpList_store_blk (cs0 := (([.int .i64 0, .int .i64 0, .int .i64 0, .int .i64 0] ++ List.replicate 96 (.int .u8 0) ++ [.int .i64 0]) ++ ([.int .i64 0, .int .i64 0, .int .i64 0] ++ List.replicate 32 (.int .u8 0) ++ [.slice none 0 0, .slice none 0 0]) ++ [.slice none 0 0, .slice none 0 0] ++ ([.int .i64 0] ++ List.replicate 32 (.int .u8 0)) : List Value)) (cs := C) rfl 83 _ _ rfl (Blk.new w3 _ _) rfl rfl (by rw [HL.out]; rfl) HI.out H1.out ?_; intro w4 hb4 hc4; have HB4 := Lib.hid hb4; have HC4 := Lib.hid (show Chg (fun _ => False) w3 w4 from ((Chg.refl _ w3).alloc _).trans hc4 fun b h => .inr (Nat.le_of_eq h.symm)); clear hb4 hc4)
          have hp4 := (HP3.out.chg HC4.out fun b h => h.elim)
          have hlx := hp4.2.2.2.1
          have hE4 := hp4.2.2.2.2.1
          have hz4 := HC4.out.size
          have hz3 := HB3.out.size
          have hal := (Below.refl w4.heap.size w4).alloc (Nat.le_refl _) (.cells #[.string ⟨#[105, 110, 32, 97, 32, 108, 105, 115, 116]⟩, .iface 154 (.pointer (some ⟨gw, 0, none⟩))] 158)
          have hcn4 := (HCN.out.to (w' := w4) (S' := fun b => ¬ (X b ∨ (Value.slice Ao k co).ownBlock = some b) ∧ E ≤ b) (fun b hb hlt => ⟨ltle hlt HC4.out.size, HC4.out.block b hlt id⟩) fun b hb hlt => ⟨fun h => h.elim (fun h => by have := HX1.out b h; omega) fun h => by have := own_lt HOWN.out h; omega, by omega⟩)
          have HBAD := Lib.hid (bad_any _ (hp4.below hal) (hcn4.freshMore _ ⟨fun h => absurd (hlx _ h) (Nat.lt_irrefl _), hE4⟩))
          clear hp4 hlx hal hcn4 hE4
          refine HBAD.out.mono ?_
          rintro e w5 ⟨rfl, hc5, hp5⟩
          have HP5 := Lib.hid hp5
          have HC35 := Lib.hid (show Chg (fun b => b = g) w3 w5 from ((HC4.out.mono (M' := fun b => b = g) fun _ h => h.elim).alloc _).trans hc5 fun b h => .inl h)
          have HB5 := Lib.hid ((HB4.out.alloc _).chg hc5 (fun h => by omega))
          clear hc5 hp5 HBAD
          have HO2 := Lib.hid (show ∀ ob, Own (w5.alloc ob) 83 173 (.slice Ao k co) k css.flatten from fun ob => own_keep HOWN.out fun b hb => (by have h1 := own_lt HOWN.out hb; have h2 := HOB.out b hb; have h3 := HB3.out.size; exact (Below.heap_alloc w5 ob b (ltle (ltle h1 h3) HC35.out.size)).trans ((HC35.out.block b (ltle h1 h3) (fun e => by omega)).trans (HB3.out.block b h1))))
          have HS2 := Lib.hid (Cs.of_new w5 83 (size := 173) 1 (cs := C) (by rw [HL.out]) (by simp only [maxLen]; decide))
          go_wp2_with (first
            | (refine wpList_load_blk' rfl 83 _ rfl HB5.out rfl Tryz.underlying83 rfl HI.out ?_)
            | (refine wpList_row1 rfl 103 83 _ rfl Tryz.underlying103 (.agg C.toArray) rfl C rfl HI2.out (by rw [HL.out]; decide) (by rw [HL.out]; decide) ?_)
            | (at_builtin; refine wpList_app _ rfl _ _ _ rfl Tryz.underlying103 info_allBlock_any rfl (by decide) (HO2.out _) rfl HS2.out rfl H1.out H63.out.1 H63.out.2 ?_; intro v6 w6 ho6 hc6 hnil6 hat6; clear hnil6; have HO6 := Lib.hid ho6; clear ho6; have HC6 := Lib.hid hc6; clear hc6; have HAT6 := Lib.hid hat6; clear hat6))
          refine ⟨⟨k + 1, by omega, by push_cast; rfl, AllI.step hgw hwS HOWN.out HOB.out HLO.out HCH.out HB3.out (by have := HO.out; rw [Bool.or_true] at this; exact this) HC35.out HP5.out HTK.out HO6.out HC6.out HAT6.out⟩, ?_⟩
          simp only [intOf]; omega
      · have hk' : k = l.length := by omega
        subst hk'
        have HI := Lib.hid hI
        clear hI
        go_wp2_with fail
        go_ret
        exact HI.out.out rfl HSPL.out (fun _ => rfl) HGX.out HC2.out
end
section
open Go.RowKit Go.Maps
attribute [-simp] Tryz.isAgg36 Tryz.typeInfo36 Tryz.isAgg90 Tryz.typeInfo90
theorem size_allVote_any : (Tryz.prog.info? 90).map (·.size) = some 69 := by kernel_rfl
theorem sizes_allVote_any : (Tryz.prog.info? 90).map (fun i => (i.zero.map (fun z => z.cells.size), i.size)) = some (some 69, 69) := by kernel_rfl
theorem info_allVote_any : (Tryz.prog.info? 90).map (fun i => (i.zero, i.size, i.bytes)) = some (some (.agg (([.int .i64 0, .int .i64 0, .int .i64 0] ++ List.replicate 32 (.int .u8 0) ++ [.int .i64 0] ++ ([.int .i64 0] ++ List.replicate 32 (.int .u8 0)) : List Value)).toArray), 69, 104) := by kernel_rfl
set_option maxHeartbeats 8000000 in
set_option maxRecDepth 100000 in
theorem allVote_any (w : World) {X : Nat → Prop} {E g : Nat} {sent : Value} {x : List UInt8} {rows : List (List UInt8)} {bad : Bool} (h : Pt w X E g sent (x :: rows) bad) (hxl : x.length ≤ 262144) :
    Calls Tryz.prog 97 #[.pointer (some ⟨g, 0, none⟩), .func (Fn.func 65) #[] #[]] w (Took (.list tVote) w X E g sent x rows bad) := by
  have hgx := h.2.2.1
  have hgw := h.lt
  have hEw := h.2.2.2.2.1
  have HGX := Lib.hid hgx
  have HX1 := Lib.hid (show ∀ b, X b → b < w.heap.size from h.2.2.2.1)
  have H := Lib.hid (next_any _ h)
  clear h hgx
  go_enter Tryz.func97, Tryz.ntmps97
  go_wp2_with fail
  refine H.out.mono ?_
  rintro e w1 ⟨v1, rfl, hb1, hc1, hp1⟩
  have HSP := Lib.hid (split_any w1 hb1 (by omega))
  have hz1 := hc1.size
  have HP1 := Lib.hid hp1
  have HC1 := Lib.hid hc1
  obtain ⟨A1, c1, rfl⟩ := hb1.form
  clear hb1 hp1 hc1 H
  go_wp2_with fail
  refine HSP.out.mono ?_
  rintro e w2 ⟨hb2, ⟨hno, rfl⟩ | ⟨v2, l, hsp, rfl, hbss⟩⟩
  · have HNO := Lib.hid hno; clear hno
    have hp2 := HP1.out.below hb2
    obtain ⟨⟨sa, rfl⟩, hgl⟩ := hp2.1
    have hgl : w2.cell? ⟨gF, 0, none⟩ = some _ := hgl
    unfold gF at hgl
    have hlx := hp2.2.2.2.1
    have hE2 := hp2.2.2.2.2.1
    have hal := (Below.refl w2.heap.size w2).alloc (Nat.le_refl _) (.cells #[.string ⟨#[97, 32, 108, 105, 115, 116]⟩, .iface 237 (.pointer (some sa))] 158)
    have HBAD := Lib.hid (bad_any _ (hp2.below hal) (Chain.fresh _ ⟨fun h => absurd (hlx _ h) (Nat.lt_irrefl _), hE2⟩))
    have HC2 := Lib.hid (HC1.out.trans (Chg.of_below hb2 fun k => k = g) fun b h => .inl h)
    clear hp2 hlx hal hE2 hb2 HP1 HC1 HSP
    go_wp2_with fail
    refine HBAD.out.mono ?_
    rintro e w3 ⟨rfl, hc3, hp3⟩
    have HP3 := Lib.hid hp3
    have HC3 := Lib.hid hc3
    clear hp3 hc3 HBAD
    go_wp2_with fail
    refine wp_loop_rounds 1 ?_
    rw [rounds_succ]
    go_wp2
    go_ret
    exact ⟨[.slice none 0 0], true, rfl, (HC2.out.alloc _).trans HC3.out fun b h => .inl h, HP3.out, SOut.noList HNO.out rfl⟩
  · have hrl : ∀ y ∈ l, y.length ≤ 262144 := fun y hy => Nat.le_trans (joinP_mem_le hsp y hy) hxl
    have hll : l.length ≤ 32768 := by
      have h1 := splitB_back hsp
      have h2 := joinP_count l
      rw [← h1, joinB_length] at hxl
      omega
    obtain ⟨A2, c2, rfl⟩ := hbss.form
    have HROWS := Lib.hid (((hbss.read fun y hy => by have := hrl y hy; omega).lt_ (T := fun b => w1.heap.size ≤ b) fun b h => h.elim id id).subs (T := fun b => b ≠ g) fun b hb _ => by have := hb.1; omega)
    have HP2 := Lib.hid (HP1.out.below hb2)
    have HC2 := Lib.hid (HC1.out.trans (Chg.of_below hb2 fun k => k = g) fun b h => .inl h)
    have HSPL := Lib.hid hsp
    have HRL := Lib.hid hrl
    have hwS : w.heap.size ≤ w2.heap.size := Nat.le_trans hz1 hb2.size
    clear hbss hsp hrl hb2 HP1 HC1 HSP hxl
    go_wp2_with fail
    go_loopw [7, 28] (fun o i wr => ∃ k : Nat, k ≤ l.length ∧ i = .int .i64 k ∧ AllI 90 69 tVote w w2 X E g sent rows bad l o k wr) (fun _ i _ => l.length - (intOf i).toNat)
    case atStart => exact ⟨0, Nat.zero_le _, rfl, AllI.start HP2.out⟩
    case round =>
      obtain ⟨k, hk, rfl, hI⟩ := hrel
      by_cases hlt : k < l.length
      · obtain ⟨css, bk, hown, hob, hlo, hpt, hch⟩ := hI
        obtain ⟨ba, oa, ua, rfl, hca, hua, _, hSb⟩ := (HROWS.out.chg hch (fun b hb h => hb h)).at_ hlt
        have htk : l.take (k + 1) = l.take k ++ [l[k]] := List.take_succ_eq_append_getElem hlt
        have hyl := HRL.out l[k] (List.getElem_mem hlt)
        obtain ⟨y, hy⟩ : ∃ y, y = l[k] := ⟨_, rfl⟩
        rw [← hy] at hua htk hyl
        have HR := Lib.hid (readVote_any wr hua hyl hpt.1)
        obtain ⟨Ay, cy, rfl⟩ := hua.form
        obtain ⟨Ao, co, rfl⟩ := hown.form
        have HOWN := Lib.hid hown
        have HOB := Lib.hid hob
        have HLO := Lib.hid hlo
        have HPT := Lib.hid hpt
        have HCH := Lib.hid hch
        have HTK := Lib.hid htk
        have H63 := Lib.hid (show k + 1 ≤ maxLen ∧ (k + 1) * 104 ≤ 140737488355328 from ⟨by simp only [maxLen]; omega, by omega⟩)
        have hzr := hch.size
        clear hown hob hlo hpt hch htk hy hua hyl
        go_wp2_with fail
        refine HR.out.mono ?_
        rintro e w3 hro
        obtain ⟨C, err, bd, rfl, h1, hl, hb3, he, ho⟩ := hro.agg (fun _ => rfl)
        have hl : C.length = 69 := hl
        have HL := Lib.hid hl
        have HI := Lib.hid (show (Tryz.prog.info? 90).map (·.size) = some C.length from by rw [hl]; exact size_allVote_any)
        have HI2 := Lib.hid (show (Tryz.prog.info? 90).map (fun i => (i.zero.map (fun z => z.cells.size), i.size)) = some (some C.length, C.length) from by rw [hl]; exact sizes_allVote_any)
        have H1 := Lib.hid h1
        clear h1 hl
        have HB3 := Lib.hid hb3
        have HP3 := Lib.hid (HPT.out.below hb3)
        have HO := Lib.hid (ho.or_ bk)
        clear hro hb3 ho HR
        rcases he with ⟨rfl, rfl⟩ | ⟨rfl, hcn⟩
        · skip
          go_wp2_with (first
            | (refine wpList_store_blk (cs0 := ([.int .i64 0, .int .i64 0, .int .i64 0] ++ List.replicate 32 (.int .u8 0) ++ [.int .i64 0] ++ ([.int .i64 0] ++ List.replicate 32 (.int .u8 0)) : List Value)) (cs := C) rfl 90 _ _ rfl (Blk.new w3 _ _) rfl rfl (by rw [HL.out]; rfl) HI.out H1.out ?_; intro w4 hb4 hc4; have HB4 := Lib.hid hb4; have HC4 := Lib.hid (show Chg (fun _ => False) w3 w4 from ((Chg.refl _ w3).alloc _).trans hc4 fun b h => .inr (Nat.le_of_eq h.symm)); clear hb4 hc4; have HO2 := Lib.hid (show ∀ ob, Own (w4.alloc ob) 90 69 (.slice Ao k co) k css.flatten from fun ob => own_keep HOWN.out fun b hb => (by have h1 := own_lt HOWN.out hb; have h2 := HOB.out b hb; have h3 := HB3.out.size; exact (Below.heap_alloc w4 ob b (ltle (ltle h1 h3) HC4.out.size)).trans ((HC4.out.block b (ltle h1 h3) id).trans (HB3.out.block b h1)))); have HS2 := Lib.hid (Cs.of_new w4 90 (size := 69) 1 (cs := C) (by rw [HL.out]) (by simp only [maxLen]; decide)))
            | (refine wpList_load_blk' rfl 90 _ rfl HB4.out rfl Tryz.underlying90 rfl HI.out ?_)
            | (refine wpList_row1 rfl 104 90 _ rfl Tryz.underlying104 (.agg C.toArray) rfl C rfl HI2.out (by rw [HL.out]; decide) (by rw [HL.out]; decide) ?_)
            | (at_builtin; refine wpList_app _ rfl _ _ _ rfl Tryz.underlying104 info_allVote_any rfl (by decide) (HO2.out _) rfl HS2.out rfl H1.out H63.out.1 H63.out.2 ?_; intro v6 w6 ho6 hc6 hnil6 hat6; clear hnil6; have HO6 := Lib.hid ho6; clear ho6; have HC6 := Lib.hid hc6; clear hc6; have HAT6 := Lib.hid hat6; clear hat6))
          refine ⟨⟨k + 1, by omega, by push_cast; rfl, AllI.step hgw hwS HOWN.out HOB.out HLO.out HCH.out HB3.out (by have := HO.out; rw [Bool.or_false] at this; exact this) (HC4.out.mono (M' := fun b => b = g) fun _ h => h.elim) (HP3.out.chg HC4.out fun b h => h.elim) HTK.out HO6.out HC6.out HAT6.out⟩, ?_⟩
          simp only [intOf]; omega
        · skip
          obtain ⟨gw, rfl⟩ := hcn.form
          have HCN := Lib.hid hcn; clear hcn
          go_wp2_with (refine wpList_store_blk (cs0 := ([.int .i64 0, .int .i64 0, .int .i64 0] ++ List.replicate 32 (.int .u8 0) ++ [.int .i64 0] ++ ([.int .i64 0] ++ List.replicate 32 (.int .u8 0)) : List Value)) (cs := C) rfl 90 _ _ rfl (Blk.new w3 _ _) rfl rfl (by rw [HL.out]; rfl) HI.out H1.out ?_; intro w4 hb4 hc4; have HB4 := Lib.hid hb4; have HC4 := Lib.hid (show Chg (fun _ => False) w3 w4 from ((Chg.refl _ w3).alloc _).trans hc4 fun b h => .inr (Nat.le_of_eq h.symm)); clear hb4 hc4)
          have hp4 := (HP3.out.chg HC4.out fun b h => h.elim)
          have hlx := hp4.2.2.2.1
          have hE4 := hp4.2.2.2.2.1
          have hz4 := HC4.out.size
          have hz3 := HB3.out.size
          have hal := (Below.refl w4.heap.size w4).alloc (Nat.le_refl _) (.cells #[.string ⟨#[105, 110, 32, 97, 32, 108, 105, 115, 116]⟩, .iface 154 (.pointer (some ⟨gw, 0, none⟩))] 158)
          have hcn4 := (HCN.out.to (w' := w4) (S' := fun b => ¬ (X b ∨ (Value.slice Ao k co).ownBlock = some b) ∧ E ≤ b) (fun b hb hlt => ⟨ltle hlt HC4.out.size, HC4.out.block b hlt id⟩) fun b hb hlt => ⟨fun h => h.elim (fun h => by have := HX1.out b h; omega) fun h => by have := own_lt HOWN.out h; omega, by omega⟩)
          have HBAD := Lib.hid (bad_any _ (hp4.below hal) (hcn4.freshMore _ ⟨fun h => absurd (hlx _ h) (Nat.lt_irrefl _), hE4⟩))
          clear hp4 hlx hal hcn4 hE4
          refine HBAD.out.mono ?_
          rintro e w5 ⟨rfl, hc5, hp5⟩
          have HP5 := Lib.hid hp5
          have HC35 := Lib.hid (show Chg (fun b => b = g) w3 w5 from ((HC4.out.mono (M' := fun b => b = g) fun _ h => h.elim).alloc _).trans hc5 fun b h => .inl h)
          have HB5 := Lib.hid ((HB4.out.alloc _).chg hc5 (fun h => by omega))
          clear hc5 hp5 HBAD
          have HO2 := Lib.hid (show ∀ ob, Own (w5.alloc ob) 90 69 (.slice Ao k co) k css.flatten from fun ob => own_keep HOWN.out fun b hb => (by have h1 := own_lt HOWN.out hb; have h2 := HOB.out b hb; have h3 := HB3.out.size; exact (Below.heap_alloc w5 ob b (ltle (ltle h1 h3) HC35.out.size)).trans ((HC35.out.block b (ltle h1 h3) (fun e => by omega)).trans (HB3.out.block b h1))))
          have HS2 := Lib.hid (Cs.of_new w5 90 (size := 69) 1 (cs := C) (by rw [HL.out]) (by simp only [maxLen]; decide))
          go_wp2_with (first
            | (refine wpList_load_blk' rfl 90 _ rfl HB5.out rfl Tryz.underlying90 rfl HI.out ?_)
            | (refine wpList_row1 rfl 104 90 _ rfl Tryz.underlying104 (.agg C.toArray) rfl C rfl HI2.out (by rw [HL.out]; decide) (by rw [HL.out]; decide) ?_)
            | (at_builtin; refine wpList_app _ rfl _ _ _ rfl Tryz.underlying104 info_allVote_any rfl (by decide) (HO2.out _) rfl HS2.out rfl H1.out H63.out.1 H63.out.2 ?_; intro v6 w6 ho6 hc6 hnil6 hat6; clear hnil6; have HO6 := Lib.hid ho6; clear ho6; have HC6 := Lib.hid hc6; clear hc6; have HAT6 := Lib.hid hat6; clear hat6))
          refine ⟨⟨k + 1, by omega, by push_cast; rfl, AllI.step hgw hwS HOWN.out HOB.out HLO.out HCH.out HB3.out (by have := HO.out; rw [Bool.or_true] at this; exact this) HC35.out HP5.out HTK.out HO6.out HC6.out HAT6.out⟩, ?_⟩
          simp only [intOf]; omega
      · have hk' : k = l.length := by omega
        subst hk'
        have HI := Lib.hid hI
        clear hI
        go_wp2_with fail
        go_ret
        exact HI.out.out rfl HSPL.out (fun _ => rfl) HGX.out HC2.out
end
section
open Go.RowKit Go.Maps
attribute [-simp] Tryz.isAgg36 Tryz.typeInfo36 Tryz.isAgg97 Tryz.typeInfo97
theorem size_allTimeout_any : (Tryz.prog.info? 97).map (·.size) = some 74 := by kernel_rfl
theorem sizes_allTimeout_any : (Tryz.prog.info? 97).map (fun i => (i.zero.map (fun z => z.cells.size), i.size)) = some (some 74, 74) := by kernel_rfl
theorem info_allTimeout_any : (Tryz.prog.info? 97).map (fun i => (i.zero, i.size, i.bytes)) = some (some (.agg (([.int .i64 0, .int .i64 0, .int .i64 0] ++ ([.int .i64 0, .int .i64 0, .int .i64 0] ++ List.replicate 32 (.int .u8 0) ++ [.slice none 0 0, .slice none 0 0]) ++ [.int .i64 0] ++ ([.int .i64 0] ++ List.replicate 32 (.int .u8 0)) : List Value)).toArray), 74, 176) := by kernel_rfl
set_option maxHeartbeats 8000000 in
set_option maxRecDepth 100000 in
theorem allTimeout_any (w : World) {X : Nat → Prop} {E g : Nat} {sent : Value} {x : List UInt8} {rows : List (List UInt8)} {bad : Bool} (h : Pt w X E g sent (x :: rows) bad) (hxl : x.length ≤ 262144) :
    Calls Tryz.prog 98 #[.pointer (some ⟨g, 0, none⟩), .func (Fn.func 67) #[] #[]] w (Took (.list tTimeout) w X E g sent x rows bad) := by
  have hgx := h.2.2.1
  have hgw := h.lt
  have hEw := h.2.2.2.2.1
  have HGX := Lib.hid hgx
  have HX1 := Lib.hid (show ∀ b, X b → b < w.heap.size from h.2.2.2.1)
  have H := Lib.hid (next_any _ h)
  clear h hgx
  go_enter Tryz.func98, Tryz.ntmps98
  go_wp2_with fail
  refine H.out.mono ?_
  rintro e w1 ⟨v1, rfl, hb1, hc1, hp1⟩
  have HSP := Lib.hid (split_any w1 hb1 (by omega))
  have hz1 := hc1.size
  have HP1 := Lib.hid hp1
  have HC1 := Lib.hid hc1
  obtain ⟨A1, c1, rfl⟩ := hb1.form
  clear hb1 hp1 hc1 H
  go_wp2_with fail
  refine HSP.out.mono ?_
  rintro e w2 ⟨hb2, ⟨hno, rfl⟩ | ⟨v2, l, hsp, rfl, hbss⟩⟩
  · have HNO := Lib.hid hno; clear hno
    have hp2 := HP1.out.below hb2
    obtain ⟨⟨sa, rfl⟩, hgl⟩ := hp2.1
    have hgl : w2.cell? ⟨gF, 0, none⟩ = some _ := hgl
    unfold gF at hgl
    have hlx := hp2.2.2.2.1
    have hE2 := hp2.2.2.2.2.1
    have hal := (Below.refl w2.heap.size w2).alloc (Nat.le_refl _) (.cells #[.string ⟨#[97, 32, 108, 105, 115, 116]⟩, .iface 237 (.pointer (some sa))] 158)
    have HBAD := Lib.hid (bad_any _ (hp2.below hal) (Chain.fresh _ ⟨fun h => absurd (hlx _ h) (Nat.lt_irrefl _), hE2⟩))
    have HC2 := Lib.hid (HC1.out.trans (Chg.of_below hb2 fun k => k = g) fun b h => .inl h)
    clear hp2 hlx hal hE2 hb2 HP1 HC1 HSP
    go_wp2_with fail
    refine HBAD.out.mono ?_
    rintro e w3 ⟨rfl, hc3, hp3⟩
    have HP3 := Lib.hid hp3
    have HC3 := Lib.hid hc3
    clear hp3 hc3 HBAD
    go_wp2_with fail
    refine wp_loop_rounds 1 ?_
    rw [rounds_succ]
    go_wp2
    go_ret
    exact ⟨[.slice none 0 0], true, rfl, (HC2.out.alloc _).trans HC3.out fun b h => .inl h, HP3.out, SOut.noList HNO.out rfl⟩
  · have hrl : ∀ y ∈ l, y.length ≤ 262144 := fun y hy => Nat.le_trans (joinP_mem_le hsp y hy) hxl
    have hll : l.length ≤ 32768 := by
      have h1 := splitB_back hsp
      have h2 := joinP_count l
      rw [← h1, joinB_length] at hxl
      omega
    obtain ⟨A2, c2, rfl⟩ := hbss.form
    have HROWS := Lib.hid (((hbss.read fun y hy => by have := hrl y hy; omega).lt_ (T := fun b => w1.heap.size ≤ b) fun b h => h.elim id id).subs (T := fun b => b ≠ g) fun b hb _ => by have := hb.1; omega)
    have HP2 := Lib.hid (HP1.out.below hb2)
    have HC2 := Lib.hid (HC1.out.trans (Chg.of_below hb2 fun k => k = g) fun b h => .inl h)
    have HSPL := Lib.hid hsp
    have HRL := Lib.hid hrl
    have hwS : w.heap.size ≤ w2.heap.size := Nat.le_trans hz1 hb2.size
    clear hbss hsp hrl hb2 HP1 HC1 HSP hxl
    go_wp2_with fail
    go_loopw [7, 28] (fun o i wr => ∃ k : Nat, k ≤ l.length ∧ i = .int .i64 k ∧ AllI 97 74 tTimeout w w2 X E g sent rows bad l o k wr) (fun _ i _ => l.length - (intOf i).toNat)
    case atStart => exact ⟨0, Nat.zero_le _, rfl, AllI.start HP2.out⟩
    case round =>
      obtain ⟨k, hk, rfl, hI⟩ := hrel
      by_cases hlt : k < l.length
      · obtain ⟨css, bk, hown, hob, hlo, hpt, hch⟩ := hI
        obtain ⟨ba, oa, ua, rfl, hca, hua, _, hSb⟩ := (HROWS.out.chg hch (fun b hb h => hb h)).at_ hlt
        have htk : l.take (k + 1) = l.take k ++ [l[k]] := List.take_succ_eq_append_getElem hlt
        have hyl := HRL.out l[k] (List.getElem_mem hlt)
        obtain ⟨y, hy⟩ : ∃ y, y = l[k] := ⟨_, rfl⟩
        rw [← hy] at hua htk hyl
        have HR := Lib.hid (readTimeout_any wr hua hyl hpt.1)
        obtain ⟨Ay, cy, rfl⟩ := hua.form
        obtain ⟨Ao, co, rfl⟩ := hown.form
        have HOWN := Lib.hid hown
        have HOB := Lib.hid hob
        have HLO := Lib.hid hlo
        have HPT := Lib.hid hpt
        have HCH := Lib.hid hch
        have HTK := Lib.hid htk
        have H63 := Lib.hid (show k + 1 ≤ maxLen ∧ (k + 1) * 176 ≤ 140737488355328 from ⟨by simp only [maxLen]; omega, by omega⟩)
        have hzr := hch.size
        clear hown hob hlo hpt hch htk hy hua hyl
        go_wp2_with fail
        refine HR.out.mono ?_
        rintro e w3 hro
        obtain ⟨C, err, bd, rfl, h1, hl, hb3, he, ho⟩ := hro.agg (fun _ => rfl)
        have hl : C.length = 74 := hl
        have HL := Lib.hid hl
        have HI := Lib.hid (show (Tryz.prog.info? 97).map (·.size) = some C.length from by rw [hl]; exact size_allTimeout_any)
        have HI2 := Lib.hid (show (Tryz.prog.info? 97).map (fun i => (i.zero.map (fun z => z.cells.size), i.size)) = some (some C.length, C.length) from by rw [hl]; exact sizes_allTimeout_any)
        have H1 := Lib.hid h1
        clear h1 hl
        have HB3 := Lib.hid hb3
        have HP3 := Lib.hid (HPT.out.below hb3)
        have HO := Lib.hid (ho.or_ bk)
        clear hro hb3 ho HR
        rcases he with ⟨rfl, rfl⟩ | ⟨rfl, hcn⟩
        · skip
          go_wp2_with (first
            | (refine wpList_store_blk (cs0 := ([.int .i64 0, .int .i64 0, .int .i64 0] ++ ([.int .i64 0, .int .i64 0, .int .i64 0] ++ List.replicate 32 (.int .u8 0) ++ [.slice none 0 0, .slice none 0 0]) ++ [.int .i64 0] ++ ([.int .i64 0] ++ List.replicate 32 (.int .u8 0)) : List Value)) (cs := C) rfl 97 _ _ rfl (Blk.new w3 _ _) rfl rfl (by rw [HL.out]; rfl) HI.out H1.out ?_; intro w4 hb4 hc4; have HB4 := Lib.hid hb4; have HC4 := Lib.hid (show Chg (fun _ => False) w3 w4 from ((Chg.refl _ w3).alloc _).trans hc4 fun b h => .inr (Nat.le_of_eq h.symm)); clear hb4 hc4; have HO2 := Lib.hid (show ∀ ob, Own (w4.alloc ob) 97 74 (.slice Ao k co) k css.flatten from fun ob => own_keep HOWN.out fun b hb => (by have h1 := own_lt HOWN.out hb; have h2 := HOB.out b hb; have h3 := HB3.out.size; exact (Below.heap_alloc w4 ob b (ltle (ltle h1 h3) HC4.out.size)).trans ((HC4.out.block b (ltle h1 h3) id).trans (HB3.out.block b h1)))); have HS2 := Lib.hid (Cs.of_new w4 97 (size := 74) 1 (cs := C) (by rw [HL.out]) (by simp only [maxLen]; decide)))
            | (refine wpList_load_blk' rfl 97 _ rfl HB4.out rfl Tryz.underlying97 rfl HI.out ?_)
            | (refine wpList_row1 rfl 105 97 _ rfl Tryz.underlying105 (.agg C.toArray) rfl C rfl HI2.out (by rw [HL.out]; decide) (by rw [HL.out]; decide) ?_)
            | (at_builtin; refine wpList_app _ rfl _ _ _ rfl Tryz.underlying105 info_allTimeout_any rfl (by decide) (HO2.out _) rfl HS2.out rfl H1.out H63.out.1 H63.out.2 ?_; intro v6 w6 ho6 hc6 hnil6 hat6; clear hnil6; have HO6 := Lib.hid ho6; clear ho6; have HC6 := Lib.hid hc6; clear hc6; have HAT6 := Lib.hid hat6; clear hat6))
          refine ⟨⟨k + 1, by omega, by push_cast; rfl, AllI.step hgw hwS HOWN.out HOB.out HLO.out HCH.out HB3.out (by have := HO.out; rw [Bool.or_false] at this; exact this) (HC4.out.mono (M' := fun b => b = g) fun _ h => h.elim) (HP3.out.chg HC4.out fun b h => h.elim) HTK.out HO6.out HC6.out HAT6.out⟩, ?_⟩
          simp only [intOf]; omega
        · skip
          obtain ⟨gw, rfl⟩ := hcn.form
          have HCN := Lib.hid hcn; clear hcn
          go_wp2_with (refine wpList_store_blk (cs0 := ([.int .i64 0, .int .i64 0, .int .i64 0] ++ ([.int .i64 0, .int .i64 0, .int .i64 0] ++ List.replicate 32 (.int .u8 0) ++ [.slice none 0 0, .slice none 0 0]) ++ [.int .i64 0] ++ ([.int .i64 0] ++ List.replicate 32 (.int .u8 0)) : List Value)) (cs := C) rfl 97 _ _ rfl (Blk.new w3 _ _) rfl rfl (by rw [HL.out]; rfl) HI.out H1.out ?_; intro w4 hb4 hc4; have HB4 := Lib.hid hb4; have HC4 := Lib.hid (show Chg (fun _ => False) w3 w4 from ((Chg.refl _ w3).alloc _).trans hc4 fun b h => .inr (Nat.le_of_eq h.symm)); clear hb4 hc4)
          have hp4 := (HP3.out.chg HC4.out fun b h => h.elim)
          have hlx := hp4.2.2.2.1
          have hE4 := hp4.2.2.2.2.1
          have hz4 := HC4.out.size
          have hz3 := HB3.out.size
          have hal := (Below.refl w4.heap.size w4).alloc (Nat.le_refl _) (.cells #[.string ⟨#[105, 110, 32, 97, 32, 108, 105, 115, 116]⟩, .iface 154 (.pointer (some ⟨gw, 0, none⟩))] 158)
          have hcn4 := (HCN.out.to (w' := w4) (S' := fun b => ¬ (X b ∨ (Value.slice Ao k co).ownBlock = some b) ∧ E ≤ b) (fun b hb hlt => ⟨ltle hlt HC4.out.size, HC4.out.block b hlt id⟩) fun b hb hlt => ⟨fun h => h.elim (fun h => by have := HX1.out b h; omega) fun h => by have := own_lt HOWN.out h; omega, by omega⟩)
          have HBAD := Lib.hid (bad_any _ (hp4.below hal) (hcn4.freshMore _ ⟨fun h => absurd (hlx _ h) (Nat.lt_irrefl _), hE4⟩))
          clear hp4 hlx hal hcn4 hE4
          refine HBAD.out.mono ?_
          rintro e w5 ⟨rfl, hc5, hp5⟩
          have HP5 := Lib.hid hp5
          have HC35 := Lib.hid (show Chg (fun b => b = g) w3 w5 from ((HC4.out.mono (M' := fun b => b = g) fun _ h => h.elim).alloc _).trans hc5 fun b h => .inl h)
          have HB5 := Lib.hid ((HB4.out.alloc _).chg hc5 (fun h => by omega))
          clear hc5 hp5 HBAD
          have HO2 := Lib.hid (show ∀ ob, Own (w5.alloc ob) 97 74 (.slice Ao k co) k css.flatten from fun ob => own_keep HOWN.out fun b hb => (by have h1 := own_lt HOWN.out hb; have h2 := HOB.out b hb; have h3 := HB3.out.size; exact (Below.heap_alloc w5 ob b (ltle (ltle h1 h3) HC35.out.size)).trans ((HC35.out.block b (ltle h1 h3) (fun e => by omega)).trans (HB3.out.block b h1))))
          have HS2 := Lib.hid (Cs.of_new w5 97 (size := 74) 1 (cs := C) (by rw [HL.out]) (by simp only [maxLen]; decide))
          go_wp2_with (first
            | (refine wpList_load_blk' rfl 97 _ rfl HB5.out rfl Tryz.underlying97 rfl HI.out ?_)
            | (refine wpList_row1 rfl 105 97 _ rfl Tryz.underlying105 (.agg C.toArray) rfl C rfl HI2.out (by rw [HL.out]; decide) (by rw [HL.out]; decide) ?_)
            | (at_builtin; refine wpList_app _ rfl _ _ _ rfl Tryz.underlying105 info_allTimeout_any rfl (by decide) (HO2.out _) rfl HS2.out rfl H1.out H63.out.1 H63.out.2 ?_; intro v6 w6 ho6 hc6 hnil6 hat6; clear hnil6; have HO6 := Lib.hid ho6; clear ho6; have HC6 := Lib.hid hc6; clear hc6; have HAT6 := Lib.hid hat6; clear hat6))
          refine ⟨⟨k + 1, by omega, by push_cast; rfl, AllI.step hgw hwS HOWN.out HOB.out HLO.out HCH.out HB3.out (by have := HO.out; rw [Bool.or_true] at this; exact this) HC35.out HP5.out HTK.out HO6.out HC6.out HAT6.out⟩, ?_⟩
          simp only [intOf]; omega
      · have hk' : k = l.length := by omega
        subst hk'
        have HI := Lib.hid hI
        clear hI
        go_wp2_with fail
        go_ret
        exact HI.out.out rfl HSPL.out (fun _ => rfl) HGX.out HC2.out
end
section
open Go.RowKit Go.Maps
attribute [-simp] Tryz.isAgg36 Tryz.typeInfo36 Tryz.isAgg107 Tryz.typeInfo107
theorem info_readMessage : (Tryz.prog.info? 107).map (fun i => (i.zero.map (fun z => z.cells.size))) = some (some 40) := by kernel_rfl
theorem size_readMessage : (Tryz.prog.info? 107).map (·.size) = some 40 := by kernel_rfl
theorem places_readMessage : ((match Tryz.prog.underlying 107 with | some (.struct fields) => fields.toList.mapM (fun f => (Tryz.prog.info? f.type).map fun i => (f.offset, i.size)) | _ => none)) = some [(0, 1), (1, 1), (2, 1), (3, 32), (35, 1), (36, 1), (37, 1), (38, 1), (39, 1)] := by kernel_rfl
set_option maxHeartbeats 4000000 in
set_option maxRecDepth 100000 in
theorem readMessage_any (w : World) {S : Nat → Prop} {v sent : Value} {bs : List UInt8} (h : Bs w S v bs) (hlen : bs.length ≤ 262144) (hg : Gl w sent) :
    Calls Tryz.prog 69 #[v] w (ReadOut (.tup (.cons i64 (.cons i64 (.cons i64 (.cons .dig (.cons (.list tBlock) (.cons (.list tVote) (.cons (.list tTimeout) (.cons (.list tCommit) (.cons (.list tTx) .nil)))))))))) w sent bs) := by
  have hal := (Below.refl w.heap.size w).alloc (Nat.le_refl _) (.cells (([.int .i64 0, .int .i64 0, .int .i64 0] ++ List.replicate 32 (.int .u8 0) ++ [.slice none 0 0, .slice none 0 0, .slice none 0 0, .slice none 0 0, .slice none 0 0] : List Value)).toArray 107)
  have HS := Lib.hid (psplit_any _ (h.below hal) (by omega) (hg.below hal) 9 (by omega) ⟨#[97, 32, 109, 101, 115, 115, 97, 103, 101]⟩)
  have HN := Lib.hid (Blk.new w 107 (([.int .i64 0, .int .i64 0, .int .i64 0] ++ List.replicate 32 (.int .u8 0) ++ [.slice none 0 0, .slice none 0 0, .slice none 0 0, .slice none 0 0, .slice none 0 0] : List Value)).toArray)
  have HAL := Lib.hid hal
  obtain ⟨A, cap, rfl⟩ := h.form
  clear h hg hal
  go_enter Tryz.func69, Tryz.ntmps69
  go_wp2_with fail
  refine HS.out.mono ?_
  rintro e w1 ⟨g, rows, bad, rfl, hgw, hb1, hp, hn, hrl, hs⟩
  obtain ⟨r0, r1, r2, r3, r4, r5, r6, r7, r8, rfl⟩ : ∃ r0 r1 r2 r3 r4 r5 r6 r7 r8, rows = [r0, r1, r2, r3, r4, r5, r6, r7, r8] := by
    match rows, hn with
    | [r0, r1, r2, r3, r4, r5, r6, r7, r8], _ => exact ⟨r0, r1, r2, r3, r4, r5, r6, r7, r8, rfl⟩
  have HK := Lib.hid (HN.out.below hb1 (by simp))
  have hgw' : w.heap.size + 1 ≤ g := by simpa using hgw
  have hz1 : w.heap.size + 1 ≤ w1.heap.size := by simpa using hb1.size
  have HB1 := Lib.hid (HAL.out.trans (hb1.mono (by simp)))
  have HSS := Lib.hid hs
  have HRL := Lib.hid (show ∀ x ∈ [r0, r1, r2, r3, r4, r5, r6, r7, r8], x.length ≤ 262144 from fun x hx => Nat.le_trans (hrl x hx) hlen)
  have hE : Pt w1 (fun b => b = g) (w.heap.size + 1) g sent [r0, r1, r2, r3, r4, r5, r6, r7, r8] bad := by simpa using hp
  clear HS HN HAL hgw hb1 hs hn hp hrl hlen
  have hp0 := hE
  clear hE
  go_wp2_with fail
  refine (int_any _ hp0).mono ?_
  rintro e w2 ht
  obtain ⟨y0, b0, rfl, h10, hc0, hp1, ho0⟩ := ht.one (fun _ => rfl) rfl
  have hgl0 := hp0.lt
  have hz2 := Nat.le_trans hz1 hc0.size
  have HO0 := Lib.hid ho0
  have HC0 := Lib.hid hc0
  have H10 := Lib.hid h10
  clear ht ho0 hc0 h10 hp0
  go_wp2_with fail
  refine (int_any _ hp1).mono ?_
  rintro e w3 ht
  obtain ⟨y1, b1, rfl, h11, hc1, hp2, ho1⟩ := ht.one (fun _ => rfl) rfl
  have hgl1 := hp1.lt
  have hz3 := Nat.le_trans hz2 hc1.size
  have HO1 := Lib.hid ho1
  have HC1 := Lib.hid hc1
  have H11 := Lib.hid h11
  clear ht ho1 hc1 h11 hp1
  go_wp2_with fail
  refine (n_any _ hp2).mono ?_
  rintro e w4 ht
  obtain ⟨y2, b2, rfl, h12, hc2, hp3, ho2⟩ := ht.one (fun _ => rfl) rfl
  have hgl2 := hp2.lt
  have hz4 := Nat.le_trans hz3 hc2.size
  have HO2 := Lib.hid ho2
  have HC2 := Lib.hid hc2
  have H12 := Lib.hid h12
  clear ht ho2 hc2 h12 hp2
  go_wp2_with fail
  refine (pdigest_any _ hp3).mono ?_
  rintro e w5 ht
  obtain ⟨c3, b3, rfl, h13, hl3, hc3, hp4, ho3⟩ := ht.agg (fun _ => rfl)
  have hl3 : c3.length = 32 := hl3
  have hgl3 := hp3.lt
  have hz5 := Nat.le_trans hz4 hc3.size
  have HO3 := Lib.hid ho3
  have HC3 := Lib.hid hc3
  have H13 := Lib.hid h13
  have HL3 := Lib.hid hl3
  clear hl3
  clear ht ho3 hc3 h13 hp3
  go_wp2_with fail
  refine (allBlock_any _ hp4 (HRL.out _ (by simp))).mono ?_
  rintro e w6 ht
  obtain ⟨y4, b4, rfl, h14, hc4, hp5, ho4⟩ := ht.one (fun _ => rfl) rfl
  have hgl4 := hp4.lt
  have hz6 := Nat.le_trans hz5 hc4.size
  have HO4 := Lib.hid ho4
  have HC4 := Lib.hid hc4
  have H14 := Lib.hid h14
  clear ht ho4 hc4 h14 hp4
  go_wp2_with fail
  refine (allVote_any _ hp5 (HRL.out _ (by simp))).mono ?_
  rintro e w7 ht
  obtain ⟨y5, b5, rfl, h15, hc5, hp6, ho5⟩ := ht.one (fun _ => rfl) rfl
  have hgl5 := hp5.lt
  have hz7 := Nat.le_trans hz6 hc5.size
  have HO5 := Lib.hid ho5
  have HC5 := Lib.hid hc5
  have H15 := Lib.hid h15
  clear ht ho5 hc5 h15 hp5
  go_wp2_with fail
  refine (allTimeout_any _ hp6 (HRL.out _ (by simp))).mono ?_
  rintro e w8 ht
  obtain ⟨y6, b6, rfl, h16, hc6, hp7, ho6⟩ := ht.one (fun _ => rfl) rfl
  have hgl6 := hp6.lt
  have hz8 := Nat.le_trans hz7 hc6.size
  have HO6 := Lib.hid ho6
  have HC6 := Lib.hid hc6
  have H16 := Lib.hid h16
  clear ht ho6 hc6 h16 hp6
  go_wp2_with fail
  refine (allCommit_any _ hp7 (HRL.out _ (by simp))).mono ?_
  rintro e w9 ht
  obtain ⟨y7, b7, rfl, h17, hc7, hp8, ho7⟩ := ht.one (fun _ => rfl) rfl
  have hgl7 := hp7.lt
  have hz9 := Nat.le_trans hz8 hc7.size
  have HO7 := Lib.hid ho7
  have HC7 := Lib.hid hc7
  have H17 := Lib.hid h17
  clear ht ho7 hc7 h17 hp7
  go_wp2_with fail
  refine (allTx_any _ hp8 (HRL.out _ (by simp))).mono ?_
  rintro e w10 ht
  obtain ⟨y8, b8, rfl, h18, hc8, hp9, ho8⟩ := ht.one (fun _ => rfl) rfl
  have hgl8 := hp8.lt
  have hz10 := Nat.le_trans hz9 hc8.size
  have HO8 := Lib.hid ho8
  have HC8 := Lib.hid hc8
  have H18 := Lib.hid h18
  clear ht ho8 hc8 h18 hp8
  have hbu := run_struct (P := Tryz.prog) (vs := [y0, y1, y2, .agg c3.toArray, y4, y5, y6, y7, y8]) (cs := [[y0], [y1], [y2], c3, [y4], [y5], [y6], [y7], [y8]]) info_readMessage places_readMessage ⟨cells_one H10.out, cells_one H11.out, cells_one H12.out, rfl, cells_one H14.out, cells_one H15.out, cells_one H16.out, cells_one H17.out, cells_one H18.out, trivial⟩ (by simp [PlaceOk, HL3.out]) (by simp [HL3.out]) #[(0, y0), (1, y1), (2, y2), (3, .agg c3.toArray), (4, y4), (5, y5), (6, y6), (7, y7), (8, y8)] rfl
  have hone : ∀ v ∈ [[y0], [y1], [y2], c3, [y4], [y5], [y6], [y7], [y8]].flatten, v.oneCell' = true := by
    intro v hv
    simp only [List.flatten_cons, List.flatten_nil, List.mem_append, List.mem_singleton, List.not_mem_nil, or_false] at hv
    rcases hv with rfl | rfl | rfl | hv | rfl | rfl | rfl | rfl | rfl
    · exact H10.out
    · exact H11.out
    · exact H12.out
    · exact H13.out v hv
    · exact H14.out
    · exact H15.out
    · exact H16.out
    · exact H17.out
    · exact H18.out
  have HOUT := Lib.hid (show Fs.Out (.cons i64 (.cons i64 (.cons i64 (.cons .dig (.cons (.list tBlock) (.cons (.list tVote) (.cons (.list tTimeout) (.cons (.list tCommit) (.cons (.list tTx) .nil))))))))) w10 (Nw (w.heap.size + 1) w10) [r0, r1, r2, r3, r4, r5, r6, r7, r8] [[y0], [y1], [y2], c3, [y4], [y5], [y6], [y7], [y8]].flatten bad b8 from by
    have := Fs.Out.step HO0.out (Fs.Out.step HO1.out (Fs.Out.step HO2.out (Fs.Out.step HO3.out (Fs.Out.step HO4.out (Fs.Out.step HO5.out (Fs.Out.step HO6.out (Fs.Out.step HO7.out (Fs.Out.step HO8.out (Fs.Out.nil_ w10 _ _) (Chg.refl _ _) hgl8 hz9) HC8.out hgl7 hz8) (HC7.out.trans HC8.out fun b h => .inl h) hgl6 hz7) ((HC6.out.trans HC7.out fun b h => .inl h).trans HC8.out fun b h => .inl h) hgl5 hz6) (((HC5.out.trans HC6.out fun b h => .inl h).trans HC7.out fun b h => .inl h).trans HC8.out fun b h => .inl h) hgl4 hz5) ((((HC4.out.trans HC5.out fun b h => .inl h).trans HC6.out fun b h => .inl h).trans HC7.out fun b h => .inl h).trans HC8.out fun b h => .inl h) hgl3 hz4) (((((HC3.out.trans HC4.out fun b h => .inl h).trans HC5.out fun b h => .inl h).trans HC6.out fun b h => .inl h).trans HC7.out fun b h => .inl h).trans HC8.out fun b h => .inl h) hgl2 hz3) ((((((HC2.out.trans HC3.out fun b h => .inl h).trans HC4.out fun b h => .inl h).trans HC5.out fun b h => .inl h).trans HC6.out fun b h => .inl h).trans HC7.out fun b h => .inl h).trans HC8.out fun b h => .inl h) hgl1 hz2) (((((((HC1.out.trans HC2.out fun b h => .inl h).trans HC3.out fun b h => .inl h).trans HC4.out fun b h => .inl h).trans HC5.out fun b h => .inl h).trans HC6.out fun b h => .inl h).trans HC7.out fun b h => .inl h).trans HC8.out fun b h => .inl h) hgl0 hz1
    simpa using this)
  have HCA := Lib.hid (show Chg (fun k => k = g) w1 w10 from ((((((((HC0.out.trans HC1.out fun b h => .inl h).trans HC2.out fun b h => .inl h).trans HC3.out fun b h => .inl h).trans HC4.out fun b h => .inl h).trans HC5.out fun b h => .inl h).trans HC6.out fun b h => .inl h).trans HC7.out fun b h => .inl h).trans HC8.out fun b h => .inl h))
  have hcl : [[y0], [y1], [y2], c3, [y4], [y5], [y6], [y7], [y8]].flatten.length = 40 := by simp [HL3.out]
  obtain ⟨C, hC⟩ : ∃ C, C = [[y0], [y1], [y2], c3, [y4], [y5], [y6], [y7], [y8]].flatten := ⟨_, rfl⟩
  rw [← hC] at hbu hone hcl HOUT
  have HBU := Lib.hid hbu
  have HONE := Lib.hid hone
  have HCL := Lib.hid hcl
  have HI := Lib.hid (show (Tryz.prog.info? 107).map (·.size) = some C.length from by rw [hcl]; exact size_readMessage)
  have HK2 := Lib.hid (HK.out.chg HCA.out (show ¬ w.heap.size = g from by omega))
  clear hbu hone hcl hC HK HO0 HC0 H10 HO1 HC1 H11 HO2 HC2 H12 HO3 HC3 H13 HO4 HC4 H14 HO5 HC5 H15 HO6 HC6 H16 HO7 HC7 H17 HO8 HC8 H18 HL3
  have HP := Lib.hid hp9
  have hgX := hp9.lt
  clear hp9
  have hbu := HBU.out w10
  have HX := Lib.hid (HP.out.parts)
  go_wp2_with (first | (refine wpList_build_ rfl 107 _ rfl #[(0, y0), (1, y1), (2, y2), (3, .agg c3.toArray), (4, y4), (5, y5), (6, y6), (7, y7), (8, y8)] (by simp [Act.eval]) _ hbu ?_) | (refine wpList_store_blk (cs0 := ([.int .i64 0, .int .i64 0, .int .i64 0] ++ List.replicate 32 (.int .u8 0) ++ [.slice none 0 0, .slice none 0 0, .slice none 0 0, .slice none 0 0, .slice none 0 0] : List Value)) (cs := C) rfl 107 _ _ rfl (Blk.new w10 _ _) rfl rfl (by rw [HCL.out]; rfl) HI.out HONE.out ?_; intro wx hbx hcx; have HBX := Lib.hid hbx; have HCX := Lib.hid hcx; clear hbx hcx))
  obtain ⟨vy, ey, hblk, herr⟩ := HX.out
  have HCX' := Lib.hid (show Chg (fun _ => False) w10 wx from ((Chg.refl _ w10).alloc _).trans HCX.out fun b h => .inr (Nat.le_of_eq h.symm))
  have HGX := Lib.hid (hblk.chg HCX'.out id)
  have HKX := Lib.hid (HK2.out.chg HCX'.out id)
  have HE := Lib.hid herr
  clear hbu hblk herr HX HBU
  refine wp_region_hoist [0, 1, 2, 3, 4] [5] [6] (fun w' => Blk w' w10.heap.size 107 C.toArray ∧ Blk w' g 168 #[vy, ey])
    (by kernel_rfl) (by kernel_rfl) (by kernel_rfl) (by kernel_rfl) (by kernel_rfl) (by kernel_rfl) ⟨HBX.out.drew, HGX.out.drew⟩ ?_
  (refine HoistK.load (by rfl) (by kernel_rfl) 107 _ rfl w10.heap.size 0 rfl C _ (fun w' hw => hw.1.range) Tryz.underlying107 rfl HI.out ?_; simp only [Act.put, setIfInBounds_toArray, getElem_toArray, getElem_cons_zero, set_cons_succ, set_cons_zero])
  iterate 3 (refine HoistK.yes (by rfl) (by kernel_rfl) ⟨?_, fun w' hSw => ?_, ?_⟩; rotate_left; (· go_simp; try with_reducible rfl); simp only [Act.put, setIfInBounds_toArray, getElem_toArray, getElem_cons_succ, getElem_cons_zero, set_cons_succ, set_cons_zero])
  (refine HoistK.yes (by rfl) (by kernel_rfl) ⟨?_, fun w' hSw => ?_, ?_⟩; rotate_left; (· have hcc := hSw.2.cell; go_simp; try with_reducible rfl); simp only [Act.put, setIfInBounds_toArray, getElem_toArray, getElem_cons_succ, getElem_cons_zero, set_cons_succ, set_cons_zero])
  refine HoistK.nil_ ?_
  simp only [opsAt, filterMap_cons, filterMap_nil, getElem?_toArray, getElem?_cons_succ, getElem?_cons_zero]
  refine Effects.cons_ fun _ hQ1 => ?_
  go_wp2_with (refine wpList_store_blk (cs0 := ([.int .i64 0, .int .i64 0, .int .i64 0] ++ List.replicate 32 (.int .u8 0) ++ [.slice none 0 0, .slice none 0 0, .slice none 0 0, .slice none 0 0, .slice none 0 0] : List Value)) (cs := C) rfl 107 _ _ rfl HKX.out.drew rfl rfl (by rw [HCL.out]; rfl) HI.out HONE.out ?_; intro wy hby hcy; have HBY := Lib.hid hby; have HCY := Lib.hid hcy; clear hby hcy)
  refine hQ1 _ _ ⟨HBX.out.drew.chg HCY.out (fun h => by omega), HGX.out.drew.chg HCY.out (fun h => by omega)⟩ (Effects.nil_ fun _ hQ2 => ?_)
  go_wp2
  have hld := run_loadVar_mid (P := Tryz.prog) wy w.heap.size 0 107 C _ HBY.out.range Tryz.underlying107 rfl HI.out
  refine bodyPost_ret (v := .tuple #[.agg C.toArray, ey]) (by simp [results, Tryz.results69, asAddr, hld]) rfl ?_
  have hcf : Chg (fun b => b = w.heap.size) w10 wy := ((HCX'.out.mono fun _ h => h.elim).drew).trans HCY.out fun b h => .inl h
  exact ReadOut.mk (n := 9) HOUT.out HSS.out rfl HE.out (HB1.out.trans (HCA.out.below HB1.out.size fun b h => by omega)) hcf
end
section
open Go.RowKit Go.Maps
attribute [-simp] Tryz.isAgg36 Tryz.typeInfo36 Tryz.isAgg107 Tryz.typeInfo107
def zFMessage : List Value := ([.int .i64 0, .int .i64 0, .int .i64 0] ++ List.replicate 32 (.int .u8 0) ++ [.slice none 0 0, .slice none 0 0, .slice none 0 0, .slice none 0 0, .slice none 0 0] : List Value)
set_option maxRecDepth 100000 in
theorem one_faceMessage : ∀ v ∈ zFMessage, v.oneCell' = true := by decide
set_option maxRecDepth 100000 in
theorem len_faceMessage : zFMessage.length = 40 := by decide
theorem size_faceMessage : (Tryz.prog.info? 107).map (·.size) = some zFMessage.length := by kernel_rfl
set_option maxHeartbeats 8000000 in
set_option maxRecDepth 100000 in
theorem faceMessage_any (w : World) {S : Nat → Prop} {v sent : Value} {bs : List UInt8} (h : Bs w S v bs) (hp : Pk w sent) :
    Calls Tryz.prog 68 #[v, .func (Fn.func 69) #[] #[]] w (FaceOutN tMessage zFMessage w bs) := by
  obtain ⟨A, cap, rfl⟩ := h.form
  have hal1 := (Below.refl w.heap.size w).alloc (Nat.le_refl _) (.cells (zFMessage).toArray 107)
  have hal2 := hal1.alloc (by simp) (.cells (zFMessage).toArray 107)
  have hr0 := (Blk.new w 107 (zFMessage).toArray).alloc (.cells (zFMessage).toArray 107)
  have hz0 := Blk.new (w.alloc (.cells (zFMessage).toArray 107)) 107 (zFMessage).toArray
  rw [show (w.alloc (.cells (zFMessage).toArray 107)).heap.size = w.heap.size + 1 by simp] at hz0
  by_cases hbig : 262144 < bs.length
  · obtain ⟨sb, hsb⟩ : ∃ sb, w.cell? ⟨0, 0, none⟩ = some (.iface 237 (.pointer (some sb))) := by
      obtain ⟨_, _, b, _, _, _, _, _, _, _, _, h, _⟩ := hp
      exact ⟨b, h⟩
    have hgb : ∀ {W : World}, Below w.heap.size w W → W.cell? ⟨0, 0, none⟩ = some (.iface 237 (.pointer (some sb))) := fun hb => cell_low hsb hb
    clear h
    go_enter Tryz.func68, Tryz.ntmps68
    go_wp2_with fail
    have hb := hal2.drew
    have hr : Blk _ _ _ _ := hr0.drew
    have hz : Blk _ _ _ _ := hz0.drew
    clear hal1 hal2 hz0 hsb
    refine wp_region_hoist [0, 1, 2] [3, 4, 5] [6, 7] (fun w' => Blk w' (w.heap.size + 1) 107 (zFMessage).toArray ∧ w'.cell? ⟨0, 0, none⟩ = some (.iface 237 (.pointer (some sb)))) (by kernel_rfl) (by kernel_rfl) (by kernel_rfl) (by kernel_rfl) (by kernel_rfl) (by kernel_rfl) ⟨hz, hgb hb⟩ ?_
    (refine HoistK.load (by rfl) (by kernel_rfl) 107 _ rfl (w.heap.size + 1) 0 rfl zFMessage _ (fun w' hw => hw.1.range) Tryz.underlying107 rfl size_faceMessage ?_; simp only [Act.put, setIfInBounds_toArray, getElem_toArray, getElem_cons_zero, set_cons_succ, set_cons_zero])
    (refine HoistK.yes (by rfl) (by kernel_rfl) ⟨?_, fun w' hSw => ?_, ?_⟩; rotate_left; (· have hcc := hSw.2; go_simp; try with_reducible rfl); simp only [Act.put, setIfInBounds_toArray, getElem_toArray, getElem_cons_succ, getElem_cons_zero, set_cons_succ, set_cons_zero])
    (refine HoistK.yes (by rfl) (by kernel_rfl) ⟨?_, fun w' hSw => ?_, ?_⟩; rotate_left; (· go_simp; try with_reducible rfl); simp only [Act.put, setIfInBounds_toArray, getElem_toArray, getElem_cons_succ, getElem_cons_zero, set_cons_succ, set_cons_zero])
    refine HoistK.nil_ ?_
    simp only [opsAt, filterMap_cons, filterMap_nil, getElem?_toArray, getElem?_cons_succ, getElem?_cons_zero]
    refine Effects.world (F := fun W => Below w.heap.size w W ∧ Blk W w.heap.size 107 (zFMessage).toArray ∧ Blk W (w.heap.size + 1) 107 (zFMessage).toArray) (fun W hF => ?_) ⟨hb, hr, hz⟩
    clear hb hr hz hr0
    obtain ⟨hb, hr, hz⟩ := hF
    refine Effects.cons_ fun _ hQ => ?_
    have hzl := hz.lt
    go_wp2_with fail
    have hk := Blk.new W 158 #[.string ⟨#[97, 108, 108]⟩, .iface 237 (.pointer (some sb))]
    replace hb := hb.alloc hb.size (.cells #[.string ⟨#[97, 108, 108]⟩, .iface 237 (.pointer (some sb))] 158)
    replace hr := hr.alloc (.cells #[.string ⟨#[97, 108, 108]⟩, .iface 237 (.pointer (some sb))] 158)
    replace hz := hz.alloc (.cells #[.string ⟨#[97, 108, 108]⟩, .iface 237 (.pointer (some sb))] 158)
    obtain ⟨gg, hgg⟩ : ∃ gg, gg = W.heap.size := ⟨_, rfl⟩
    have hgn : gg ≠ w.heap.size := by omega
    rw [← hgg] at hk ⊢
    have HGG := Lib.hid hgg; clear hgg
    generalize W.alloc (.cells #[.string ⟨#[97, 108, 108]⟩, .iface 237 (.pointer (some sb))] 158) = W1 at *
    refine hQ _ _ ⟨hz, hgb hb⟩ (Effects.cons_ fun _ hQ => ?_)
    go_wp2_with fail
    refine hQ _ _ ⟨hz, hgb hb⟩ (Effects.cons_ fun _ hQ => ?_)
    go_wp2_with fail
    refine (told_any (r := true) _ (hp.below hb) ⟨gg, 1, _, rfl, .more hk .last, hgb hb⟩).mono ?_
    rintro e W2 ⟨rfl, hb2⟩
    replace hb := hb.trans (hb2.mono hb.size)
    replace hr := hr.below hb2 hr.lt
    replace hz := hz.below hb2 hz.lt
    replace hk := hk.below hb2 hk.lt
    go_wp2_with fail
    refine hQ _ _ ⟨hz, hgb hb⟩ (Effects.nil_ fun _ hQ => ?_)
    refine wpList_store_blk (cs0 := zFMessage) (cs := zFMessage) rfl 107 _ _ rfl hr rfl rfl rfl size_faceMessage one_faceMessage ?_
    intro W3 hr3 hc3
    go_wp2_with fail
    replace hb := hb.trans (hc3.below hb.size fun b h => Nat.le_of_eq h.symm)
    have hld := run_loadVar_mid (P := Tryz.prog) _ w.heap.size 0 107 zFMessage _ hr3.range Tryz.underlying107 rfl size_faceMessage
    exact bodyPost_ret (v := .tuple #[.agg (zFMessage).toArray, .int .i64 4]) (by simp [results, Tryz.results68, asAddr, hld]) rfl ⟨hb, _, 4, rfl, len_faceMessage, one_faceMessage, .inl ⟨hbig, rfl, rfl⟩⟩
  · have hlen : bs.length ≤ 262144 := by omega
    have HR := Lib.hid (readMessage_any _ (h.below hal2) hlen (hp.1.below hal2))
    have HA := Lib.hid hal2
    have HR0 := Lib.hid hr0
    have HZ0 := Lib.hid hz0
    clear h hal1 hal2 hr0 hz0
    go_enter Tryz.func68, Tryz.ntmps68
    go_wp2_with fail
    refine HR.out.mono ?_
    rintro e w2 hro
    obtain ⟨C, err, bd, rfl, h1, hl, hb2, he, ho⟩ := hro.agg (fun _ => rfl)
    have hl : C.length = 40 := hl
    have HL := Lib.hid hl
    have HI := Lib.hid (show (Tryz.prog.info? 107).map (·.size) = some C.length from by rw [hl]; rw [size_faceMessage, len_faceMessage])
    have H1 := Lib.hid h1
    have HK := Lib.hid (HR0.out.below hb2 HR0.out.lt)
    have HZ := Lib.hid (HZ0.out.below hb2 HZ0.out.lt)
    have hz2 : w.heap.size + 2 ≤ w2.heap.size := by have := hb2.size; simpa using this
    have HB2 := Lib.hid (HA.out.trans (hb2.mono HA.out.size))
    have HO := Lib.hid (show SOut tMessage w2 (Nw (w.heap.size + 2) w2) bs C false bd from ho.nw (fun b _ hlt => ⟨hlt, rfl⟩) (by simp))
    have he := he.to (w' := w2) (S' := fun b => w.heap.size + 2 ≤ b) (fun b _ hlt => ⟨hlt, rfl⟩) fun b hb _ => by simpa using hb
    clear hro h1 hl hb2 ho HR HA HR0 HZ0
    rcases he with ⟨rfl, rfl⟩ | ⟨rfl, hch⟩
    · go_wp2_with (first
        | (refine wpList_store_blk (cs0 := zFMessage) (cs := C) rfl 107 _ _ rfl (Blk.new w2 _ _) rfl rfl (by rw [HL.out]; exact len_faceMessage) HI.out H1.out ?_; intro w3 hb3 hc3; have HB3 := Lib.hid hb3
           have HC3 := Lib.hid (show Chg (fun _ => False) w2 w3 from ((Chg.refl _ w2).alloc _).trans hc3 fun b h => .inr (Nat.le_of_eq h.symm)); clear hb3 hc3
           have HK3 := Lib.hid (HK.out.chg HC3.out id))
        | (refine wpList_load_blk' rfl 107 _ rfl HB3.out rfl Tryz.underlying107 rfl HI.out ?_)
        | (refine wpList_store_blk (cs0 := zFMessage) (cs := C) rfl 107 _ _ rfl HK3.out rfl rfl (by rw [HL.out]; exact len_faceMessage) HI.out H1.out ?_; intro w9 hb9 hc9; have HB9 := Lib.hid hb9; have HC9 := Lib.hid hc9; clear hb9 hc9))
      have hld := run_loadVar_mid (P := Tryz.prog) w9 w.heap.size 0 107 C _ HB9.out.range Tryz.underlying107 rfl HI.out
      refine bodyPost_ret (v := .tuple #[.agg C.toArray, .int .i64 0]) (by simp [results, Tryz.results68, asAddr, hld]) rfl ?_
      obtain ⟨o1, o2, o3⟩ := HO.out
      have hc29 : Chg (fun b => b = w.heap.size) w2 w9 := (HC3.out.mono (M' := fun b => b = w.heap.size) fun _ h => h.elim).trans HC9.out fun b h => .inl h
      refine ⟨HB2.out.trans (hc29.below HB2.out.size fun b h => Nat.le_of_eq h.symm), C, 0, rfl, o1, o2, .inr ⟨hlen, .inl ?_⟩⟩
      rcases o3 with ⟨x, e1, _, e3⟩ | ⟨_, e2⟩
      · exact ⟨x, e1, rfl, Sh.rep_to (fun b hb hlt => ⟨ltle hlt hc29.size, hc29.block b hlt fun e => by have := hb.1; omega⟩) (fun b hb hlt => hb.to (by omega) (hc29.block b hlt fun e => by have := hb.1; omega)) _ _ _ e3⟩
      · cases e2
    · obtain ⟨gw, rfl⟩ := hch.form
      have HCH := Lib.hid hch; clear hch
      have hno : Sh.dec tMessage bs = none := by
        obtain ⟨_, _, o3⟩ := HO.out
        rcases o3 with ⟨x, _, e2, _⟩ | ⟨e1, _⟩
        · cases e2
        · exact e1
      have HNO := Lib.hid hno; clear hno
      go_wp2_with (refine wpList_store_blk (cs0 := zFMessage) (cs := C) rfl 107 _ _ rfl (Blk.new w2 _ _) rfl rfl (by rw [HL.out]; exact len_faceMessage) HI.out H1.out ?_; intro w3 hb3 hc3; have HC3 := Lib.hid (show Chg (fun _ => False) w2 w3 from ((Chg.refl _ w2).alloc _).trans hc3 fun b h => .inr (Nat.le_of_eq h.symm)); clear hb3 hc3)
      have hr : Blk _ _ _ _ := (HK.out.chg HC3.out id).drew
      have hz : Blk _ _ _ _ := (HZ.out.chg HC3.out id).drew
      have hb := (HB2.out.trans (HC3.out.below HB2.out.size fun b h => h.elim)).drew
      have hch3 := HCH.out.to (w' := w3.drew) (S' := fun b => w.heap.size + 2 ≤ b) (fun b hb hlt => ⟨ltle hlt HC3.out.size, HC3.out.block b hlt id⟩) fun b hb _ => hb
      have hz3 : w.heap.size + 2 ≤ w3.drew.heap.size := Nat.le_trans hz2 HC3.out.size
      refine wp_region_hoist [0, 1] [2] [3, 4] (fun w' => Blk w' (w.heap.size + 1) 107 (zFMessage).toArray) (by kernel_rfl) (by kernel_rfl) (by kernel_rfl) (by kernel_rfl) (by kernel_rfl) (by kernel_rfl) hz ?_
      (refine HoistK.load (by rfl) (by kernel_rfl) 107 _ rfl (w.heap.size + 1) 0 rfl zFMessage _ (fun w' hw => hw.range) Tryz.underlying107 rfl size_faceMessage ?_; simp only [Act.put, setIfInBounds_toArray, getElem_toArray, getElem_cons_zero, set_cons_succ, set_cons_zero])
      (refine HoistK.yes (by rfl) (by kernel_rfl) ⟨?_, fun w' hSw => ?_, ?_⟩; rotate_left; (· go_simp; try with_reducible rfl); simp only [Act.put, setIfInBounds_toArray, getElem_toArray, getElem_cons_succ, getElem_cons_zero, set_cons_succ, set_cons_zero])
      refine HoistK.nil_ ?_
      simp only [opsAt, filterMap_cons, filterMap_nil, getElem?_toArray, getElem?_cons_succ, getElem?_cons_zero]
      refine Effects.world (F := fun W => Below w.heap.size w W ∧ Blk W w.heap.size 107 (zFMessage).toArray ∧ Blk W (w.heap.size + 1) 107 (zFMessage).toArray ∧ Chain W (fun b => w.heap.size + 2 ≤ b) sent (.iface 154 (.pointer (some ⟨gw, 0, none⟩)))) (fun W hF => ?_) ⟨hb, hr, hz, hch3⟩
      clear hb hr hz hch3 hz3
      obtain ⟨hb, hr, hz, hch⟩ := hF
      refine Effects.cons_ fun _ hQ => ?_
      go_wp2_with fail
      refine (told_any (r := false) _ (hp.below hb) (Wr.of_chain hch)).mono ?_
      rintro e W2 ⟨rfl, hb2⟩
      replace hb := hb.trans (hb2.mono hb.size)
      replace hr := hr.below hb2 hr.lt
      replace hz := hz.below hb2 hz.lt
      go_wp2_with fail
      refine hQ _ _ hz (Effects.nil_ fun _ hQ => ?_)
      refine wpList_store_blk (cs0 := zFMessage) (cs := zFMessage) rfl 107 _ _ rfl hr rfl rfl rfl size_faceMessage one_faceMessage ?_
      intro W3 hr3 hc3
      go_wp2_with fail
      replace hb := hb.trans (hc3.below hb.size fun b h => Nat.le_of_eq h.symm)
      have hld := run_loadVar_mid (P := Tryz.prog) _ w.heap.size 0 107 zFMessage _ hr3.range Tryz.underlying107 rfl size_faceMessage
      exact bodyPost_ret (v := .tuple #[.agg (zFMessage).toArray, .int .i64 5]) (by simp [results, Tryz.results68, asAddr, hld]) rfl ⟨hb, _, 5, rfl, len_faceMessage, one_faceMessage, .inr ⟨hlen, .inr ⟨HNO.out, rfl, rfl⟩⟩⟩
set_option maxHeartbeats 4000000 in
set_option maxRecDepth 100000 in
theorem ReadMessage_anyN (w : World) {S : Nat → Prop} {v sent : Value} {bs : List UInt8} (h : Bs w S v bs) (hp : Pk w sent) :
    Calls Tryz.prog 34 #[v] w (FaceOutN tMessage zFMessage w bs) := by
  have hal1 := (Below.refl w.heap.size w).alloc (Nat.le_refl _) (.cells (zFMessage).toArray 107)
  have HF := Lib.hid (faceMessage_any _ (h.below hal1) (hp.below hal1))
  have HR := Lib.hid (Blk.new w 107 (zFMessage).toArray)
  have HA := Lib.hid hal1
  obtain ⟨A, cap, rfl⟩ := h.form
  clear h hp hal1
  go_enter Tryz.func34, Tryz.ntmps34
  go_wp2_with fail
  refine HF.out.mono ?_
  rintro e w1 ⟨hb, C, n, rfl, hl, h1, hn⟩
  have hl : C.length = 40 := hl
  have HL := Lib.hid hl
  have HI := Lib.hid (show (Tryz.prog.info? 107).map (·.size) = some C.length from by rw [hl]; rw [size_faceMessage, len_faceMessage])
  have H1 := Lib.hid h1
  have hlz : (zFMessage).length = C.length := by rw [hl, len_faceMessage]
  have HLZ := Lib.hid hlz
  have HK := Lib.hid (HR.out.below hb (by simp))
  have HB := Lib.hid hb
  have HN := Lib.hid hn
  have hz1 : w.heap.size + 1 ≤ w1.heap.size := by have := hb.size; simpa using this
  clear hl h1 hlz hb hn HF HR
  go_wp2_with (refine wpList_store_blk (cs0 := zFMessage) (cs := C) rfl 107 _ _ rfl HK.out rfl rfl HLZ.out HI.out H1.out ?_; intro w9 hb9 hc9; have HB9 := Lib.hid hb9; have HC9 := Lib.hid hc9; clear hb9 hc9)
  have hld := run_loadVar_mid (P := Tryz.prog) w9 w.heap.size 0 107 C _ HB9.out.range Tryz.underlying107 rfl HI.out
  refine bodyPost_ret (v := .tuple #[.agg C.toArray, .int .i64 n]) (by simp [results, Tryz.results34, asAddr, hld]) rfl ?_
  have hbw := HA.out.trans (HB.out.mono HA.out.size)
  refine ⟨hbw.trans (HC9.out.below hbw.size fun b h => Nat.le_of_eq h.symm), C, n, rfl, HL.out, H1.out, HN.out.imp id fun ⟨q1, q2⟩ => ⟨q1, q2.imp (fun ⟨x, e1, e2, e3⟩ => ⟨x, e1, e2, ?_⟩) id⟩⟩
  exact Sh.rep_to (fun b hb hlt => ⟨ltle hlt HC9.out.size, HC9.out.block b hlt fun e => by have hb := hb.1; simp at hb; omega⟩) (fun b hb hlt => hb.to (by simp) (HC9.out.block b hlt fun e => by have hb := hb.1; simp at hb; omega)) _ _ _ e3
theorem ReadMessage_any (w : World) {S : Nat → Prop} {v sent : Value} {bs : List UInt8} (h : Bs w S v bs) (hp : Pk w sent) :
    Calls Tryz.prog 34 #[v] w (FaceOut tMessage w bs) :=
  (ReadMessage_anyN w h hp).mono fun _ _ h => h.weak
end
end Go.Proofs.YtjjgmkfkmckkoaaGreatDoor
