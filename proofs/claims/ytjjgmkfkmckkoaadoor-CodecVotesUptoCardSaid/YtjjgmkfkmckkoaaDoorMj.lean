/- Texts joined: CfH CfX CgO CsJ CfY CgP CsK. -/
import Derived.Test.YtjjgmkfkmckkoaaDoorMe
import Derived.Test.YtjjgmkfkmckkoaaDoorMb
import Derived.Test.YtjjgmkfkmckkoaaDoorMc
import Derived.Test.YtjjgmkfkmckkoaaDoorMf
import Derived.Laws.BitsAllLaws
/- Codec: one[Sig]. -/
namespace Go.Proofs.YtjjgmkfkmckkoaaDoor
open Go.RowKit Go.Maps
attribute [-simp] Tryd.isAgg23 Tryd.typeInfo23 Tryd.isAgg51 Tryd.typeInfo51

theorem size_oneSig_any : (Tryd.prog.info? 51).map (·.size) = some 33 := by kernel_rfl
set_option maxHeartbeats 4000000 in
set_option maxRecDepth 100000 in
theorem oneSig_any (w : World) {X : Nat → Prop} {E g : Nat} {sent : Value} {x : List UInt8} {rows : List (List UInt8)} {bad : Bool} (h : Pt w X E g sent (x :: rows) bad) (hxl : x.length ≤ 262144) :
    Calls Tryd.prog 94 #[.pointer (some ⟨g, 0, none⟩), .func (Fn.func 91) #[] #[]] w (Took tSig w X E g sent x rows bad) := by
  have hgx := h.2.2.1
  have hgw := h.lt
  have hEw := h.2.2.2.2.1
  have hp0 := h.more ((Below.refl w.heap.size w).alloc (Nat.le_refl _) (.cells (([.int .i64 0] ++ List.replicate 32 (.int .u8 0) : List Value)).toArray 51)) (fun b => b = w.heap.size) (fun b hb => ⟨Nat.le_of_eq hb.symm, by rw [hb]; simp⟩)
  have H := Lib.hid (next_any _ hp0)
  have HN := Lib.hid (Blk.new w 51 (([.int .i64 0] ++ List.replicate 32 (.int .u8 0) : List Value)).toArray)
  have HGX := Lib.hid hgx
  have HX1 := Lib.hid (show ∀ b, X b → b < w.heap.size from h.2.2.2.1)
  clear h hp0 hgx
  go_enter Tryd.func94, Tryd.ntmps94
  go_wp2_with fail
  refine H.out.mono ?_
  rintro e w1 ⟨v1, rfl, hb1, hc1, hp1⟩
  have HK := Lib.hid (HN.out.chg hc1 (fun h => by omega))
  have hz1 : w.heap.size + 1 ≤ w1.heap.size := by simpa using hc1.size
  have HR := Lib.hid (readSig_any w1 hb1 hxl hp1.1)
  have HC1 := Lib.hid (show Chg (fun k => k = g) w w1 from ((Chg.refl (fun k => k = g) w).alloc _).trans hc1 fun b h => .inl h)
  have HP1 := Lib.hid hp1
  obtain ⟨A1, c1, rfl⟩ := hb1.form
  clear hb1 hp1 hc1 H HN hxl
  go_wp2_with fail
  refine HR.out.mono ?_
  rintro e w2 hro
  obtain ⟨C, err, bd, rfl, h1, hl, hb2, he, ho⟩ := hro.agg (fun _ => rfl)
  have hl : C.length = 33 := hl
  have hz2 := Nat.le_trans hz1 hb2.size
  have HI := Lib.hid (show (Tryd.prog.info? 51).map (·.size) = some C.length from by rw [hl]; exact size_oneSig_any)
  have H1 := Lib.hid h1
  have HL := Lib.hid hl
  have HP2 := Lib.hid (HP1.out.below hb2)
  have HK2 := Lib.hid (HK.out.below hb2 HK.out.lt)
  have HC2 := Lib.hid (HC1.out.trans (Chg.of_below hb2 fun k => k = g) fun b h => .inl h)
  have HO := Lib.hid (ho.or_ bad)
  clear hro h1 hl hb2 ho HR HP1 HK HC1
  rcases he with ⟨rfl, rfl⟩ | ⟨rfl, hch⟩
  · go_wp2_with (first
      | (refine wpList_store_blk (cs0 := ([.int .i64 0] ++ List.replicate 32 (.int .u8 0) : List Value)) (cs := C) rfl 51 _ _ rfl (Blk.new w2 _ _) rfl rfl (by rw [HL.out]; rfl) HI.out H1.out ?_; intro w3 hb3 hc3; have HB3 := Lib.hid hb3
         have HC3 := Lib.hid (show Chg (fun _ => False) w2 w3 from ((Chg.refl _ w2).alloc _).trans hc3 fun b h => .inr (Nat.le_of_eq h.symm)); clear hb3 hc3
         have HK3 := Lib.hid (HK2.out.chg HC3.out id))
      | (refine wpList_load_blk' rfl 51 _ rfl HB3.out rfl Tryd.underlying51 rfl HI.out ?_)
      | (refine wpList_store_blk (cs0 := ([.int .i64 0] ++ List.replicate 32 (.int .u8 0) : List Value)) (cs := C) rfl 51 _ _ rfl HK3.out rfl rfl (by rw [HL.out]; rfl) HI.out H1.out ?_; intro w9 hb9 hc9; have HB9 := Lib.hid hb9; have HC9 := Lib.hid hc9; clear hb9 hc9))
    have hld := run_loadVar_mid (P := Tryd.prog) w9 w.heap.size 0 51 C _ HB9.out.range Tryd.underlying51 rfl HI.out
    refine bodyPost_ret (v := .agg C.toArray) (by simp [results, Tryd.results94, asAddr, hld, Act.put]) rfl ?_
    have hp9 := (HP2.out.chg HC3.out fun b h => h.elim).chg HC9.out fun b h => ⟨.inr h, fun e => by omega⟩
    have ho9 := HO.out.to (w' := w9) (S' := fun b => w.heap.size ≤ b) (fun b hb hlt => ⟨Nat.lt_of_lt_of_le hlt (Nat.le_trans HC3.out.size HC9.out.size), (HC9.out.block b (Nat.lt_of_lt_of_le hlt HC3.out.size) (fun e => by omega)).trans (HC3.out.block b hlt id)⟩) fun b hb _ => by omega
    rw [Bool.or_false] at ho9
    exact ⟨C, bad, rfl, (HC2.out.trans (HC3.out.mono (M' := fun k => k = g) fun _ h => h.elim) fun b h => .inl h).trans HC9.out fun b h => .inr (Nat.le_of_eq h.symm), hp9.less (fun b h => .inl h) HGX.out, ho9⟩
  · obtain ⟨gw, rfl⟩ := hch.form
    have HCH := Lib.hid hch; clear hch
    go_wp2_with (first
      | (refine wpList_store_blk (cs0 := ([.int .i64 0] ++ List.replicate 32 (.int .u8 0) : List Value)) (cs := C) rfl 51 _ _ rfl (Blk.new w2 _ _) rfl rfl (by rw [HL.out]; rfl) HI.out H1.out ?_; intro w3 hb3 hc3; have HB3 := Lib.hid hb3
         have HC3 := Lib.hid (show Chg (fun _ => False) w2 w3 from ((Chg.refl _ w2).alloc _).trans hc3 fun b h => .inr (Nat.le_of_eq h.symm)); clear hb3 hc3
         have HK3 := Lib.hid (HK2.out.chg HC3.out id)))
    have hp3 := (HP2.out.chg HC3.out fun b h => h.elim)
    have hlx := hp3.2.2.2.1
    have hz3 := Nat.le_trans hz2 HC3.out.size
    have hal := (Below.refl w3.heap.size w3).alloc (Nat.le_refl _) (.cells #[.string ⟨#[119, 105, 116, 104, 105, 110]⟩, .iface 133 (.pointer (some ⟨gw, 0, none⟩))] 137)
    have hch3 := (HCH.out.to (w' := w3) (S' := fun b => ¬ (X b ∨ b = w.heap.size) ∧ E ≤ b) (fun b hb hlt => ⟨Nat.lt_of_lt_of_le hlt HC3.out.size, HC3.out.block b hlt id⟩) fun b hb hlt => ⟨fun h => h.elim (fun h => by have := HP2.out.2.2.2.1 b (.inl h); have := HX1.out b h; omega) fun h => by omega, by omega⟩)
    have HBAD := Lib.hid (bad_any _ (hp3.below hal) (hch3.freshMore _ ⟨fun h => absurd (hlx _ h) (Nat.lt_irrefl _), by omega⟩))
    clear hp3 hlx hal hch3
    refine HBAD.out.mono ?_
    rintro e w4 ⟨rfl, hc4, hp4⟩
    have HC4 := Lib.hid hc4
    have HP4 := Lib.hid hp4
    have hgg : ¬ w.heap.size = g := by omega
    have HK4 := Lib.hid ((HK3.out.alloc _).chg hc4 (fun h => hgg h))
    have HB4 := Lib.hid ((HB3.out.alloc _).chg hc4 (fun h => by omega))
    clear hc4 hp4 HBAD
    go_wp2_with (first
      | (refine wpList_load_blk' rfl 51 _ rfl HB4.out rfl Tryd.underlying51 rfl HI.out ?_)
      | (refine wpList_store_blk (cs0 := ([.int .i64 0] ++ List.replicate 32 (.int .u8 0) : List Value)) (cs := C) rfl 51 _ _ rfl HK4.out rfl rfl (by rw [HL.out]; rfl) HI.out H1.out ?_; intro w9 hb9 hc9; have HB9 := Lib.hid hb9; have HC9 := Lib.hid hc9; clear hb9 hc9))
    have hld := run_loadVar_mid (P := Tryd.prog) w9 w.heap.size 0 51 C _ HB9.out.range Tryd.underlying51 rfl HI.out
    refine bodyPost_ret (v := .agg C.toArray) (by simp [results, Tryd.results94, asAddr, hld, Act.put]) rfl ?_
    have hc34 : Chg (fun k => k = g) w2 w4 := ((HC3.out.mono (M' := fun k => k = g) fun _ h => h.elim).alloc _).trans HC4.out fun b h => .inl h
    have hp9 := HP4.out.chg HC9.out fun b h => ⟨.inr h, fun e => by omega⟩
    have ho9 := HO.out.to (w' := w9) (S' := fun b => w.heap.size ≤ b) (fun b hb hlt => ⟨Nat.lt_of_lt_of_le hlt (Nat.le_trans hc34.size HC9.out.size), (HC9.out.block b (Nat.lt_of_lt_of_le hlt hc34.size) (fun e => by omega)).trans (hc34.block b hlt (fun e => by omega))⟩) fun b hb _ => by omega
    rw [Bool.or_true] at ho9
    exact ⟨C, true, rfl, (HC2.out.trans hc34 fun b h => .inl h).trans HC9.out fun b h => .inr (Nat.le_of_eq h.symm), hp9.less (fun b h => .inl h) HGX.out, ho9⟩

end Go.Proofs.YtjjgmkfkmckkoaaDoor

/- Codec: a vote read. -/
namespace Go.Proofs.YtjjgmkfkmckkoaaDoor
open Go.RowKit Go.Maps
attribute [-simp] Tryd.isAgg23 Tryd.typeInfo23 Tryd.isAgg53 Tryd.typeInfo53

theorem info_readVote : (Tryd.prog.info? 53).map (fun i => (i.zero.map (fun z => z.cells.size))) = some (some 69) := by kernel_rfl
theorem size_readVote : (Tryd.prog.info? 53).map (·.size) = some 69 := by kernel_rfl
theorem places_readVote : ((match Tryd.prog.underlying 53 with | some (.struct fields) => fields.toList.mapM (fun f => (Tryd.prog.info? f.type).map fun i => (f.offset, i.size)) | _ => none)) = some [(0, 1), (1, 1), (2, 1), (3, 32), (35, 1), (36, 33)] := by kernel_rfl
set_option maxHeartbeats 4000000 in
set_option maxRecDepth 100000 in
theorem readVote_any (w : World) {S : Nat → Prop} {v sent : Value} {bs : List UInt8} (h : Bs w S v bs) (hlen : bs.length ≤ 262144) (hg : Gl w sent) :
    Calls Tryd.prog 74 #[v] w (ReadOut (.tup (.cons i64 (.cons i64 (.cons i64 (.cons .dig (.cons i64 (.cons tSig .nil))))))) w sent bs) := by
  have hal := (Below.refl w.heap.size w).alloc (Nat.le_refl _) (.cells (([.int .i64 0, .int .i64 0, .int .i64 0] ++ List.replicate 32 (.int .u8 0) ++ [.int .i64 0] ++ ([.int .i64 0] ++ List.replicate 32 (.int .u8 0)) : List Value)).toArray 53)
  have HS := Lib.hid (psplit_any _ (h.below hal) (by omega) (hg.below hal) 6 (by omega) ⟨#[97, 32, 118, 111, 116, 101]⟩)
  have HN := Lib.hid (Blk.new w 53 (([.int .i64 0, .int .i64 0, .int .i64 0] ++ List.replicate 32 (.int .u8 0) ++ [.int .i64 0] ++ ([.int .i64 0] ++ List.replicate 32 (.int .u8 0)) : List Value)).toArray)
  have HAL := Lib.hid hal
  obtain ⟨A, cap, rfl⟩ := h.form
  clear h hg hal
  go_enter Tryd.func74, Tryd.ntmps74
  go_wp2_with fail
  refine HS.out.mono ?_
  rintro e w1 ⟨g, rows, bad, rfl, hgw, hb1, hp, hn, hrl, hs⟩
  obtain ⟨r0, r1, r2, r3, r4, r5, rfl⟩ : ∃ r0 r1 r2 r3 r4 r5, rows = [r0, r1, r2, r3, r4, r5] := by
    match rows, hn with
    | [r0, r1, r2, r3, r4, r5], _ => exact ⟨r0, r1, r2, r3, r4, r5, rfl⟩
  have HK := Lib.hid (HN.out.below hb1 (by simp))
  have hgw' : w.heap.size + 1 ≤ g := by simpa using hgw
  have hz1 : w.heap.size + 1 ≤ w1.heap.size := by simpa using hb1.size
  have HB1 := Lib.hid (HAL.out.trans (hb1.mono (by simp)))
  have HSS := Lib.hid hs
  have HRL := Lib.hid (show ∀ x ∈ [r0, r1, r2, r3, r4, r5], x.length ≤ 262144 from fun x hx => Nat.le_trans (hrl x hx) hlen)
  have hE : Pt w1 (fun b => b = g) (w.heap.size + 1) g sent [r0, r1, r2, r3, r4, r5] bad := by simpa using hp
  clear HS HN HAL hgw hb1 hs hn hp hrl hlen
  have hp0 := hE
  clear hE
  go_wp2_with fail
  refine (int_any _ hp0).mono ?_
  rintro e w2 ht
  obtain ⟨y0, b0, rfl, h10, hc0, hp1, ho0⟩ := ht.one (fun _ => rfl) rfl
  have hgl0 := hp0.lt
  have hz2 := Nat.le_trans hz1 hc0.size
  have HO0 := Lib.hid ho0
  have HC0 := Lib.hid hc0
  have H10 := Lib.hid h10
  clear ht ho0 hc0 h10 hp0
  go_wp2_with fail
  refine (int_any _ hp1).mono ?_
  rintro e w3 ht
  obtain ⟨y1, b1, rfl, h11, hc1, hp2, ho1⟩ := ht.one (fun _ => rfl) rfl
  have hgl1 := hp1.lt
  have hz3 := Nat.le_trans hz2 hc1.size
  have HO1 := Lib.hid ho1
  have HC1 := Lib.hid hc1
  have H11 := Lib.hid h11
  clear ht ho1 hc1 h11 hp1
  go_wp2_with fail
  refine (n_any _ hp2).mono ?_
  rintro e w4 ht
  obtain ⟨y2, b2, rfl, h12, hc2, hp3, ho2⟩ := ht.one (fun _ => rfl) rfl
  have hgl2 := hp2.lt
  have hz4 := Nat.le_trans hz3 hc2.size
  have HO2 := Lib.hid ho2
  have HC2 := Lib.hid hc2
  have H12 := Lib.hid h12
  clear ht ho2 hc2 h12 hp2
  go_wp2_with fail
  refine (pdigest_any _ hp3).mono ?_
  rintro e w5 ht
  obtain ⟨c3, b3, rfl, h13, hl3, hc3, hp4, ho3⟩ := ht.agg (fun _ => rfl)
  have hl3 : c3.length = 32 := hl3
  have hgl3 := hp3.lt
  have hz5 := Nat.le_trans hz4 hc3.size
  have HO3 := Lib.hid ho3
  have HC3 := Lib.hid hc3
  have H13 := Lib.hid h13
  have HL3 := Lib.hid hl3
  clear hl3
  clear ht ho3 hc3 h13 hp3
  go_wp2_with fail
  refine (int_any _ hp4).mono ?_
  rintro e w6 ht
  obtain ⟨y4, b4, rfl, h14, hc4, hp5, ho4⟩ := ht.one (fun _ => rfl) rfl
  have hgl4 := hp4.lt
  have hz6 := Nat.le_trans hz5 hc4.size
  have HO4 := Lib.hid ho4
  have HC4 := Lib.hid hc4
  have H14 := Lib.hid h14
  clear ht ho4 hc4 h14 hp4
  go_wp2_with fail
  refine (oneSig_any _ hp5 (HRL.out _ (by simp))).mono ?_
  rintro e w7 ht
  obtain ⟨c5, b5, rfl, h15, hl5, hc5, hp6, ho5⟩ := ht.agg (fun _ => rfl)
  have hl5 : c5.length = 33 := hl5
  have hgl5 := hp5.lt
  have hz7 := Nat.le_trans hz6 hc5.size
  have HO5 := Lib.hid ho5
  have HC5 := Lib.hid hc5
  have H15 := Lib.hid h15
  have HL5 := Lib.hid hl5
  clear hl5
  clear ht ho5 hc5 h15 hp5
  have hbu := run_struct (P := Tryd.prog) (vs := [y0, y1, y2, .agg c3.toArray, y4, .agg c5.toArray]) (cs := [[y0], [y1], [y2], c3, [y4], c5]) info_readVote places_readVote ⟨cells_one H10.out, cells_one H11.out, cells_one H12.out, rfl, cells_one H14.out, rfl, trivial⟩ (by simp [PlaceOk, HL3.out, HL5.out]) (by simp [HL3.out, HL5.out]) #[(0, y0), (1, y1), (2, y2), (3, .agg c3.toArray), (4, y4), (5, .agg c5.toArray)] rfl
  have hone : ∀ v ∈ [[y0], [y1], [y2], c3, [y4], c5].flatten, v.oneCell' = true := by
    intro v hv
    simp only [List.flatten_cons, List.flatten_nil, List.mem_append, List.mem_singleton, List.not_mem_nil, or_false] at hv
    rcases hv with rfl | rfl | rfl | hv | rfl | hv
    · exact H10.out
    · exact H11.out
    · exact H12.out
    · exact H13.out v hv
    · exact H14.out
    · exact H15.out v hv
  have HOUT := Lib.hid (show Fs.Out (.cons i64 (.cons i64 (.cons i64 (.cons .dig (.cons i64 (.cons tSig .nil)))))) w7 (fun b => w.heap.size + 1 ≤ b) [r0, r1, r2, r3, r4, r5] [[y0], [y1], [y2], c3, [y4], c5].flatten bad b5 from by
    have := Fs.Out.step HO0.out (Fs.Out.step HO1.out (Fs.Out.step HO2.out (Fs.Out.step HO3.out (Fs.Out.step HO4.out (Fs.Out.step HO5.out (Fs.Out.nil_ w7 _ _) (Chg.refl _ _) hgl5 hz6) HC5.out hgl4 hz5) (HC4.out.trans HC5.out fun b h => .inl h) hgl3 hz4) ((HC3.out.trans HC4.out fun b h => .inl h).trans HC5.out fun b h => .inl h) hgl2 hz3) (((HC2.out.trans HC3.out fun b h => .inl h).trans HC4.out fun b h => .inl h).trans HC5.out fun b h => .inl h) hgl1 hz2) ((((HC1.out.trans HC2.out fun b h => .inl h).trans HC3.out fun b h => .inl h).trans HC4.out fun b h => .inl h).trans HC5.out fun b h => .inl h) hgl0 hz1
    simpa using this)
  have HCA := Lib.hid (show Chg (fun k => k = g) w1 w7 from (((((HC0.out.trans HC1.out fun b h => .inl h).trans HC2.out fun b h => .inl h).trans HC3.out fun b h => .inl h).trans HC4.out fun b h => .inl h).trans HC5.out fun b h => .inl h))
  have hcl : [[y0], [y1], [y2], c3, [y4], c5].flatten.length = 69 := by simp [HL3.out, HL5.out]
  obtain ⟨C, hC⟩ : ∃ C, C = [[y0], [y1], [y2], c3, [y4], c5].flatten := ⟨_, rfl⟩
  rw [← hC] at hbu hone hcl HOUT
  have HBU := Lib.hid hbu
  have HONE := Lib.hid hone
  have HCL := Lib.hid hcl
  have HI := Lib.hid (show (Tryd.prog.info? 53).map (·.size) = some C.length from by rw [hcl]; exact size_readVote)
  have HK2 := Lib.hid (HK.out.chg HCA.out (show ¬ w.heap.size = g from by omega))
  clear hbu hone hcl hC HK HO0 HC0 H10 HO1 HC1 H11 HO2 HC2 H12 HO3 HC3 H13 HO4 HC4 H14 HO5 HC5 H15 HL3 HL5
  have HP := Lib.hid hp6
  have hgX := hp6.lt
  clear hp6
  have hbu := HBU.out w7
  have HX := Lib.hid (HP.out.parts)
  go_wp2_with (first | (refine wpList_build_ rfl 53 _ rfl #[(0, y0), (1, y1), (2, y2), (3, .agg c3.toArray), (4, y4), (5, .agg c5.toArray)] (by simp [Act.eval]) _ hbu ?_) | (refine wpList_store_blk (cs0 := ([.int .i64 0, .int .i64 0, .int .i64 0] ++ List.replicate 32 (.int .u8 0) ++ [.int .i64 0] ++ ([.int .i64 0] ++ List.replicate 32 (.int .u8 0)) : List Value)) (cs := C) rfl 53 _ _ rfl (Blk.new w7 _ _) rfl rfl (by rw [HCL.out]; rfl) HI.out HONE.out ?_; intro wx hbx hcx; have HBX := Lib.hid hbx; have HCX := Lib.hid hcx; clear hbx hcx))
  obtain ⟨vy, ey, hblk, herr⟩ := HX.out
  have HCX' := Lib.hid (show Chg (fun _ => False) w7 wx from ((Chg.refl _ w7).alloc _).trans HCX.out fun b h => .inr (Nat.le_of_eq h.symm))
  have HGX := Lib.hid (hblk.chg HCX'.out id)
  have HKX := Lib.hid (HK2.out.chg HCX'.out id)
  have HE := Lib.hid herr
  clear hbu hblk herr HX HBU
  refine wp_region_hoist [0, 1, 2, 3, 4] [5] [6] (fun w' => Blk w' w7.heap.size 53 C.toArray ∧ Blk w' g 147 #[vy, ey])
    (by kernel_rfl) (by kernel_rfl) (by kernel_rfl) (by kernel_rfl) (by kernel_rfl) (by kernel_rfl) ⟨HBX.out.drew, HGX.out.drew⟩ ?_
  (refine HoistK.load (by rfl) (by kernel_rfl) 53 _ rfl w7.heap.size 0 rfl C _ (fun w' hw => hw.1.range) Tryd.underlying53 rfl HI.out ?_; simp only [Act.put, List.setIfInBounds_toArray, List.getElem_toArray, List.getElem_cons_zero, List.set_cons_succ, List.set_cons_zero])
  (refine HoistK.yes (by rfl) (by kernel_rfl) ⟨?_, fun w' hSw => ?_, ?_⟩; rotate_left; (· go_simp; try with_reducible rfl); simp only [Act.put, List.setIfInBounds_toArray, List.getElem_toArray, List.getElem_cons_succ, List.getElem_cons_zero, List.set_cons_succ, List.set_cons_zero])
  (refine HoistK.yes (by rfl) (by kernel_rfl) ⟨?_, fun w' hSw => ?_, ?_⟩; rotate_left; (· go_simp; try with_reducible rfl); simp only [Act.put, List.setIfInBounds_toArray, List.getElem_toArray, List.getElem_cons_succ, List.getElem_cons_zero, List.set_cons_succ, List.set_cons_zero])
  (refine HoistK.yes (by rfl) (by kernel_rfl) ⟨?_, fun w' hSw => ?_, ?_⟩; rotate_left; (· go_simp; try with_reducible rfl); simp only [Act.put, List.setIfInBounds_toArray, List.getElem_toArray, List.getElem_cons_succ, List.getElem_cons_zero, List.set_cons_succ, List.set_cons_zero])
  (refine HoistK.yes (by rfl) (by kernel_rfl) ⟨?_, fun w' hSw => ?_, ?_⟩; rotate_left; (· have hcc := hSw.2.cell; go_simp; try with_reducible rfl); simp only [Act.put, List.setIfInBounds_toArray, List.getElem_toArray, List.getElem_cons_succ, List.getElem_cons_zero, List.set_cons_succ, List.set_cons_zero])
  refine HoistK.nil_ ?_
  simp only [opsAt, List.filterMap_cons, List.filterMap_nil, List.getElem?_toArray, List.getElem?_cons_succ, List.getElem?_cons_zero]
  refine Effects.cons_ fun _ hQ1 => ?_
  go_wp2_with (refine wpList_store_blk (cs0 := ([.int .i64 0, .int .i64 0, .int .i64 0] ++ List.replicate 32 (.int .u8 0) ++ [.int .i64 0] ++ ([.int .i64 0] ++ List.replicate 32 (.int .u8 0)) : List Value)) (cs := C) rfl 53 _ _ rfl HKX.out.drew rfl rfl (by rw [HCL.out]; rfl) HI.out HONE.out ?_; intro wy hby hcy; have HBY := Lib.hid hby; have HCY := Lib.hid hcy; clear hby hcy)
  refine hQ1 _ _ ⟨HBX.out.drew.chg HCY.out (fun h => by omega), HGX.out.drew.chg HCY.out (fun h => by omega)⟩ (Effects.nil_ fun _ hQ2 => ?_)
  go_wp2
  have hld := run_loadVar_mid (P := Tryd.prog) wy w.heap.size 0 53 C _ HBY.out.range Tryd.underlying53 rfl HI.out
  refine bodyPost_ret (v := .tuple #[.agg C.toArray, ey]) (by simp [results, Tryd.results74, asAddr, hld]) rfl ?_
  have hcf : Chg (fun b => b = w.heap.size) w7 wy := ((HCX'.out.mono fun _ h => h.elim).drew).trans HCY.out fun b h => .inl h
  exact ReadOut.mk (n := 6) HOUT.out HSS.out rfl HE.out (HB1.out.trans (HCA.out.below HB1.out.size fun b h => by omega)) hcf

end Go.Proofs.YtjjgmkfkmckkoaaDoor

/- Codec: face[Vote], ReadVote. -/
namespace Go.Proofs.YtjjgmkfkmckkoaaDoor
open Go.RowKit Go.Maps
attribute [-simp] Tryd.isAgg23 Tryd.typeInfo23 Tryd.isAgg53 Tryd.typeInfo53

def zFVote : List Value := ([.int .i64 0, .int .i64 0, .int .i64 0] ++ List.replicate 32 (.int .u8 0) ++ [.int .i64 0] ++ ([.int .i64 0] ++ List.replicate 32 (.int .u8 0)) : List Value)
theorem one_faceVote : ∀ v ∈ zFVote, v.oneCell' = true := by decide
theorem len_faceVote : zFVote.length = 69 := by decide
theorem size_faceVote : (Tryd.prog.info? 53).map (·.size) = some zFVote.length := by kernel_rfl
set_option maxHeartbeats 8000000 in
set_option maxRecDepth 100000 in
theorem faceVote_any (w : World) {S : Nat → Prop} {v sent : Value} {bs : List UInt8} (h : Bs w S v bs) (hp : Pk w sent) :
    Calls Tryd.prog 73 #[v, .func (Fn.func 74) #[] #[]] w (FaceOut tVote w bs) := by
  obtain ⟨A, cap, rfl⟩ := h.form
  have hal1 := (Below.refl w.heap.size w).alloc (Nat.le_refl _) (.cells (zFVote).toArray 53)
  have hal2 := hal1.alloc (by simp) (.cells (zFVote).toArray 53)
  have hr0 := (Blk.new w 53 (zFVote).toArray).alloc (.cells (zFVote).toArray 53)
  have hz0 := Blk.new (w.alloc (.cells (zFVote).toArray 53)) 53 (zFVote).toArray
  rw [show (w.alloc (.cells (zFVote).toArray 53)).heap.size = w.heap.size + 1 by simp] at hz0
  by_cases hbig : 262144 < bs.length
  · obtain ⟨sb, hsb⟩ : ∃ sb, w.cell? ⟨0, 0, none⟩ = some (.iface 205 (.pointer (some sb))) := by
      obtain ⟨_, _, b, _, _, _, _, _, _, _, _, h, _⟩ := hp
      exact ⟨b, h⟩
    have hgb : ∀ {W : World}, Below w.heap.size w W → W.cell? ⟨0, 0, none⟩ = some (.iface 205 (.pointer (some sb))) := fun hb => cell_low hsb hb
    clear h
    go_enter Tryd.func73, Tryd.ntmps73
    go_wp2_with fail
    have hb := hal2.drew
    have hr : Blk _ _ _ _ := hr0.drew
    have hz : Blk _ _ _ _ := hz0.drew
    clear hal1 hal2 hz0 hsb
    refine wp_region_hoist [0, 1, 2] [3, 4, 5] [6, 7] (fun w' => Blk w' (w.heap.size + 1) 53 (zFVote).toArray ∧ w'.cell? ⟨0, 0, none⟩ = some (.iface 205 (.pointer (some sb)))) (by kernel_rfl) (by kernel_rfl) (by kernel_rfl) (by kernel_rfl) (by kernel_rfl) (by kernel_rfl) ⟨hz, hgb hb⟩ ?_
    (refine HoistK.load (by rfl) (by kernel_rfl) 53 _ rfl (w.heap.size + 1) 0 rfl zFVote _ (fun w' hw => hw.1.range) Tryd.underlying53 rfl size_faceVote ?_; simp only [Act.put, List.setIfInBounds_toArray, List.getElem_toArray, List.getElem_cons_zero, List.set_cons_succ, List.set_cons_zero])
    (refine HoistK.yes (by rfl) (by kernel_rfl) ⟨?_, fun w' hSw => ?_, ?_⟩; rotate_left; (· have hcc := hSw.2; go_simp; try with_reducible rfl); simp only [Act.put, List.setIfInBounds_toArray, List.getElem_toArray, List.getElem_cons_succ, List.getElem_cons_zero, List.set_cons_succ, List.set_cons_zero])
    (refine HoistK.yes (by rfl) (by kernel_rfl) ⟨?_, fun w' hSw => ?_, ?_⟩; rotate_left; (· go_simp; try with_reducible rfl); simp only [Act.put, List.setIfInBounds_toArray, List.getElem_toArray, List.getElem_cons_succ, List.getElem_cons_zero, List.set_cons_succ, List.set_cons_zero])
    refine HoistK.nil_ ?_
    simp only [opsAt, List.filterMap_cons, List.filterMap_nil, List.getElem?_toArray, List.getElem?_cons_succ, List.getElem?_cons_zero]
    refine Effects.world (F := fun W => Below w.heap.size w W ∧ Blk W w.heap.size 53 (zFVote).toArray ∧ Blk W (w.heap.size + 1) 53 (zFVote).toArray) (fun W hF => ?_) ⟨hb, hr, hz⟩
    clear hb hr hz hr0
    obtain ⟨hb, hr, hz⟩ := hF
    refine Effects.cons_ fun _ hQ => ?_
    have hzl := hz.lt
    go_wp2_with fail
    have hk := Blk.new W 137 #[.string ⟨#[97, 108, 108]⟩, .iface 205 (.pointer (some sb))]
    replace hb := hb.alloc hb.size (.cells #[.string ⟨#[97, 108, 108]⟩, .iface 205 (.pointer (some sb))] 137)
    replace hr := hr.alloc (.cells #[.string ⟨#[97, 108, 108]⟩, .iface 205 (.pointer (some sb))] 137)
    replace hz := hz.alloc (.cells #[.string ⟨#[97, 108, 108]⟩, .iface 205 (.pointer (some sb))] 137)
    obtain ⟨gg, hgg⟩ : ∃ gg, gg = W.heap.size := ⟨_, rfl⟩
    have hgn : gg ≠ w.heap.size := by omega
    rw [← hgg] at hk ⊢
    have HGG := Lib.hid hgg; clear hgg
    generalize W.alloc (.cells #[.string ⟨#[97, 108, 108]⟩, .iface 205 (.pointer (some sb))] 137) = W1 at *
    refine hQ _ _ ⟨hz, hgb hb⟩ (Effects.cons_ fun _ hQ => ?_)
    go_wp2_with fail
    refine hQ _ _ ⟨hz, hgb hb⟩ (Effects.cons_ fun _ hQ => ?_)
    go_wp2_with fail
    refine (told_any (r := true) _ (hp.below hb) ⟨gg, 1, _, rfl, .more hk .last, hgb hb⟩).mono ?_
    rintro e W2 ⟨rfl, hb2⟩
    replace hb := hb.trans (hb2.mono hb.size)
    replace hr := hr.below hb2 hr.lt
    replace hz := hz.below hb2 hz.lt
    replace hk := hk.below hb2 hk.lt
    go_wp2_with fail
    refine hQ _ _ ⟨hz, hgb hb⟩ (Effects.nil_ fun _ hQ => ?_)
    refine wpList_store_blk (cs0 := zFVote) (cs := zFVote) rfl 53 _ _ rfl hr rfl rfl rfl size_faceVote one_faceVote ?_
    intro W3 hr3 hc3
    go_wp2_with fail
    replace hb := hb.trans (hc3.below hb.size fun b h => Nat.le_of_eq h.symm)
    have hld := run_loadVar_mid (P := Tryd.prog) _ w.heap.size 0 53 zFVote _ hr3.range Tryd.underlying53 rfl size_faceVote
    exact bodyPost_ret (v := .tuple #[.agg (zFVote).toArray, .int .i64 4]) (by simp [results, Tryd.results73, asAddr, hld]) rfl ⟨hb, _, 4, rfl, len_faceVote, one_faceVote, .inl ⟨hbig, rfl⟩⟩
  · have hlen : bs.length ≤ 262144 := by omega
    have HR := Lib.hid (readVote_any _ (h.below hal2) hlen (hp.1.below hal2))
    have HA := Lib.hid hal2
    have HR0 := Lib.hid hr0
    have HZ0 := Lib.hid hz0
    clear h hal1 hal2 hr0 hz0
    go_enter Tryd.func73, Tryd.ntmps73
    go_wp2_with fail
    refine HR.out.mono ?_
    rintro e w2 hro
    obtain ⟨C, err, bd, rfl, h1, hl, hb2, he, ho⟩ := hro.agg (fun _ => rfl)
    have hl : C.length = 69 := hl
    have HL := Lib.hid hl
    have HI := Lib.hid (show (Tryd.prog.info? 53).map (·.size) = some C.length from by rw [hl]; rw [size_faceVote, len_faceVote])
    have H1 := Lib.hid h1
    have HK := Lib.hid (HR0.out.below hb2 HR0.out.lt)
    have HZ := Lib.hid (HZ0.out.below hb2 HZ0.out.lt)
    have hz2 : w.heap.size + 2 ≤ w2.heap.size := by have := hb2.size; simpa using this
    have HB2 := Lib.hid (HA.out.trans (hb2.mono HA.out.size))
    have HO := Lib.hid (show SOut tVote w2 (fun b => w.heap.size + 2 ≤ b) bs C false bd from ho.to (fun b _ hlt => ⟨hlt, rfl⟩) fun b hb _ => by simpa using hb)
    have he := he.to (w' := w2) (S' := fun b => w.heap.size + 2 ≤ b) (fun b _ hlt => ⟨hlt, rfl⟩) fun b hb _ => by simpa using hb
    clear hro h1 hl hb2 ho HR HA HR0 HZ0
    rcases he with ⟨rfl, rfl⟩ | ⟨rfl, hch⟩
    · go_wp2_with (first
        | (refine wpList_store_blk (cs0 := zFVote) (cs := C) rfl 53 _ _ rfl (Blk.new w2 _ _) rfl rfl (by rw [HL.out]; exact len_faceVote) HI.out H1.out ?_; intro w3 hb3 hc3; have HB3 := Lib.hid hb3
           have HC3 := Lib.hid (show Chg (fun _ => False) w2 w3 from ((Chg.refl _ w2).alloc _).trans hc3 fun b h => .inr (Nat.le_of_eq h.symm)); clear hb3 hc3
           have HK3 := Lib.hid (HK.out.chg HC3.out id))
        | (refine wpList_load_blk' rfl 53 _ rfl HB3.out rfl Tryd.underlying53 rfl HI.out ?_)
        | (refine wpList_store_blk (cs0 := zFVote) (cs := C) rfl 53 _ _ rfl HK3.out rfl rfl (by rw [HL.out]; exact len_faceVote) HI.out H1.out ?_; intro w9 hb9 hc9; have HB9 := Lib.hid hb9; have HC9 := Lib.hid hc9; clear hb9 hc9))
      have hld := run_loadVar_mid (P := Tryd.prog) w9 w.heap.size 0 53 C _ HB9.out.range Tryd.underlying53 rfl HI.out
      refine bodyPost_ret (v := .tuple #[.agg C.toArray, .int .i64 0]) (by simp [results, Tryd.results73, asAddr, hld]) rfl ?_
      obtain ⟨o1, o2, o3⟩ := HO.out
      have hc29 : Chg (fun b => b = w.heap.size) w2 w9 := (HC3.out.mono (M' := fun b => b = w.heap.size) fun _ h => h.elim).trans HC9.out fun b h => .inl h
      refine ⟨HB2.out.trans (hc29.below HB2.out.size fun b h => Nat.le_of_eq h.symm), C, 0, rfl, o1, o2, .inr ⟨hlen, .inl ?_⟩⟩
      rcases o3 with ⟨x, e1, _, e3⟩ | ⟨_, e2⟩
      · exact ⟨x, e1, rfl, Sh.rep_to (fun b hb hlt => ⟨Nat.lt_of_lt_of_le hlt hc29.size, hc29.block b hlt fun e => by omega⟩) (fun b hb _ => by omega) _ _ _ e3⟩
      · cases e2
    · obtain ⟨gw, rfl⟩ := hch.form
      have HCH := Lib.hid hch; clear hch
      have hno : Sh.dec tVote bs = none := by
        obtain ⟨_, _, o3⟩ := HO.out
        rcases o3 with ⟨x, _, e2, _⟩ | ⟨e1, _⟩
        · cases e2
        · exact e1
      have HNO := Lib.hid hno; clear hno
      go_wp2_with (refine wpList_store_blk (cs0 := zFVote) (cs := C) rfl 53 _ _ rfl (Blk.new w2 _ _) rfl rfl (by rw [HL.out]; exact len_faceVote) HI.out H1.out ?_; intro w3 hb3 hc3; have HC3 := Lib.hid (show Chg (fun _ => False) w2 w3 from ((Chg.refl _ w2).alloc _).trans hc3 fun b h => .inr (Nat.le_of_eq h.symm)); clear hb3 hc3)
      have hr : Blk _ _ _ _ := (HK.out.chg HC3.out id).drew
      have hz : Blk _ _ _ _ := (HZ.out.chg HC3.out id).drew
      have hb := (HB2.out.trans (HC3.out.below HB2.out.size fun b h => h.elim)).drew
      have hch3 := HCH.out.to (w' := w3.drew) (S' := fun b => w.heap.size + 2 ≤ b) (fun b hb hlt => ⟨Nat.lt_of_lt_of_le hlt HC3.out.size, HC3.out.block b hlt id⟩) fun b hb _ => hb
      have hz3 : w.heap.size + 2 ≤ w3.drew.heap.size := Nat.le_trans hz2 HC3.out.size
      refine wp_region_hoist [0, 1] [2] [3, 4] (fun w' => Blk w' (w.heap.size + 1) 53 (zFVote).toArray) (by kernel_rfl) (by kernel_rfl) (by kernel_rfl) (by kernel_rfl) (by kernel_rfl) (by kernel_rfl) hz ?_
      (refine HoistK.load (by rfl) (by kernel_rfl) 53 _ rfl (w.heap.size + 1) 0 rfl zFVote _ (fun w' hw => hw.range) Tryd.underlying53 rfl size_faceVote ?_; simp only [Act.put, List.setIfInBounds_toArray, List.getElem_toArray, List.getElem_cons_zero, List.set_cons_succ, List.set_cons_zero])
      (refine HoistK.yes (by rfl) (by kernel_rfl) ⟨?_, fun w' hSw => ?_, ?_⟩; rotate_left; (· go_simp; try with_reducible rfl); simp only [Act.put, List.setIfInBounds_toArray, List.getElem_toArray, List.getElem_cons_succ, List.getElem_cons_zero, List.set_cons_succ, List.set_cons_zero])
      refine HoistK.nil_ ?_
      simp only [opsAt, List.filterMap_cons, List.filterMap_nil, List.getElem?_toArray, List.getElem?_cons_succ, List.getElem?_cons_zero]
      refine Effects.world (F := fun W => Below w.heap.size w W ∧ Blk W w.heap.size 53 (zFVote).toArray ∧ Blk W (w.heap.size + 1) 53 (zFVote).toArray ∧ Chain W (fun b => w.heap.size + 2 ≤ b) sent (.iface 133 (.pointer (some ⟨gw, 0, none⟩)))) (fun W hF => ?_) ⟨hb, hr, hz, hch3⟩
      clear hb hr hz hch3 hz3
      obtain ⟨hb, hr, hz, hch⟩ := hF
      refine Effects.cons_ fun _ hQ => ?_
      go_wp2_with fail
      refine (told_any (r := false) _ (hp.below hb) (Wr.of_chain hch)).mono ?_
      rintro e W2 ⟨rfl, hb2⟩
      replace hb := hb.trans (hb2.mono hb.size)
      replace hr := hr.below hb2 hr.lt
      replace hz := hz.below hb2 hz.lt
      go_wp2_with fail
      refine hQ _ _ hz (Effects.nil_ fun _ hQ => ?_)
      refine wpList_store_blk (cs0 := zFVote) (cs := zFVote) rfl 53 _ _ rfl hr rfl rfl rfl size_faceVote one_faceVote ?_
      intro W3 hr3 hc3
      go_wp2_with fail
      replace hb := hb.trans (hc3.below hb.size fun b h => Nat.le_of_eq h.symm)
      have hld := run_loadVar_mid (P := Tryd.prog) _ w.heap.size 0 53 zFVote _ hr3.range Tryd.underlying53 rfl size_faceVote
      exact bodyPost_ret (v := .tuple #[.agg (zFVote).toArray, .int .i64 5]) (by simp [results, Tryd.results73, asAddr, hld]) rfl ⟨hb, _, 5, rfl, len_faceVote, one_faceVote, .inr ⟨hlen, .inr ⟨HNO.out, rfl⟩⟩⟩

set_option maxHeartbeats 4000000 in
set_option maxRecDepth 100000 in
theorem ReadVote_any (w : World) {S : Nat → Prop} {v sent : Value} {bs : List UInt8} (h : Bs w S v bs) (hp : Pk w sent) :
    Calls Tryd.prog 48 #[v] w (FaceOut tVote w bs) := by
  have hal1 := (Below.refl w.heap.size w).alloc (Nat.le_refl _) (.cells (zFVote).toArray 53)
  have HF := Lib.hid (faceVote_any _ (h.below hal1) (hp.below hal1))
  have HR := Lib.hid (Blk.new w 53 (zFVote).toArray)
  have HA := Lib.hid hal1
  obtain ⟨A, cap, rfl⟩ := h.form
  clear h hp hal1
  go_enter Tryd.func48, Tryd.ntmps48
  go_wp2_with fail
  refine HF.out.mono ?_
  rintro e w1 ⟨hb, C, n, rfl, hl, h1, hn⟩
  have hl : C.length = 69 := hl
  have HL := Lib.hid hl
  have HI := Lib.hid (show (Tryd.prog.info? 53).map (·.size) = some C.length from by rw [hl]; rw [size_faceVote, len_faceVote])
  have H1 := Lib.hid h1
  have hlz : (zFVote).length = C.length := by rw [hl, len_faceVote]
  have HLZ := Lib.hid hlz
  have HK := Lib.hid (HR.out.below hb (by simp))
  have HB := Lib.hid hb
  have HN := Lib.hid hn
  have hz1 : w.heap.size + 1 ≤ w1.heap.size := by have := hb.size; simpa using this
  clear hl h1 hlz hb hn HF HR
  go_wp2_with (refine wpList_store_blk (cs0 := zFVote) (cs := C) rfl 53 _ _ rfl HK.out rfl rfl HLZ.out HI.out H1.out ?_; intro w9 hb9 hc9; have HB9 := Lib.hid hb9; have HC9 := Lib.hid hc9; clear hb9 hc9)
  have hld := run_loadVar_mid (P := Tryd.prog) w9 w.heap.size 0 53 C _ HB9.out.range Tryd.underlying53 rfl HI.out
  refine bodyPost_ret (v := .tuple #[.agg C.toArray, .int .i64 n]) (by simp [results, Tryd.results48, asAddr, hld]) rfl ?_
  have hbw := HA.out.trans (HB.out.mono HA.out.size)
  refine ⟨hbw.trans (HC9.out.below hbw.size fun b h => Nat.le_of_eq h.symm), C, n, rfl, HL.out, H1.out, HN.out.imp id fun ⟨q1, q2⟩ => ⟨q1, q2.imp (fun ⟨x, e1, e2, e3⟩ => ⟨x, e1, e2, ?_⟩) id⟩⟩
  exact Sh.rep_to (fun b hb hlt => ⟨Nat.lt_of_lt_of_le hlt HC9.out.size, HC9.out.block b hlt fun e => by simp at hb; omega⟩) (fun b hb _ => by simp at hb; omega) _ _ _ e3

end Go.Proofs.YtjjgmkfkmckkoaaDoor

/- Codec's laws: vote: written as the document says, read back as it was. Printed by genLaw.py. -/
namespace Go.Proofs.YtjjgmkfkmckkoaaDoor
open Go.RowKit Go.Maps
attribute [-simp] Tryd.isAgg23 Tryd.typeInfo23 Tryd.isAgg53 Tryd.typeInfo53

set_option maxHeartbeats 8000000 in
set_option maxRecDepth 100000 in
theorem lawVote_any (w : World) {S : Nat → Prop} {x : tVote.El} {cs : List Value} {sent : Value} (h : tVote.rep w S x cs) (h1 : ∀ v ∈ cs, v.oneCell' = true) (hS : ∀ b, S b → b < w.heap.size) (hl : (tVote.enc x).length ≤ 1099511627776) (hp : Pk w sent) :
    Calls Tryd.prog 15 #[.agg cs.toArray] w fun e w' => e = .returned (.bool true) ∧ Below w.heap.size w w' := by
  have hpos : 0 < (tVote.enc x).length := by
    show 0 < (joinB _).length
    rw [joinB_length]; omega
  have hsize := Sh.rep_size _ _ _ h
  have hwf := Sh.rep_wf _ _ _ h
  have hdec := Sh.dec_enc tVote x hwf (by omega)
  have HI := Lib.hid (show (Tryd.prog.info? 53).map (·.size) = some cs.length from by rw [hsize]; kernel_rfl)
  obtain ⟨bs, hbs⟩ : ∃ bs, bs = tVote.enc x := ⟨_, rfl⟩
  have hal1 := (Below.refl w.heap.size w).alloc (Nat.le_refl _) (.cells cs.toArray 53)
  have h0 := Sh.rep_below h hal1
  have hA := vote_any _ h0 hl
  rw [← hbs] at hl hpos hdec hA
  have HA := Lib.hid hA
  have HX := Lib.hid (Blk.new w 53 cs.toArray)
  have HB1 := Lib.hid hal1
  have HR := Lib.hid h
  have HL := Lib.hid hl
  have HBS := Lib.hid hbs
  have HS := Lib.hid hS
  have HP := Lib.hid hp
  have HD := Lib.hid hdec
  have H1 := Lib.hid h1
  clear h hl hbs hsize hwf hdec hal1 h0 hA hS hp h1
  go_enter Tryd.func15, Tryd.ntmps15
  go_wp2_with (refine wpList_load_blk' rfl 53 _ rfl HX.out rfl Tryd.underlying53 rfl HI.out ?_)
  refine HA.out.mono ?_
  rintro e w2 ⟨v, rfl, f2⟩
  obtain ⟨A, cap, rfl⟩ := f2.1.form
  have hB2 := HB1.out.trans (f2.2.mono HB1.out.size)
  have HX2 := Lib.hid (HX.out.below f2.2 HX.out.lt)
  have HF2 := Lib.hid f2
  have HB2 := Lib.hid hB2
  clear hB2 f2 HA HX
  go_wp2_with fail
  -- REGION 2
  have hx := HX2.out.drew
  have hf := HF2.out.1.drew
  have hb := HB2.out.drew
  refine wp_region_segsV [([0, 1, 2], [3]), ([4, 5], [])] (by kernel_rfl) (by kernel_rfl) (by kernel_rfl) (by kernel_rfl) (SegV.mk (fun w' => Blk w' w.heap.size 53 cs.toArray ∧ Bs w' (fun b => w.heap.size + 1 ≤ b) (.slice A bs.length cap) bs) (fun _ _ => trivial) ⟨hx, hf.sub fun b hb _ => by simpa using hb.1⟩ ?_)
  (refine HoistK.yes (by rfl) (by kernel_rfl) ⟨?_, fun w' hSw => ?_, ?_⟩; rotate_left; (· go_simp; try with_reducible rfl); simp only [Act.put, List.setIfInBounds_toArray, List.getElem_toArray, List.getElem_cons_zero, List.set_cons_succ, List.set_cons_zero])
  (refine HoistK.yes (by rfl) (by kernel_rfl) ⟨?_, fun w' hSw => ?_, ?_⟩; rotate_left; (· have e1 := run_str hSw.2 Tryd.underlying28 Tryd.underlying5 Tryd.underlying9; go_simp; try with_reducible rfl); simp only [Act.put, List.setIfInBounds_toArray, List.getElem_toArray, List.getElem_cons_succ, List.getElem_cons_zero, List.set_cons_succ, List.set_cons_zero])
  (refine HoistK.load (by rfl) (by kernel_rfl) 53 _ rfl w.heap.size 0 rfl cs _ (fun w' hw => hw.1.range) Tryd.underlying53 rfl HI.out ?_; simp only [Act.put, List.setIfInBounds_toArray, List.getElem_toArray, List.getElem_cons_succ, List.getElem_cons_zero, List.set_cons_succ, List.set_cons_zero])
  refine HoistK.nil_ ?_
  simp only [opsAt, List.filterMap_cons, List.filterMap_nil, List.getElem?_toArray, List.getElem?_cons_succ, List.getElem?_cons_zero]
  refine EffS.cons_ fun _ hQ => ?_
  have hr := rVote_any _ (Sh.rep_below HR.out hb) (by rw [← HBS.out]; exact HL.out)
  rw [← HBS.out] at hr
  have HRR := Lib.hid hr
  clear hr hx hf hb
  go_wp2_with fail
  refine HRR.out.mono ?_
  rintro e w3 ⟨v3, rfl, f3⟩
  obtain ⟨A3, c3, rfl⟩ := f3.1.form
  have hx := HX2.out.drew.below f3.2 HX2.out.drew.lt
  have hf := HF2.out.1.drew.below f3.2
  have hb := HB2.out.drew.trans (f3.2.mono HB2.out.drew.size)
  have HX3 := Lib.hid hx
  have HF3 := Lib.hid hf
  have HB3 := Lib.hid hb
  have HS23 := Lib.hid (show Below w2.heap.size w2 w3 from ((Below.refl _ w2).drew).trans f3.2)
  have hf3 := f3.1
  clear f3 HRR HX2 HF2 HB2
  go_wp2_with fail
  refine hQ _ _ ⟨hx, hf.sub fun b hb _ => by simpa using hb.1⟩ (EffS.nil_ (SegV.mk (fun w' => (Blk w' w.heap.size 53 cs.toArray ∧ Bs w' (fun b => w.heap.size + 1 ≤ b) (.slice A bs.length cap) bs) ∧ Bs w' (fun b => w2.heap.size ≤ b) (.slice A3 bs.length c3) bs) (fun _ h => h.1) ⟨⟨hx, hf.sub fun b hb _ => by simpa using hb.1⟩, hf3.sub fun b hb _ => hb.1⟩ ?_))
  (refine HoistK.yes (by rfl) (by kernel_rfl) ⟨?_, fun w' hSw => ?_, ?_⟩; rotate_left; (· have e1 := run_str hSw.2 Tryd.underlying28 Tryd.underlying5 Tryd.underlying9; go_simp; try with_reducible rfl); simp only [Act.put, List.setIfInBounds_toArray, List.getElem_toArray, List.getElem_cons_succ, List.getElem_cons_zero, List.set_cons_succ, List.set_cons_zero])
  (refine HoistK.yes (by rfl) (by kernel_rfl) ⟨?_, fun w' hSw => ?_, ?_⟩; rotate_left; (· go_simp; try with_reducible rfl); simp only [Act.put, List.setIfInBounds_toArray, List.getElem_toArray, List.getElem_cons_succ, List.getElem_cons_zero, List.set_cons_succ, List.set_cons_zero])
  refine HoistK.nil_ ?_
  simp only [opsAt, List.filterMap_nil, List.getElem?_toArray]
  refine EffS.nil_ fun _ hQ => ?_
  go_wp2_with fail
  refine (ReadVote_any _ HF3.out (HP.out.below HB3.out)).mono ?_
  rintro e w4 ⟨hb4, C, n, rfl, hCl, hC1, hn⟩
  have hsz3 := HB3.out.size
  have HX4 := Lib.hid (HX3.out.below hb4 HX3.out.lt)
  have HF4 := Lib.hid (HF3.out.below hb4)
  have HB4 := Lib.hid (HB3.out.trans (hb4.mono HB3.out.size))
  have hs34 := hb4.size
  have HS34 := Lib.hid hb4
  have HCL := Lib.hid hCl
  have HC1 := Lib.hid hC1
  have HN := Lib.hid hn
  have HCI := Lib.hid (show (Tryd.prog.info? 53).map (·.size) = some C.length from by rw [hCl]; kernel_rfl)
  have HZL := Lib.hid (show zFVote.length = C.length from by rw [hCl]; rfl)
  clear hCl hC1 hn HF3 HX3 HB3 hb4
  by_cases hbig : 262144 < bs.length
  · obtain rfl : n = 4 := by
      rcases HN.out with ⟨_, h⟩ | ⟨h, _⟩
      · exact h
      · omega
    go_wp2_with (refine wpList_store_blk (cs0 := zFVote) (cs := C) rfl 53 _ _ rfl (Blk.new w4 _ _) rfl rfl HZL.out HCI.out HC1.out ?_; intro w5 hy5 hc5; have HY5 := Lib.hid hy5; have HC5 := Lib.hid (show Chg (fun _ => False) w4 w5 from ((Chg.refl _ w4).alloc _).trans hc5 fun b h => .inr (Nat.le_of_eq h.symm)); clear hy5 hc5)
    go_ret
    exact ⟨rfl, HB4.out.trans (HC5.out.below HB4.out.size fun b h => h.elim)⟩
  obtain ⟨hrep, rfl⟩ : tVote.rep w4 (fun b => w3.heap.size ≤ b) x C ∧ n = 0 := by
    rcases HN.out with ⟨h, _⟩ | ⟨_, ⟨y, h1, h2, h3⟩ | ⟨h1, _⟩⟩
    · omega
    · rw [HD.out] at h1
      injection h1 with h1
      subst h1
      exact ⟨h3, h2⟩
    · rw [HD.out] at h1; cases h1
  have HREP := Lib.hid hrep
  clear hrep HN
  go_wp2_with (refine wpList_store_blk (cs0 := zFVote) (cs := C) rfl 53 _ _ rfl (Blk.new w4 _ _) rfl rfl HZL.out HCI.out HC1.out ?_; intro w5 hy5 hc5; have HY5 := Lib.hid hy5; have HC5 := Lib.hid (show Chg (fun _ => False) w4 w5 from ((Chg.refl _ w4).alloc _).trans hc5 fun b h => .inr (Nat.le_of_eq h.symm)); clear hy5 hc5)
  have HF5 := Lib.hid (HF4.out.chg HC5.out fun _ _ h => h)
  obtain ⟨B, off, rfl, hBw, hBlt, cB, tB, hbB, hcell⟩ : ∃ B off, A = some ⟨B, off, none⟩ ∧ w.heap.size + 1 ≤ B ∧ B < w3.heap.size ∧ ∃ cB tB, Blk w5 B tB cB ∧ ∀ j, j < bs.length → ∃ y : Nat, y < 256 ∧ cB[off + j]? = some (.int .u8 y) := by
    obtain ⟨⟨hn, A', c', e, _, _, hp⟩, _⟩ := HF5.out
    injection e with e
    subst e
    obtain ⟨B, off, rfl, ⟨hw1, cs', t', hth⟩, hlt, hc⟩ := hp hpos
    have hB2 : B < w2.heap.size := (Array.getElem?_eq_some_iff.1 hth).1
    have hB3 := Nat.lt_of_lt_of_le hB2 HS23.out.size
    have h5 : Blk w5 B t' cs' := by
      show w5.heap[B]? = _
      rw [HC5.out.block B (Nat.lt_of_lt_of_le hB3 hs34) id, HS34.out.block B hB3, HS23.out.block B hB2]
      exact hth
    refine ⟨B, off, rfl, by simpa using hw1, hB3, cs', t', h5, fun j hj => ⟨bs[j].toNat, UInt8.toNat_lt _, ?_⟩⟩
    rw [← h5.cell, hc j _ (u8s_get bs j hj)]
  go_loopw [27] (fun i wr => ∃ k : Nat, k ≤ bs.length ∧ i = .int .i64 k ∧ (∃ c, Hid (Blk wr B tB c ∧ ∀ j, j < bs.length → ∃ y : Nat, y < 256 ∧ c[off + j]? = some (.int .u8 y))) ∧ Chg (fun b => b = B) w5 wr) (fun i _ => bs.length - (intOf i).toNat)
  case atStart => exact ⟨0, Nat.zero_le _, rfl, ⟨cB, Lib.hid ⟨hbB, hcell⟩⟩, Chg.refl _ _⟩
  case round =>
    obtain ⟨k, hk, rfl, ⟨c, hC⟩, hch⟩ := hrel
    by_cases hlt : k < bs.length
    · obtain ⟨y, hy, hc⟩ := hC.out.2 k hlt
      have hcc : wr.cell? ⟨B, off + k, none⟩ = some (.int .u8 y) := by rw [hC.out.1.cell]; exact hc
      have hz := hC.out.1.frozen (off + k)
      go_wp2
      refine ⟨⟨k + 1, by omega, by push_cast; rfl, ⟨c.setIfInBounds (off + k) _, Lib.hid ⟨hC.out.1.set_ _ _, fun j hj => ?_⟩⟩, hch.setIn _ _⟩, by simp only [intOf]; omega⟩
      by_cases e : j = k
      · subst e
        refine ⟨y ^^^ 85, Nat.xor_lt_two_pow (n := 8) (by omega) (by omega), ?_⟩
        rw [Array.getElem?_setIfInBounds_self_of_lt (Array.getElem?_eq_some_iff.1 hc).1]
        have := u8_xor_nat y 85 hy (by omega)
        exact congrArg (fun z => some (Value.int .u8 z)) this
      · obtain ⟨y', h1, h2⟩ := hC.out.2 j hj
        exact ⟨y', h1, by rw [Array.getElem?_setIfInBounds_ne (by omega)]; exact h2⟩
    · have hx := ((HX4.out.chg HC5.out id).chg hch fun e => by have e : w.heap.size = B := e; omega).drew
      have hy := (HY5.out.chg hch fun e => by have e : w4.heap.size = B := e; omega).drew
      have hb5 := HB4.out.trans (HC5.out.below HB4.out.size fun b h => h.elim)
      have hbr := (hb5.trans (hch.below hb5.size fun b h => by have h : b = B := h; omega)).drew
      have hrx := Sh.rep_below HR.out hbr
      have hry : tVote.rep wr.drew (fun b => w3.heap.size ≤ b) x C := Sh.rep_chg (Sh.rep_chg HREP.out HC5.out fun _ _ h => h) hch.drew fun b h1 h2 => by have h2 : b = B := h2; omega
      have HRX := Lib.hid hrx
      have HRY := Lib.hid hry
      have HBR := Lib.hid hbr
      have hl : (tVote.enc x).length ≤ 1099511627776 := by rw [← HBS.out]; exact HL.out
      clear hC hbB hcell
      go_wp2_with fail
      refine wp_region_segsV [([0, 1, 2, 3, 6], [4]), ([5], [7]), ([8, 9, 10], [11])] (by kernel_rfl) (by kernel_rfl) (by kernel_rfl) (by kernel_rfl) (SegV.mk (fun w' => Blk w' w.heap.size 53 cs.toArray ∧ Blk w' w4.heap.size 53 C.toArray) (fun _ _ => trivial) ⟨hx, hy⟩ ?_)
      (refine HoistK.yes (by rfl) (by kernel_rfl) ⟨?_, fun w' hSw => ?_, ?_⟩; rotate_left; (· go_simp; try with_reducible rfl); simp only [Act.put, List.setIfInBounds_toArray, List.getElem_toArray, List.getElem_cons_zero, List.set_cons_succ, List.set_cons_zero])
      (refine HoistK.yes (by rfl) (by kernel_rfl) ⟨?_, fun w' hSw => ?_, ?_⟩; rotate_left; (· go_simp; try with_reducible rfl); simp only [Act.put, List.setIfInBounds_toArray, List.getElem_toArray, List.getElem_cons_succ, List.getElem_cons_zero, List.set_cons_succ, List.set_cons_zero])
      (refine HoistK.yes (by rfl) (by kernel_rfl) ⟨?_, fun w' hSw => ?_, ?_⟩; rotate_left; (· go_simp; try with_reducible rfl); simp only [Act.put, List.setIfInBounds_toArray, List.getElem_toArray, List.getElem_cons_succ, List.getElem_cons_zero, List.set_cons_succ, List.set_cons_zero])
      (refine HoistK.load (by rfl) (by kernel_rfl) 53 _ rfl w4.heap.size 0 rfl C _ (fun w' hw => hw.2.range) Tryd.underlying53 rfl HCI.out ?_; simp only [Act.put, List.setIfInBounds_toArray, List.getElem_toArray, List.getElem_cons_succ, List.getElem_cons_zero, List.set_cons_succ, List.set_cons_zero])
      (refine HoistK.load (by rfl) (by kernel_rfl) 53 _ rfl w.heap.size 0 rfl cs _ (fun w' hw => hw.1.range) Tryd.underlying53 rfl HI.out ?_; simp only [Act.put, List.setIfInBounds_toArray, List.getElem_toArray, List.getElem_cons_succ, List.getElem_cons_zero, List.set_cons_succ, List.set_cons_zero])
      refine HoistK.nil_ ?_
      simp only [opsAt, List.filterMap_cons, List.filterMap_nil, List.getElem?_toArray, List.getElem?_cons_succ, List.getElem?_cons_zero]
      refine EffS.cons_ fun _ hQ => ?_
      have HC1' := Lib.hid (rVote_any _ HRY.out hl)
      go_wp2_with fail
      refine HC1'.out.mono ?_
      rintro e w6 ⟨v6, rfl, f6⟩
      rw [← HBS.out] at f6
      obtain ⟨A6, c6, rfl⟩ := f6.1.form
      have hx6 := hx.below f6.2 hx.lt
      have hy6 := hy.below f6.2 hy.lt
      have HB6 := Lib.hid (HBR.out.trans (f6.2.mono HBR.out.size))
      have hf6 := f6.1
      clear f6 HC1'
      go_wp2_with fail
      refine hQ _ _ ⟨hx6, hy6⟩ (EffS.nil_ (SegV.mk (fun w' => (Blk w' w.heap.size 53 cs.toArray ∧ Blk w' w4.heap.size 53 C.toArray) ∧ Bs w' (fun b => wr.heap.size ≤ b) (.slice A6 bs.length c6) bs) (fun _ h => h.1) ⟨⟨hx6, hy6⟩, hf6.sub fun b hb _ => hb.1⟩ ?_))
      (refine HoistK.yes (by rfl) (by kernel_rfl) ⟨?_, fun w' hSw => ?_, ?_⟩; rotate_left; (· have e1 := run_str hSw.2 Tryd.underlying28 Tryd.underlying5 Tryd.underlying9; go_simp; try with_reducible rfl); simp only [Act.put, List.setIfInBounds_toArray, List.getElem_toArray, List.getElem_cons_succ, List.getElem_cons_zero, List.set_cons_succ, List.set_cons_zero])
      refine HoistK.nil_ ?_
      simp only [opsAt, List.filterMap_cons, List.filterMap_nil, List.getElem?_toArray, List.getElem?_cons_succ, List.getElem?_cons_zero]
      refine EffS.cons_ fun _ hQ => ?_
      have HC2' := Lib.hid (rVote_any _ (Sh.rep_below HR.out HB6.out) hl)
      go_wp2_with fail
      refine HC2'.out.mono ?_
      rintro e w7 ⟨v7, rfl, f7⟩
      rw [← HBS.out] at f7
      obtain ⟨A7, c7, rfl⟩ := f7.1.form
      have hx7 := hx6.below f7.2 hx6.lt
      have hy7 := hy6.below f7.2 hy6.lt
      have HB7 := Lib.hid (HB6.out.trans (f7.2.mono HB6.out.size))
      have hf67 := hf6.below f7.2
      have hf7 := f7.1
      clear f7 HC2'
      go_wp2_with fail
      refine hQ _ _ ⟨⟨hx7, hy7⟩, hf67.sub fun b hb _ => hb.1⟩ (EffS.nil_ (SegV.mk (fun w' => ((Blk w' w.heap.size 53 cs.toArray ∧ Blk w' w4.heap.size 53 C.toArray) ∧ Bs w' (fun b => wr.heap.size ≤ b) (.slice A6 bs.length c6) bs) ∧ Bs w' (fun b => w6.heap.size ≤ b) (.slice A7 bs.length c7) bs) (fun _ h => h.1) ⟨⟨⟨hx7, hy7⟩, hf67.sub fun b hb _ => hb.1⟩, hf7.sub fun b hb _ => hb.1⟩ ?_))
      (refine HoistK.yes (by rfl) (by kernel_rfl) ⟨?_, fun w' hSw => ?_, ?_⟩; rotate_left; (· have e1 := run_str hSw.2 Tryd.underlying28 Tryd.underlying5 Tryd.underlying9; go_simp; try with_reducible rfl); simp only [Act.put, List.setIfInBounds_toArray, List.getElem_toArray, List.getElem_cons_succ, List.getElem_cons_zero, List.set_cons_succ, List.set_cons_zero])
      (refine HoistK.yes (by rfl) (by kernel_rfl) ⟨?_, fun w' hSw => ?_, ?_⟩; rotate_left; (· go_simp; try with_reducible rfl); simp only [Act.put, List.setIfInBounds_toArray, List.getElem_toArray, List.getElem_cons_succ, List.getElem_cons_zero, List.set_cons_succ, List.set_cons_zero])
      (refine HoistK.yes (by rfl) (by kernel_rfl) ⟨?_, fun w' hSw => ?_, ?_⟩; rotate_left; (· go_simp; try with_reducible rfl); simp only [Act.put, List.setIfInBounds_toArray, List.getElem_toArray, List.getElem_cons_succ, List.getElem_cons_zero, List.set_cons_succ, List.set_cons_zero])
      refine HoistK.nil_ ?_
      simp only [opsAt, List.filterMap_cons, List.filterMap_nil, List.getElem?_toArray, List.getElem?_cons_succ, List.getElem?_cons_zero]
      refine EffS.cons_ fun _ hQ => ?_
      go_wp2_with fail
      refine hQ _ _ ⟨⟨⟨hx7, hy7⟩, hf67.sub fun b hb _ => hb.1⟩, hf7.sub fun b hb _ => hb.1⟩ (EffS.nil_ fun _ hQ => ?_)
      go_wp2_with fail
      go_ret
      exact ⟨rfl, HB7.out⟩
end Go.Proofs.YtjjgmkfkmckkoaaDoor

/- Codec: a timeout read. -/
namespace Go.Proofs.YtjjgmkfkmckkoaaDoor
open Go.RowKit Go.Maps
attribute [-simp] Tryd.isAgg23 Tryd.typeInfo23 Tryd.isAgg55 Tryd.typeInfo55

theorem info_readTimeout : (Tryd.prog.info? 55).map (fun i => (i.zero.map (fun z => z.cells.size))) = some (some 74) := by kernel_rfl
theorem size_readTimeout : (Tryd.prog.info? 55).map (·.size) = some 74 := by kernel_rfl
theorem places_readTimeout : ((match Tryd.prog.underlying 55 with | some (.struct fields) => fields.toList.mapM (fun f => (Tryd.prog.info? f.type).map fun i => (f.offset, i.size)) | _ => none)) = some [(0, 1), (1, 1), (2, 1), (3, 37), (40, 1), (41, 33)] := by kernel_rfl
set_option maxHeartbeats 4000000 in
set_option maxRecDepth 100000 in
theorem readTimeout_any (w : World) {S : Nat → Prop} {v sent : Value} {bs : List UInt8} (h : Bs w S v bs) (hlen : bs.length ≤ 262144) (hg : Gl w sent) :
    Calls Tryd.prog 76 #[v] w (ReadOut (.tup (.cons i64 (.cons i64 (.cons i64 (.cons tQC (.cons i64 (.cons tSig .nil))))))) w sent bs) := by
  have hal := (Below.refl w.heap.size w).alloc (Nat.le_refl _) (.cells (([.int .i64 0, .int .i64 0, .int .i64 0] ++ ([.int .i64 0, .int .i64 0, .int .i64 0] ++ List.replicate 32 (.int .u8 0) ++ [.slice none 0 0, .slice none 0 0]) ++ [.int .i64 0] ++ ([.int .i64 0] ++ List.replicate 32 (.int .u8 0)) : List Value)).toArray 55)
  have HS := Lib.hid (psplit_any _ (h.below hal) (by omega) (hg.below hal) 6 (by omega) ⟨#[97, 32, 116, 105, 109, 101, 111, 117, 116]⟩)
  have HN := Lib.hid (Blk.new w 55 (([.int .i64 0, .int .i64 0, .int .i64 0] ++ ([.int .i64 0, .int .i64 0, .int .i64 0] ++ List.replicate 32 (.int .u8 0) ++ [.slice none 0 0, .slice none 0 0]) ++ [.int .i64 0] ++ ([.int .i64 0] ++ List.replicate 32 (.int .u8 0)) : List Value)).toArray)
  have HAL := Lib.hid hal
  obtain ⟨A, cap, rfl⟩ := h.form
  clear h hg hal
  go_enter Tryd.func76, Tryd.ntmps76
  go_wp2_with fail
  refine HS.out.mono ?_
  rintro e w1 ⟨g, rows, bad, rfl, hgw, hb1, hp, hn, hrl, hs⟩
  obtain ⟨r0, r1, r2, r3, r4, r5, rfl⟩ : ∃ r0 r1 r2 r3 r4 r5, rows = [r0, r1, r2, r3, r4, r5] := by
    match rows, hn with
    | [r0, r1, r2, r3, r4, r5], _ => exact ⟨r0, r1, r2, r3, r4, r5, rfl⟩
  have HK := Lib.hid (HN.out.below hb1 (by simp))
  have hgw' : w.heap.size + 1 ≤ g := by simpa using hgw
  have hz1 : w.heap.size + 1 ≤ w1.heap.size := by simpa using hb1.size
  have HB1 := Lib.hid (HAL.out.trans (hb1.mono (by simp)))
  have HSS := Lib.hid hs
  have HRL := Lib.hid (show ∀ x ∈ [r0, r1, r2, r3, r4, r5], x.length ≤ 262144 from fun x hx => Nat.le_trans (hrl x hx) hlen)
  have hE : Pt w1 (fun b => b = g) (w.heap.size + 1) g sent [r0, r1, r2, r3, r4, r5] bad := by simpa using hp
  clear HS HN HAL hgw hb1 hs hn hp hrl hlen
  have hp0 := hE
  clear hE
  go_wp2_with fail
  refine (int_any _ hp0).mono ?_
  rintro e w2 ht
  obtain ⟨y0, b0, rfl, h10, hc0, hp1, ho0⟩ := ht.one (fun _ => rfl) rfl
  have hgl0 := hp0.lt
  have hz2 := Nat.le_trans hz1 hc0.size
  have HO0 := Lib.hid ho0
  have HC0 := Lib.hid hc0
  have H10 := Lib.hid h10
  clear ht ho0 hc0 h10 hp0
  go_wp2_with fail
  refine (int_any _ hp1).mono ?_
  rintro e w3 ht
  obtain ⟨y1, b1, rfl, h11, hc1, hp2, ho1⟩ := ht.one (fun _ => rfl) rfl
  have hgl1 := hp1.lt
  have hz3 := Nat.le_trans hz2 hc1.size
  have HO1 := Lib.hid ho1
  have HC1 := Lib.hid hc1
  have H11 := Lib.hid h11
  clear ht ho1 hc1 h11 hp1
  go_wp2_with fail
  refine (n_any _ hp2).mono ?_
  rintro e w4 ht
  obtain ⟨y2, b2, rfl, h12, hc2, hp3, ho2⟩ := ht.one (fun _ => rfl) rfl
  have hgl2 := hp2.lt
  have hz4 := Nat.le_trans hz3 hc2.size
  have HO2 := Lib.hid ho2
  have HC2 := Lib.hid hc2
  have H12 := Lib.hid h12
  clear ht ho2 hc2 h12 hp2
  go_wp2_with fail
  refine (oneQC_any _ hp3 (HRL.out _ (by simp))).mono ?_
  rintro e w5 ht
  obtain ⟨c3, b3, rfl, h13, hl3, hc3, hp4, ho3⟩ := ht.agg (fun _ => rfl)
  have hl3 : c3.length = 37 := hl3
  have hgl3 := hp3.lt
  have hz5 := Nat.le_trans hz4 hc3.size
  have HO3 := Lib.hid ho3
  have HC3 := Lib.hid hc3
  have H13 := Lib.hid h13
  have HL3 := Lib.hid hl3
  clear hl3
  clear ht ho3 hc3 h13 hp3
  go_wp2_with fail
  refine (int_any _ hp4).mono ?_
  rintro e w6 ht
  obtain ⟨y4, b4, rfl, h14, hc4, hp5, ho4⟩ := ht.one (fun _ => rfl) rfl
  have hgl4 := hp4.lt
  have hz6 := Nat.le_trans hz5 hc4.size
  have HO4 := Lib.hid ho4
  have HC4 := Lib.hid hc4
  have H14 := Lib.hid h14
  clear ht ho4 hc4 h14 hp4
  go_wp2_with fail
  refine (oneSig_any _ hp5 (HRL.out _ (by simp))).mono ?_
  rintro e w7 ht
  obtain ⟨c5, b5, rfl, h15, hl5, hc5, hp6, ho5⟩ := ht.agg (fun _ => rfl)
  have hl5 : c5.length = 33 := hl5
  have hgl5 := hp5.lt
  have hz7 := Nat.le_trans hz6 hc5.size
  have HO5 := Lib.hid ho5
  have HC5 := Lib.hid hc5
  have H15 := Lib.hid h15
  have HL5 := Lib.hid hl5
  clear hl5
  clear ht ho5 hc5 h15 hp5
  have hbu := run_struct (P := Tryd.prog) (vs := [y0, y1, y2, .agg c3.toArray, y4, .agg c5.toArray]) (cs := [[y0], [y1], [y2], c3, [y4], c5]) info_readTimeout places_readTimeout ⟨cells_one H10.out, cells_one H11.out, cells_one H12.out, rfl, cells_one H14.out, rfl, trivial⟩ (by simp [PlaceOk, HL3.out, HL5.out]) (by simp [HL3.out, HL5.out]) #[(0, y0), (1, y1), (2, y2), (3, .agg c3.toArray), (4, y4), (5, .agg c5.toArray)] rfl
  have hone : ∀ v ∈ [[y0], [y1], [y2], c3, [y4], c5].flatten, v.oneCell' = true := by
    intro v hv
    simp only [List.flatten_cons, List.flatten_nil, List.mem_append, List.mem_singleton, List.not_mem_nil, or_false] at hv
    rcases hv with rfl | rfl | rfl | hv | rfl | hv
    · exact H10.out
    · exact H11.out
    · exact H12.out
    · exact H13.out v hv
    · exact H14.out
    · exact H15.out v hv
  have HOUT := Lib.hid (show Fs.Out (.cons i64 (.cons i64 (.cons i64 (.cons tQC (.cons i64 (.cons tSig .nil)))))) w7 (fun b => w.heap.size + 1 ≤ b) [r0, r1, r2, r3, r4, r5] [[y0], [y1], [y2], c3, [y4], c5].flatten bad b5 from by
    have := Fs.Out.step HO0.out (Fs.Out.step HO1.out (Fs.Out.step HO2.out (Fs.Out.step HO3.out (Fs.Out.step HO4.out (Fs.Out.step HO5.out (Fs.Out.nil_ w7 _ _) (Chg.refl _ _) hgl5 hz6) HC5.out hgl4 hz5) (HC4.out.trans HC5.out fun b h => .inl h) hgl3 hz4) ((HC3.out.trans HC4.out fun b h => .inl h).trans HC5.out fun b h => .inl h) hgl2 hz3) (((HC2.out.trans HC3.out fun b h => .inl h).trans HC4.out fun b h => .inl h).trans HC5.out fun b h => .inl h) hgl1 hz2) ((((HC1.out.trans HC2.out fun b h => .inl h).trans HC3.out fun b h => .inl h).trans HC4.out fun b h => .inl h).trans HC5.out fun b h => .inl h) hgl0 hz1
    simpa using this)
  have HCA := Lib.hid (show Chg (fun k => k = g) w1 w7 from (((((HC0.out.trans HC1.out fun b h => .inl h).trans HC2.out fun b h => .inl h).trans HC3.out fun b h => .inl h).trans HC4.out fun b h => .inl h).trans HC5.out fun b h => .inl h))
  have hcl : [[y0], [y1], [y2], c3, [y4], c5].flatten.length = 74 := by simp [HL3.out, HL5.out]
  obtain ⟨C, hC⟩ : ∃ C, C = [[y0], [y1], [y2], c3, [y4], c5].flatten := ⟨_, rfl⟩
  rw [← hC] at hbu hone hcl HOUT
  have HBU := Lib.hid hbu
  have HONE := Lib.hid hone
  have HCL := Lib.hid hcl
  have HI := Lib.hid (show (Tryd.prog.info? 55).map (·.size) = some C.length from by rw [hcl]; exact size_readTimeout)
  have HK2 := Lib.hid (HK.out.chg HCA.out (show ¬ w.heap.size = g from by omega))
  clear hbu hone hcl hC HK HO0 HC0 H10 HO1 HC1 H11 HO2 HC2 H12 HO3 HC3 H13 HO4 HC4 H14 HO5 HC5 H15 HL3 HL5
  have HP := Lib.hid hp6
  have hgX := hp6.lt
  clear hp6
  have hbu := HBU.out w7
  have HX := Lib.hid (HP.out.parts)
  go_wp2_with (first | (refine wpList_build_ rfl 55 _ rfl #[(0, y0), (1, y1), (2, y2), (3, .agg c3.toArray), (4, y4), (5, .agg c5.toArray)] (by simp [Act.eval]) _ hbu ?_) | (refine wpList_store_blk (cs0 := ([.int .i64 0, .int .i64 0, .int .i64 0] ++ ([.int .i64 0, .int .i64 0, .int .i64 0] ++ List.replicate 32 (.int .u8 0) ++ [.slice none 0 0, .slice none 0 0]) ++ [.int .i64 0] ++ ([.int .i64 0] ++ List.replicate 32 (.int .u8 0)) : List Value)) (cs := C) rfl 55 _ _ rfl (Blk.new w7 _ _) rfl rfl (by rw [HCL.out]; rfl) HI.out HONE.out ?_; intro wx hbx hcx; have HBX := Lib.hid hbx; have HCX := Lib.hid hcx; clear hbx hcx))
  obtain ⟨vy, ey, hblk, herr⟩ := HX.out
  have HCX' := Lib.hid (show Chg (fun _ => False) w7 wx from ((Chg.refl _ w7).alloc _).trans HCX.out fun b h => .inr (Nat.le_of_eq h.symm))
  have HGX := Lib.hid (hblk.chg HCX'.out id)
  have HKX := Lib.hid (HK2.out.chg HCX'.out id)
  have HE := Lib.hid herr
  clear hbu hblk herr HX HBU
  refine wp_region_hoist [0, 1, 2, 3, 4] [5] [6] (fun w' => Blk w' w7.heap.size 55 C.toArray ∧ Blk w' g 147 #[vy, ey])
    (by kernel_rfl) (by kernel_rfl) (by kernel_rfl) (by kernel_rfl) (by kernel_rfl) (by kernel_rfl) ⟨HBX.out.drew, HGX.out.drew⟩ ?_
  (refine HoistK.load (by rfl) (by kernel_rfl) 55 _ rfl w7.heap.size 0 rfl C _ (fun w' hw => hw.1.range) Tryd.underlying55 rfl HI.out ?_; simp only [Act.put, List.setIfInBounds_toArray, List.getElem_toArray, List.getElem_cons_zero, List.set_cons_succ, List.set_cons_zero])
  (refine HoistK.yes (by rfl) (by kernel_rfl) ⟨?_, fun w' hSw => ?_, ?_⟩; rotate_left; (· go_simp; try with_reducible rfl); simp only [Act.put, List.setIfInBounds_toArray, List.getElem_toArray, List.getElem_cons_succ, List.getElem_cons_zero, List.set_cons_succ, List.set_cons_zero])
  (refine HoistK.yes (by rfl) (by kernel_rfl) ⟨?_, fun w' hSw => ?_, ?_⟩; rotate_left; (· go_simp; try with_reducible rfl); simp only [Act.put, List.setIfInBounds_toArray, List.getElem_toArray, List.getElem_cons_succ, List.getElem_cons_zero, List.set_cons_succ, List.set_cons_zero])
  (refine HoistK.yes (by rfl) (by kernel_rfl) ⟨?_, fun w' hSw => ?_, ?_⟩; rotate_left; (· go_simp; try with_reducible rfl); simp only [Act.put, List.setIfInBounds_toArray, List.getElem_toArray, List.getElem_cons_succ, List.getElem_cons_zero, List.set_cons_succ, List.set_cons_zero])
  (refine HoistK.yes (by rfl) (by kernel_rfl) ⟨?_, fun w' hSw => ?_, ?_⟩; rotate_left; (· have hcc := hSw.2.cell; go_simp; try with_reducible rfl); simp only [Act.put, List.setIfInBounds_toArray, List.getElem_toArray, List.getElem_cons_succ, List.getElem_cons_zero, List.set_cons_succ, List.set_cons_zero])
  refine HoistK.nil_ ?_
  simp only [opsAt, List.filterMap_cons, List.filterMap_nil, List.getElem?_toArray, List.getElem?_cons_succ, List.getElem?_cons_zero]
  refine Effects.cons_ fun _ hQ1 => ?_
  go_wp2_with (refine wpList_store_blk (cs0 := ([.int .i64 0, .int .i64 0, .int .i64 0] ++ ([.int .i64 0, .int .i64 0, .int .i64 0] ++ List.replicate 32 (.int .u8 0) ++ [.slice none 0 0, .slice none 0 0]) ++ [.int .i64 0] ++ ([.int .i64 0] ++ List.replicate 32 (.int .u8 0)) : List Value)) (cs := C) rfl 55 _ _ rfl HKX.out.drew rfl rfl (by rw [HCL.out]; rfl) HI.out HONE.out ?_; intro wy hby hcy; have HBY := Lib.hid hby; have HCY := Lib.hid hcy; clear hby hcy)
  refine hQ1 _ _ ⟨HBX.out.drew.chg HCY.out (fun h => by omega), HGX.out.drew.chg HCY.out (fun h => by omega)⟩ (Effects.nil_ fun _ hQ2 => ?_)
  go_wp2
  have hld := run_loadVar_mid (P := Tryd.prog) wy w.heap.size 0 55 C _ HBY.out.range Tryd.underlying55 rfl HI.out
  refine bodyPost_ret (v := .tuple #[.agg C.toArray, ey]) (by simp [results, Tryd.results76, asAddr, hld]) rfl ?_
  have hcf : Chg (fun b => b = w.heap.size) w7 wy := ((HCX'.out.mono fun _ h => h.elim).drew).trans HCY.out fun b h => .inl h
  exact ReadOut.mk (n := 6) HOUT.out HSS.out rfl HE.out (HB1.out.trans (HCA.out.below HB1.out.size fun b h => by omega)) hcf

end Go.Proofs.YtjjgmkfkmckkoaaDoor

/- Codec: face[Timeout], ReadTimeout. -/
namespace Go.Proofs.YtjjgmkfkmckkoaaDoor
open Go.RowKit Go.Maps
attribute [-simp] Tryd.isAgg23 Tryd.typeInfo23 Tryd.isAgg55 Tryd.typeInfo55

def zFTimeout : List Value := ([.int .i64 0, .int .i64 0, .int .i64 0] ++ ([.int .i64 0, .int .i64 0, .int .i64 0] ++ List.replicate 32 (.int .u8 0) ++ [.slice none 0 0, .slice none 0 0]) ++ [.int .i64 0] ++ ([.int .i64 0] ++ List.replicate 32 (.int .u8 0)) : List Value)
theorem one_faceTimeout : ∀ v ∈ zFTimeout, v.oneCell' = true := by decide
theorem len_faceTimeout : zFTimeout.length = 74 := by decide
theorem size_faceTimeout : (Tryd.prog.info? 55).map (·.size) = some zFTimeout.length := by kernel_rfl
set_option maxHeartbeats 8000000 in
set_option maxRecDepth 100000 in
theorem faceTimeout_any (w : World) {S : Nat → Prop} {v sent : Value} {bs : List UInt8} (h : Bs w S v bs) (hp : Pk w sent) :
    Calls Tryd.prog 75 #[v, .func (Fn.func 76) #[] #[]] w (FaceOut tTimeout w bs) := by
  obtain ⟨A, cap, rfl⟩ := h.form
  have hal1 := (Below.refl w.heap.size w).alloc (Nat.le_refl _) (.cells (zFTimeout).toArray 55)
  have hal2 := hal1.alloc (by simp) (.cells (zFTimeout).toArray 55)
  have hr0 := (Blk.new w 55 (zFTimeout).toArray).alloc (.cells (zFTimeout).toArray 55)
  have hz0 := Blk.new (w.alloc (.cells (zFTimeout).toArray 55)) 55 (zFTimeout).toArray
  rw [show (w.alloc (.cells (zFTimeout).toArray 55)).heap.size = w.heap.size + 1 by simp] at hz0
  by_cases hbig : 262144 < bs.length
  · obtain ⟨sb, hsb⟩ : ∃ sb, w.cell? ⟨0, 0, none⟩ = some (.iface 205 (.pointer (some sb))) := by
      obtain ⟨_, _, b, _, _, _, _, _, _, _, _, h, _⟩ := hp
      exact ⟨b, h⟩
    have hgb : ∀ {W : World}, Below w.heap.size w W → W.cell? ⟨0, 0, none⟩ = some (.iface 205 (.pointer (some sb))) := fun hb => cell_low hsb hb
    clear h
    go_enter Tryd.func75, Tryd.ntmps75
    go_wp2_with fail
    have hb := hal2.drew
    have hr : Blk _ _ _ _ := hr0.drew
    have hz : Blk _ _ _ _ := hz0.drew
    clear hal1 hal2 hz0 hsb
    refine wp_region_hoist [0, 1, 2] [3, 4, 5] [6, 7] (fun w' => Blk w' (w.heap.size + 1) 55 (zFTimeout).toArray ∧ w'.cell? ⟨0, 0, none⟩ = some (.iface 205 (.pointer (some sb)))) (by kernel_rfl) (by kernel_rfl) (by kernel_rfl) (by kernel_rfl) (by kernel_rfl) (by kernel_rfl) ⟨hz, hgb hb⟩ ?_
    (refine HoistK.load (by rfl) (by kernel_rfl) 55 _ rfl (w.heap.size + 1) 0 rfl zFTimeout _ (fun w' hw => hw.1.range) Tryd.underlying55 rfl size_faceTimeout ?_; simp only [Act.put, List.setIfInBounds_toArray, List.getElem_toArray, List.getElem_cons_zero, List.set_cons_succ, List.set_cons_zero])
    (refine HoistK.yes (by rfl) (by kernel_rfl) ⟨?_, fun w' hSw => ?_, ?_⟩; rotate_left; (· have hcc := hSw.2; go_simp; try with_reducible rfl); simp only [Act.put, List.setIfInBounds_toArray, List.getElem_toArray, List.getElem_cons_succ, List.getElem_cons_zero, List.set_cons_succ, List.set_cons_zero])
    (refine HoistK.yes (by rfl) (by kernel_rfl) ⟨?_, fun w' hSw => ?_, ?_⟩; rotate_left; (· go_simp; try with_reducible rfl); simp only [Act.put, List.setIfInBounds_toArray, List.getElem_toArray, List.getElem_cons_succ, List.getElem_cons_zero, List.set_cons_succ, List.set_cons_zero])
    refine HoistK.nil_ ?_
    simp only [opsAt, List.filterMap_cons, List.filterMap_nil, List.getElem?_toArray, List.getElem?_cons_succ, List.getElem?_cons_zero]
    refine Effects.world (F := fun W => Below w.heap.size w W ∧ Blk W w.heap.size 55 (zFTimeout).toArray ∧ Blk W (w.heap.size + 1) 55 (zFTimeout).toArray) (fun W hF => ?_) ⟨hb, hr, hz⟩
    clear hb hr hz hr0
    obtain ⟨hb, hr, hz⟩ := hF
    refine Effects.cons_ fun _ hQ => ?_
    have hzl := hz.lt
    go_wp2_with fail
    have hk := Blk.new W 137 #[.string ⟨#[97, 108, 108]⟩, .iface 205 (.pointer (some sb))]
    replace hb := hb.alloc hb.size (.cells #[.string ⟨#[97, 108, 108]⟩, .iface 205 (.pointer (some sb))] 137)
    replace hr := hr.alloc (.cells #[.string ⟨#[97, 108, 108]⟩, .iface 205 (.pointer (some sb))] 137)
    replace hz := hz.alloc (.cells #[.string ⟨#[97, 108, 108]⟩, .iface 205 (.pointer (some sb))] 137)
    obtain ⟨gg, hgg⟩ : ∃ gg, gg = W.heap.size := ⟨_, rfl⟩
    have hgn : gg ≠ w.heap.size := by omega
    rw [← hgg] at hk ⊢
    have HGG := Lib.hid hgg; clear hgg
    generalize W.alloc (.cells #[.string ⟨#[97, 108, 108]⟩, .iface 205 (.pointer (some sb))] 137) = W1 at *
    refine hQ _ _ ⟨hz, hgb hb⟩ (Effects.cons_ fun _ hQ => ?_)
    go_wp2_with fail
    refine hQ _ _ ⟨hz, hgb hb⟩ (Effects.cons_ fun _ hQ => ?_)
    go_wp2_with fail
    refine (told_any (r := true) _ (hp.below hb) ⟨gg, 1, _, rfl, .more hk .last, hgb hb⟩).mono ?_
    rintro e W2 ⟨rfl, hb2⟩
    replace hb := hb.trans (hb2.mono hb.size)
    replace hr := hr.below hb2 hr.lt
    replace hz := hz.below hb2 hz.lt
    replace hk := hk.below hb2 hk.lt
    go_wp2_with fail
    refine hQ _ _ ⟨hz, hgb hb⟩ (Effects.nil_ fun _ hQ => ?_)
    refine wpList_store_blk (cs0 := zFTimeout) (cs := zFTimeout) rfl 55 _ _ rfl hr rfl rfl rfl size_faceTimeout one_faceTimeout ?_
    intro W3 hr3 hc3
    go_wp2_with fail
    replace hb := hb.trans (hc3.below hb.size fun b h => Nat.le_of_eq h.symm)
    have hld := run_loadVar_mid (P := Tryd.prog) _ w.heap.size 0 55 zFTimeout _ hr3.range Tryd.underlying55 rfl size_faceTimeout
    exact bodyPost_ret (v := .tuple #[.agg (zFTimeout).toArray, .int .i64 4]) (by simp [results, Tryd.results75, asAddr, hld]) rfl ⟨hb, _, 4, rfl, len_faceTimeout, one_faceTimeout, .inl ⟨hbig, rfl⟩⟩
  · have hlen : bs.length ≤ 262144 := by omega
    have HR := Lib.hid (readTimeout_any _ (h.below hal2) hlen (hp.1.below hal2))
    have HA := Lib.hid hal2
    have HR0 := Lib.hid hr0
    have HZ0 := Lib.hid hz0
    clear h hal1 hal2 hr0 hz0
    go_enter Tryd.func75, Tryd.ntmps75
    go_wp2_with fail
    refine HR.out.mono ?_
    rintro e w2 hro
    obtain ⟨C, err, bd, rfl, h1, hl, hb2, he, ho⟩ := hro.agg (fun _ => rfl)
    have hl : C.length = 74 := hl
    have HL := Lib.hid hl
    have HI := Lib.hid (show (Tryd.prog.info? 55).map (·.size) = some C.length from by rw [hl]; rw [size_faceTimeout, len_faceTimeout])
    have H1 := Lib.hid h1
    have HK := Lib.hid (HR0.out.below hb2 HR0.out.lt)
    have HZ := Lib.hid (HZ0.out.below hb2 HZ0.out.lt)
    have hz2 : w.heap.size + 2 ≤ w2.heap.size := by have := hb2.size; simpa using this
    have HB2 := Lib.hid (HA.out.trans (hb2.mono HA.out.size))
    have HO := Lib.hid (show SOut tTimeout w2 (fun b => w.heap.size + 2 ≤ b) bs C false bd from ho.to (fun b _ hlt => ⟨hlt, rfl⟩) fun b hb _ => by simpa using hb)
    have he := he.to (w' := w2) (S' := fun b => w.heap.size + 2 ≤ b) (fun b _ hlt => ⟨hlt, rfl⟩) fun b hb _ => by simpa using hb
    clear hro h1 hl hb2 ho HR HA HR0 HZ0
    rcases he with ⟨rfl, rfl⟩ | ⟨rfl, hch⟩
    · go_wp2_with (first
        | (refine wpList_store_blk (cs0 := zFTimeout) (cs := C) rfl 55 _ _ rfl (Blk.new w2 _ _) rfl rfl (by rw [HL.out]; exact len_faceTimeout) HI.out H1.out ?_; intro w3 hb3 hc3; have HB3 := Lib.hid hb3
           have HC3 := Lib.hid (show Chg (fun _ => False) w2 w3 from ((Chg.refl _ w2).alloc _).trans hc3 fun b h => .inr (Nat.le_of_eq h.symm)); clear hb3 hc3
           have HK3 := Lib.hid (HK.out.chg HC3.out id))
        | (refine wpList_load_blk' rfl 55 _ rfl HB3.out rfl Tryd.underlying55 rfl HI.out ?_)
        | (refine wpList_store_blk (cs0 := zFTimeout) (cs := C) rfl 55 _ _ rfl HK3.out rfl rfl (by rw [HL.out]; exact len_faceTimeout) HI.out H1.out ?_; intro w9 hb9 hc9; have HB9 := Lib.hid hb9; have HC9 := Lib.hid hc9; clear hb9 hc9))
      have hld := run_loadVar_mid (P := Tryd.prog) w9 w.heap.size 0 55 C _ HB9.out.range Tryd.underlying55 rfl HI.out
      refine bodyPost_ret (v := .tuple #[.agg C.toArray, .int .i64 0]) (by simp [results, Tryd.results75, asAddr, hld]) rfl ?_
      obtain ⟨o1, o2, o3⟩ := HO.out
      have hc29 : Chg (fun b => b = w.heap.size) w2 w9 := (HC3.out.mono (M' := fun b => b = w.heap.size) fun _ h => h.elim).trans HC9.out fun b h => .inl h
      refine ⟨HB2.out.trans (hc29.below HB2.out.size fun b h => Nat.le_of_eq h.symm), C, 0, rfl, o1, o2, .inr ⟨hlen, .inl ?_⟩⟩
      rcases o3 with ⟨x, e1, _, e3⟩ | ⟨_, e2⟩
      · exact ⟨x, e1, rfl, Sh.rep_to (fun b hb hlt => ⟨Nat.lt_of_lt_of_le hlt hc29.size, hc29.block b hlt fun e => by omega⟩) (fun b hb _ => by omega) _ _ _ e3⟩
      · cases e2
    · obtain ⟨gw, rfl⟩ := hch.form
      have HCH := Lib.hid hch; clear hch
      have hno : Sh.dec tTimeout bs = none := by
        obtain ⟨_, _, o3⟩ := HO.out
        rcases o3 with ⟨x, _, e2, _⟩ | ⟨e1, _⟩
        · cases e2
        · exact e1
      have HNO := Lib.hid hno; clear hno
      go_wp2_with (refine wpList_store_blk (cs0 := zFTimeout) (cs := C) rfl 55 _ _ rfl (Blk.new w2 _ _) rfl rfl (by rw [HL.out]; exact len_faceTimeout) HI.out H1.out ?_; intro w3 hb3 hc3; have HC3 := Lib.hid (show Chg (fun _ => False) w2 w3 from ((Chg.refl _ w2).alloc _).trans hc3 fun b h => .inr (Nat.le_of_eq h.symm)); clear hb3 hc3)
      have hr : Blk _ _ _ _ := (HK.out.chg HC3.out id).drew
      have hz : Blk _ _ _ _ := (HZ.out.chg HC3.out id).drew
      have hb := (HB2.out.trans (HC3.out.below HB2.out.size fun b h => h.elim)).drew
      have hch3 := HCH.out.to (w' := w3.drew) (S' := fun b => w.heap.size + 2 ≤ b) (fun b hb hlt => ⟨Nat.lt_of_lt_of_le hlt HC3.out.size, HC3.out.block b hlt id⟩) fun b hb _ => hb
      have hz3 : w.heap.size + 2 ≤ w3.drew.heap.size := Nat.le_trans hz2 HC3.out.size
      refine wp_region_hoist [0, 1] [2] [3, 4] (fun w' => Blk w' (w.heap.size + 1) 55 (zFTimeout).toArray) (by kernel_rfl) (by kernel_rfl) (by kernel_rfl) (by kernel_rfl) (by kernel_rfl) (by kernel_rfl) hz ?_
      (refine HoistK.load (by rfl) (by kernel_rfl) 55 _ rfl (w.heap.size + 1) 0 rfl zFTimeout _ (fun w' hw => hw.range) Tryd.underlying55 rfl size_faceTimeout ?_; simp only [Act.put, List.setIfInBounds_toArray, List.getElem_toArray, List.getElem_cons_zero, List.set_cons_succ, List.set_cons_zero])
      (refine HoistK.yes (by rfl) (by kernel_rfl) ⟨?_, fun w' hSw => ?_, ?_⟩; rotate_left; (· go_simp; try with_reducible rfl); simp only [Act.put, List.setIfInBounds_toArray, List.getElem_toArray, List.getElem_cons_succ, List.getElem_cons_zero, List.set_cons_succ, List.set_cons_zero])
      refine HoistK.nil_ ?_
      simp only [opsAt, List.filterMap_cons, List.filterMap_nil, List.getElem?_toArray, List.getElem?_cons_succ, List.getElem?_cons_zero]
      refine Effects.world (F := fun W => Below w.heap.size w W ∧ Blk W w.heap.size 55 (zFTimeout).toArray ∧ Blk W (w.heap.size + 1) 55 (zFTimeout).toArray ∧ Chain W (fun b => w.heap.size + 2 ≤ b) sent (.iface 133 (.pointer (some ⟨gw, 0, none⟩)))) (fun W hF => ?_) ⟨hb, hr, hz, hch3⟩
      clear hb hr hz hch3 hz3
      obtain ⟨hb, hr, hz, hch⟩ := hF
      refine Effects.cons_ fun _ hQ => ?_
      go_wp2_with fail
      refine (told_any (r := false) _ (hp.below hb) (Wr.of_chain hch)).mono ?_
      rintro e W2 ⟨rfl, hb2⟩
      replace hb := hb.trans (hb2.mono hb.size)
      replace hr := hr.below hb2 hr.lt
      replace hz := hz.below hb2 hz.lt
      go_wp2_with fail
      refine hQ _ _ hz (Effects.nil_ fun _ hQ => ?_)
      refine wpList_store_blk (cs0 := zFTimeout) (cs := zFTimeout) rfl 55 _ _ rfl hr rfl rfl rfl size_faceTimeout one_faceTimeout ?_
      intro W3 hr3 hc3
      go_wp2_with fail
      replace hb := hb.trans (hc3.below hb.size fun b h => Nat.le_of_eq h.symm)
      have hld := run_loadVar_mid (P := Tryd.prog) _ w.heap.size 0 55 zFTimeout _ hr3.range Tryd.underlying55 rfl size_faceTimeout
      exact bodyPost_ret (v := .tuple #[.agg (zFTimeout).toArray, .int .i64 5]) (by simp [results, Tryd.results75, asAddr, hld]) rfl ⟨hb, _, 5, rfl, len_faceTimeout, one_faceTimeout, .inr ⟨hlen, .inr ⟨HNO.out, rfl⟩⟩⟩

set_option maxHeartbeats 4000000 in
set_option maxRecDepth 100000 in
theorem ReadTimeout_any (w : World) {S : Nat → Prop} {v sent : Value} {bs : List UInt8} (h : Bs w S v bs) (hp : Pk w sent) :
    Calls Tryd.prog 49 #[v] w (FaceOut tTimeout w bs) := by
  have hal1 := (Below.refl w.heap.size w).alloc (Nat.le_refl _) (.cells (zFTimeout).toArray 55)
  have HF := Lib.hid (faceTimeout_any _ (h.below hal1) (hp.below hal1))
  have HR := Lib.hid (Blk.new w 55 (zFTimeout).toArray)
  have HA := Lib.hid hal1
  obtain ⟨A, cap, rfl⟩ := h.form
  clear h hp hal1
  go_enter Tryd.func49, Tryd.ntmps49
  go_wp2_with fail
  refine HF.out.mono ?_
  rintro e w1 ⟨hb, C, n, rfl, hl, h1, hn⟩
  have hl : C.length = 74 := hl
  have HL := Lib.hid hl
  have HI := Lib.hid (show (Tryd.prog.info? 55).map (·.size) = some C.length from by rw [hl]; rw [size_faceTimeout, len_faceTimeout])
  have H1 := Lib.hid h1
  have hlz : (zFTimeout).length = C.length := by rw [hl, len_faceTimeout]
  have HLZ := Lib.hid hlz
  have HK := Lib.hid (HR.out.below hb (by simp))
  have HB := Lib.hid hb
  have HN := Lib.hid hn
  have hz1 : w.heap.size + 1 ≤ w1.heap.size := by have := hb.size; simpa using this
  clear hl h1 hlz hb hn HF HR
  go_wp2_with (refine wpList_store_blk (cs0 := zFTimeout) (cs := C) rfl 55 _ _ rfl HK.out rfl rfl HLZ.out HI.out H1.out ?_; intro w9 hb9 hc9; have HB9 := Lib.hid hb9; have HC9 := Lib.hid hc9; clear hb9 hc9)
  have hld := run_loadVar_mid (P := Tryd.prog) w9 w.heap.size 0 55 C _ HB9.out.range Tryd.underlying55 rfl HI.out
  refine bodyPost_ret (v := .tuple #[.agg C.toArray, .int .i64 n]) (by simp [results, Tryd.results49, asAddr, hld]) rfl ?_
  have hbw := HA.out.trans (HB.out.mono HA.out.size)
  refine ⟨hbw.trans (HC9.out.below hbw.size fun b h => Nat.le_of_eq h.symm), C, n, rfl, HL.out, H1.out, HN.out.imp id fun ⟨q1, q2⟩ => ⟨q1, q2.imp (fun ⟨x, e1, e2, e3⟩ => ⟨x, e1, e2, ?_⟩) id⟩⟩
  exact Sh.rep_to (fun b hb hlt => ⟨Nat.lt_of_lt_of_le hlt HC9.out.size, HC9.out.block b hlt fun e => by simp at hb; omega⟩) (fun b hb _ => by simp at hb; omega) _ _ _ e3

end Go.Proofs.YtjjgmkfkmckkoaaDoor

/- Codec's laws: timeout: written as the document says, read back as it was. Printed by genLaw.py. -/
namespace Go.Proofs.YtjjgmkfkmckkoaaDoor
open Go.RowKit Go.Maps
attribute [-simp] Tryd.isAgg23 Tryd.typeInfo23 Tryd.isAgg55 Tryd.typeInfo55

set_option maxHeartbeats 8000000 in
set_option maxRecDepth 100000 in
theorem lawTimeout_any (w : World) {S : Nat → Prop} {x : tTimeout.El} {cs : List Value} {sent : Value} (h : tTimeout.rep w S x cs) (h1 : ∀ v ∈ cs, v.oneCell' = true) (hS : ∀ b, S b → b < w.heap.size) (hl : (tTimeout.enc x).length ≤ 1099511627776) (hp : Pk w sent) :
    Calls Tryd.prog 16 #[.agg cs.toArray] w fun e w' => e = .returned (.bool true) ∧ Below w.heap.size w w' := by
  have hpos : 0 < (tTimeout.enc x).length := by
    show 0 < (joinB _).length
    rw [joinB_length]; omega
  have hsize := Sh.rep_size _ _ _ h
  have hwf := Sh.rep_wf _ _ _ h
  have hdec := Sh.dec_enc tTimeout x hwf (by omega)
  have HI := Lib.hid (show (Tryd.prog.info? 55).map (·.size) = some cs.length from by rw [hsize]; kernel_rfl)
  obtain ⟨bs, hbs⟩ : ∃ bs, bs = tTimeout.enc x := ⟨_, rfl⟩
  have hal1 := (Below.refl w.heap.size w).alloc (Nat.le_refl _) (.cells cs.toArray 55)
  have h0 := Sh.rep_below h hal1
  have hA := timeout_any _ h0 hl
  rw [← hbs] at hl hpos hdec hA
  have HA := Lib.hid hA
  have HX := Lib.hid (Blk.new w 55 cs.toArray)
  have HB1 := Lib.hid hal1
  have HR := Lib.hid h
  have HL := Lib.hid hl
  have HBS := Lib.hid hbs
  have HS := Lib.hid hS
  have HP := Lib.hid hp
  have HD := Lib.hid hdec
  have H1 := Lib.hid h1
  clear h hl hbs hsize hwf hdec hal1 h0 hA hS hp h1
  go_enter Tryd.func16, Tryd.ntmps16
  go_wp2_with (refine wpList_load_blk' rfl 55 _ rfl HX.out rfl Tryd.underlying55 rfl HI.out ?_)
  refine HA.out.mono ?_
  rintro e w2 ⟨v, rfl, f2⟩
  obtain ⟨A, cap, rfl⟩ := f2.1.form
  have hB2 := HB1.out.trans (f2.2.mono HB1.out.size)
  have HX2 := Lib.hid (HX.out.below f2.2 HX.out.lt)
  have HF2 := Lib.hid f2
  have HB2 := Lib.hid hB2
  clear hB2 f2 HA HX
  go_wp2_with fail
  -- REGION 2
  have hx := HX2.out.drew
  have hf := HF2.out.1.drew
  have hb := HB2.out.drew
  refine wp_region_segsV [([0, 1, 2], [3]), ([4, 5], [])] (by kernel_rfl) (by kernel_rfl) (by kernel_rfl) (by kernel_rfl) (SegV.mk (fun w' => Blk w' w.heap.size 55 cs.toArray ∧ Bs w' (fun b => w.heap.size + 1 ≤ b) (.slice A bs.length cap) bs) (fun _ _ => trivial) ⟨hx, hf.sub fun b hb _ => by simpa using hb.1⟩ ?_)
  (refine HoistK.yes (by rfl) (by kernel_rfl) ⟨?_, fun w' hSw => ?_, ?_⟩; rotate_left; (· go_simp; try with_reducible rfl); simp only [Act.put, List.setIfInBounds_toArray, List.getElem_toArray, List.getElem_cons_zero, List.set_cons_succ, List.set_cons_zero])
  (refine HoistK.yes (by rfl) (by kernel_rfl) ⟨?_, fun w' hSw => ?_, ?_⟩; rotate_left; (· have e1 := run_str hSw.2 Tryd.underlying28 Tryd.underlying5 Tryd.underlying9; go_simp; try with_reducible rfl); simp only [Act.put, List.setIfInBounds_toArray, List.getElem_toArray, List.getElem_cons_succ, List.getElem_cons_zero, List.set_cons_succ, List.set_cons_zero])
  (refine HoistK.load (by rfl) (by kernel_rfl) 55 _ rfl w.heap.size 0 rfl cs _ (fun w' hw => hw.1.range) Tryd.underlying55 rfl HI.out ?_; simp only [Act.put, List.setIfInBounds_toArray, List.getElem_toArray, List.getElem_cons_succ, List.getElem_cons_zero, List.set_cons_succ, List.set_cons_zero])
  refine HoistK.nil_ ?_
  simp only [opsAt, List.filterMap_cons, List.filterMap_nil, List.getElem?_toArray, List.getElem?_cons_succ, List.getElem?_cons_zero]
  refine EffS.cons_ fun _ hQ => ?_
  have hr := rTimeout_any _ (Sh.rep_below HR.out hb) (by rw [← HBS.out]; exact HL.out)
  rw [← HBS.out] at hr
  have HRR := Lib.hid hr
  clear hr hx hf hb
  go_wp2_with fail
  refine HRR.out.mono ?_
  rintro e w3 ⟨v3, rfl, f3⟩
  obtain ⟨A3, c3, rfl⟩ := f3.1.form
  have hx := HX2.out.drew.below f3.2 HX2.out.drew.lt
  have hf := HF2.out.1.drew.below f3.2
  have hb := HB2.out.drew.trans (f3.2.mono HB2.out.drew.size)
  have HX3 := Lib.hid hx
  have HF3 := Lib.hid hf
  have HB3 := Lib.hid hb
  have HS23 := Lib.hid (show Below w2.heap.size w2 w3 from ((Below.refl _ w2).drew).trans f3.2)
  have hf3 := f3.1
  clear f3 HRR HX2 HF2 HB2
  go_wp2_with fail
  refine hQ _ _ ⟨hx, hf.sub fun b hb _ => by simpa using hb.1⟩ (EffS.nil_ (SegV.mk (fun w' => (Blk w' w.heap.size 55 cs.toArray ∧ Bs w' (fun b => w.heap.size + 1 ≤ b) (.slice A bs.length cap) bs) ∧ Bs w' (fun b => w2.heap.size ≤ b) (.slice A3 bs.length c3) bs) (fun _ h => h.1) ⟨⟨hx, hf.sub fun b hb _ => by simpa using hb.1⟩, hf3.sub fun b hb _ => hb.1⟩ ?_))
  (refine HoistK.yes (by rfl) (by kernel_rfl) ⟨?_, fun w' hSw => ?_, ?_⟩; rotate_left; (· have e1 := run_str hSw.2 Tryd.underlying28 Tryd.underlying5 Tryd.underlying9; go_simp; try with_reducible rfl); simp only [Act.put, List.setIfInBounds_toArray, List.getElem_toArray, List.getElem_cons_succ, List.getElem_cons_zero, List.set_cons_succ, List.set_cons_zero])
  (refine HoistK.yes (by rfl) (by kernel_rfl) ⟨?_, fun w' hSw => ?_, ?_⟩; rotate_left; (· go_simp; try with_reducible rfl); simp only [Act.put, List.setIfInBounds_toArray, List.getElem_toArray, List.getElem_cons_succ, List.getElem_cons_zero, List.set_cons_succ, List.set_cons_zero])
  refine HoistK.nil_ ?_
  simp only [opsAt, List.filterMap_nil, List.getElem?_toArray]
  refine EffS.nil_ fun _ hQ => ?_
  go_wp2_with fail
  refine (ReadTimeout_any _ HF3.out (HP.out.below HB3.out)).mono ?_
  rintro e w4 ⟨hb4, C, n, rfl, hCl, hC1, hn⟩
  have hsz3 := HB3.out.size
  have HX4 := Lib.hid (HX3.out.below hb4 HX3.out.lt)
  have HF4 := Lib.hid (HF3.out.below hb4)
  have HB4 := Lib.hid (HB3.out.trans (hb4.mono HB3.out.size))
  have hs34 := hb4.size
  have HS34 := Lib.hid hb4
  have HCL := Lib.hid hCl
  have HC1 := Lib.hid hC1
  have HN := Lib.hid hn
  have HCI := Lib.hid (show (Tryd.prog.info? 55).map (·.size) = some C.length from by rw [hCl]; kernel_rfl)
  have HZL := Lib.hid (show zFTimeout.length = C.length from by rw [hCl]; rfl)
  clear hCl hC1 hn HF3 HX3 HB3 hb4
  by_cases hbig : 262144 < bs.length
  · obtain rfl : n = 4 := by
      rcases HN.out with ⟨_, h⟩ | ⟨h, _⟩
      · exact h
      · omega
    go_wp2_with (refine wpList_store_blk (cs0 := zFTimeout) (cs := C) rfl 55 _ _ rfl (Blk.new w4 _ _) rfl rfl HZL.out HCI.out HC1.out ?_; intro w5 hy5 hc5; have HY5 := Lib.hid hy5; have HC5 := Lib.hid (show Chg (fun _ => False) w4 w5 from ((Chg.refl _ w4).alloc _).trans hc5 fun b h => .inr (Nat.le_of_eq h.symm)); clear hy5 hc5)
    go_ret
    exact ⟨rfl, HB4.out.trans (HC5.out.below HB4.out.size fun b h => h.elim)⟩
  obtain ⟨hrep, rfl⟩ : tTimeout.rep w4 (fun b => w3.heap.size ≤ b) x C ∧ n = 0 := by
    rcases HN.out with ⟨h, _⟩ | ⟨_, ⟨y, h1, h2, h3⟩ | ⟨h1, _⟩⟩
    · omega
    · rw [HD.out] at h1
      injection h1 with h1
      subst h1
      exact ⟨h3, h2⟩
    · rw [HD.out] at h1; cases h1
  have HREP := Lib.hid hrep
  clear hrep HN
  go_wp2_with (refine wpList_store_blk (cs0 := zFTimeout) (cs := C) rfl 55 _ _ rfl (Blk.new w4 _ _) rfl rfl HZL.out HCI.out HC1.out ?_; intro w5 hy5 hc5; have HY5 := Lib.hid hy5; have HC5 := Lib.hid (show Chg (fun _ => False) w4 w5 from ((Chg.refl _ w4).alloc _).trans hc5 fun b h => .inr (Nat.le_of_eq h.symm)); clear hy5 hc5)
  have HF5 := Lib.hid (HF4.out.chg HC5.out fun _ _ h => h)
  obtain ⟨B, off, rfl, hBw, hBlt, cB, tB, hbB, hcell⟩ : ∃ B off, A = some ⟨B, off, none⟩ ∧ w.heap.size + 1 ≤ B ∧ B < w3.heap.size ∧ ∃ cB tB, Blk w5 B tB cB ∧ ∀ j, j < bs.length → ∃ y : Nat, y < 256 ∧ cB[off + j]? = some (.int .u8 y) := by
    obtain ⟨⟨hn, A', c', e, _, _, hp⟩, _⟩ := HF5.out
    injection e with e
    subst e
    obtain ⟨B, off, rfl, ⟨hw1, cs', t', hth⟩, hlt, hc⟩ := hp hpos
    have hB2 : B < w2.heap.size := (Array.getElem?_eq_some_iff.1 hth).1
    have hB3 := Nat.lt_of_lt_of_le hB2 HS23.out.size
    have h5 : Blk w5 B t' cs' := by
      show w5.heap[B]? = _
      rw [HC5.out.block B (Nat.lt_of_lt_of_le hB3 hs34) id, HS34.out.block B hB3, HS23.out.block B hB2]
      exact hth
    refine ⟨B, off, rfl, by simpa using hw1, hB3, cs', t', h5, fun j hj => ⟨bs[j].toNat, UInt8.toNat_lt _, ?_⟩⟩
    rw [← h5.cell, hc j _ (u8s_get bs j hj)]
  go_loopw [27] (fun i wr => ∃ k : Nat, k ≤ bs.length ∧ i = .int .i64 k ∧ (∃ c, Hid (Blk wr B tB c ∧ ∀ j, j < bs.length → ∃ y : Nat, y < 256 ∧ c[off + j]? = some (.int .u8 y))) ∧ Chg (fun b => b = B) w5 wr) (fun i _ => bs.length - (intOf i).toNat)
  case atStart => exact ⟨0, Nat.zero_le _, rfl, ⟨cB, Lib.hid ⟨hbB, hcell⟩⟩, Chg.refl _ _⟩
  case round =>
    obtain ⟨k, hk, rfl, ⟨c, hC⟩, hch⟩ := hrel
    by_cases hlt : k < bs.length
    · obtain ⟨y, hy, hc⟩ := hC.out.2 k hlt
      have hcc : wr.cell? ⟨B, off + k, none⟩ = some (.int .u8 y) := by rw [hC.out.1.cell]; exact hc
      have hz := hC.out.1.frozen (off + k)
      go_wp2
      refine ⟨⟨k + 1, by omega, by push_cast; rfl, ⟨c.setIfInBounds (off + k) _, Lib.hid ⟨hC.out.1.set_ _ _, fun j hj => ?_⟩⟩, hch.setIn _ _⟩, by simp only [intOf]; omega⟩
      by_cases e : j = k
      · subst e
        refine ⟨y ^^^ 85, Nat.xor_lt_two_pow (n := 8) (by omega) (by omega), ?_⟩
        rw [Array.getElem?_setIfInBounds_self_of_lt (Array.getElem?_eq_some_iff.1 hc).1]
        have := u8_xor_nat y 85 hy (by omega)
        exact congrArg (fun z => some (Value.int .u8 z)) this
      · obtain ⟨y', h1, h2⟩ := hC.out.2 j hj
        exact ⟨y', h1, by rw [Array.getElem?_setIfInBounds_ne (by omega)]; exact h2⟩
    · have hx := ((HX4.out.chg HC5.out id).chg hch fun e => by have e : w.heap.size = B := e; omega).drew
      have hy := (HY5.out.chg hch fun e => by have e : w4.heap.size = B := e; omega).drew
      have hb5 := HB4.out.trans (HC5.out.below HB4.out.size fun b h => h.elim)
      have hbr := (hb5.trans (hch.below hb5.size fun b h => by have h : b = B := h; omega)).drew
      have hrx := Sh.rep_below HR.out hbr
      have hry : tTimeout.rep wr.drew (fun b => w3.heap.size ≤ b) x C := Sh.rep_chg (Sh.rep_chg HREP.out HC5.out fun _ _ h => h) hch.drew fun b h1 h2 => by have h2 : b = B := h2; omega
      have HRX := Lib.hid hrx
      have HRY := Lib.hid hry
      have HBR := Lib.hid hbr
      have hl : (tTimeout.enc x).length ≤ 1099511627776 := by rw [← HBS.out]; exact HL.out
      clear hC hbB hcell
      go_wp2_with fail
      refine wp_region_segsV [([0, 1, 2, 3, 6], [4]), ([5], [7]), ([8, 9, 10], [11])] (by kernel_rfl) (by kernel_rfl) (by kernel_rfl) (by kernel_rfl) (SegV.mk (fun w' => Blk w' w.heap.size 55 cs.toArray ∧ Blk w' w4.heap.size 55 C.toArray) (fun _ _ => trivial) ⟨hx, hy⟩ ?_)
      (refine HoistK.yes (by rfl) (by kernel_rfl) ⟨?_, fun w' hSw => ?_, ?_⟩; rotate_left; (· go_simp; try with_reducible rfl); simp only [Act.put, List.setIfInBounds_toArray, List.getElem_toArray, List.getElem_cons_zero, List.set_cons_succ, List.set_cons_zero])
      (refine HoistK.yes (by rfl) (by kernel_rfl) ⟨?_, fun w' hSw => ?_, ?_⟩; rotate_left; (· go_simp; try with_reducible rfl); simp only [Act.put, List.setIfInBounds_toArray, List.getElem_toArray, List.getElem_cons_succ, List.getElem_cons_zero, List.set_cons_succ, List.set_cons_zero])
      (refine HoistK.yes (by rfl) (by kernel_rfl) ⟨?_, fun w' hSw => ?_, ?_⟩; rotate_left; (· go_simp; try with_reducible rfl); simp only [Act.put, List.setIfInBounds_toArray, List.getElem_toArray, List.getElem_cons_succ, List.getElem_cons_zero, List.set_cons_succ, List.set_cons_zero])
      (refine HoistK.load (by rfl) (by kernel_rfl) 55 _ rfl w4.heap.size 0 rfl C _ (fun w' hw => hw.2.range) Tryd.underlying55 rfl HCI.out ?_; simp only [Act.put, List.setIfInBounds_toArray, List.getElem_toArray, List.getElem_cons_succ, List.getElem_cons_zero, List.set_cons_succ, List.set_cons_zero])
      (refine HoistK.load (by rfl) (by kernel_rfl) 55 _ rfl w.heap.size 0 rfl cs _ (fun w' hw => hw.1.range) Tryd.underlying55 rfl HI.out ?_; simp only [Act.put, List.setIfInBounds_toArray, List.getElem_toArray, List.getElem_cons_succ, List.getElem_cons_zero, List.set_cons_succ, List.set_cons_zero])
      refine HoistK.nil_ ?_
      simp only [opsAt, List.filterMap_cons, List.filterMap_nil, List.getElem?_toArray, List.getElem?_cons_succ, List.getElem?_cons_zero]
      refine EffS.cons_ fun _ hQ => ?_
      have HC1' := Lib.hid (rTimeout_any _ HRY.out hl)
      go_wp2_with fail
      refine HC1'.out.mono ?_
      rintro e w6 ⟨v6, rfl, f6⟩
      rw [← HBS.out] at f6
      obtain ⟨A6, c6, rfl⟩ := f6.1.form
      have hx6 := hx.below f6.2 hx.lt
      have hy6 := hy.below f6.2 hy.lt
      have HB6 := Lib.hid (HBR.out.trans (f6.2.mono HBR.out.size))
      have hf6 := f6.1
      clear f6 HC1'
      go_wp2_with fail
      refine hQ _ _ ⟨hx6, hy6⟩ (EffS.nil_ (SegV.mk (fun w' => (Blk w' w.heap.size 55 cs.toArray ∧ Blk w' w4.heap.size 55 C.toArray) ∧ Bs w' (fun b => wr.heap.size ≤ b) (.slice A6 bs.length c6) bs) (fun _ h => h.1) ⟨⟨hx6, hy6⟩, hf6.sub fun b hb _ => hb.1⟩ ?_))
      (refine HoistK.yes (by rfl) (by kernel_rfl) ⟨?_, fun w' hSw => ?_, ?_⟩; rotate_left; (· have e1 := run_str hSw.2 Tryd.underlying28 Tryd.underlying5 Tryd.underlying9; go_simp; try with_reducible rfl); simp only [Act.put, List.setIfInBounds_toArray, List.getElem_toArray, List.getElem_cons_succ, List.getElem_cons_zero, List.set_cons_succ, List.set_cons_zero])
      refine HoistK.nil_ ?_
      simp only [opsAt, List.filterMap_cons, List.filterMap_nil, List.getElem?_toArray, List.getElem?_cons_succ, List.getElem?_cons_zero]
      refine EffS.cons_ fun _ hQ => ?_
      have HC2' := Lib.hid (rTimeout_any _ (Sh.rep_below HR.out HB6.out) hl)
      go_wp2_with fail
      refine HC2'.out.mono ?_
      rintro e w7 ⟨v7, rfl, f7⟩
      rw [← HBS.out] at f7
      obtain ⟨A7, c7, rfl⟩ := f7.1.form
      have hx7 := hx6.below f7.2 hx6.lt
      have hy7 := hy6.below f7.2 hy6.lt
      have HB7 := Lib.hid (HB6.out.trans (f7.2.mono HB6.out.size))
      have hf67 := hf6.below f7.2
      have hf7 := f7.1
      clear f7 HC2'
      go_wp2_with fail
      refine hQ _ _ ⟨⟨hx7, hy7⟩, hf67.sub fun b hb _ => hb.1⟩ (EffS.nil_ (SegV.mk (fun w' => ((Blk w' w.heap.size 55 cs.toArray ∧ Blk w' w4.heap.size 55 C.toArray) ∧ Bs w' (fun b => wr.heap.size ≤ b) (.slice A6 bs.length c6) bs) ∧ Bs w' (fun b => w6.heap.size ≤ b) (.slice A7 bs.length c7) bs) (fun _ h => h.1) ⟨⟨⟨hx7, hy7⟩, hf67.sub fun b hb _ => hb.1⟩, hf7.sub fun b hb _ => hb.1⟩ ?_))
      (refine HoistK.yes (by rfl) (by kernel_rfl) ⟨?_, fun w' hSw => ?_, ?_⟩; rotate_left; (· have e1 := run_str hSw.2 Tryd.underlying28 Tryd.underlying5 Tryd.underlying9; go_simp; try with_reducible rfl); simp only [Act.put, List.setIfInBounds_toArray, List.getElem_toArray, List.getElem_cons_succ, List.getElem_cons_zero, List.set_cons_succ, List.set_cons_zero])
      (refine HoistK.yes (by rfl) (by kernel_rfl) ⟨?_, fun w' hSw => ?_, ?_⟩; rotate_left; (· go_simp; try with_reducible rfl); simp only [Act.put, List.setIfInBounds_toArray, List.getElem_toArray, List.getElem_cons_succ, List.getElem_cons_zero, List.set_cons_succ, List.set_cons_zero])
      (refine HoistK.yes (by rfl) (by kernel_rfl) ⟨?_, fun w' hSw => ?_, ?_⟩; rotate_left; (· go_simp; try with_reducible rfl); simp only [Act.put, List.setIfInBounds_toArray, List.getElem_toArray, List.getElem_cons_succ, List.getElem_cons_zero, List.set_cons_succ, List.set_cons_zero])
      refine HoistK.nil_ ?_
      simp only [opsAt, List.filterMap_cons, List.filterMap_nil, List.getElem?_toArray, List.getElem?_cons_succ, List.getElem?_cons_zero]
      refine EffS.cons_ fun _ hQ => ?_
      go_wp2_with fail
      refine hQ _ _ ⟨⟨⟨hx7, hy7⟩, hf67.sub fun b hb _ => hb.1⟩, hf7.sub fun b hb _ => hb.1⟩ (EffS.nil_ fun _ hQ => ?_)
      go_wp2_with fail
      go_ret
      exact ⟨rfl, HB7.out⟩
end Go.Proofs.YtjjgmkfkmckkoaaDoor
