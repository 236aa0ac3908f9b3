/- Texts joined: CfS CfU CgM CsF CrJ CsG. -/
import Derived.Test.YtjjgmkfkmckkoaaDoorMh
import Derived.Test.YtjjgmkfkmckkoaaDoorMb
import Derived.Test.YtjjgmkfkmckkoaaDoorMc
import Derived.Test.YtjjgmkfkmckkoaaDoorMg
import Derived.Laws.BitsAllLaws
import Derived.Test.YtjjgmkfkmckkoaaDoorMa
/- Codec: one[Commit]. -/
namespace Go.Proofs.YtjjgmkfkmckkoaaDoor
open Go.RowKit Go.Maps
attribute [-simp] Tryd.isAgg23 Tryd.typeInfo23 Tryd.isAgg46 Tryd.typeInfo46

theorem size_oneCommit_any : (Tryd.prog.info? 46).map (·.size) = some 38 := by kernel_rfl
set_option maxHeartbeats 4000000 in
set_option maxRecDepth 100000 in
theorem oneCommit_any (w : World) {X : Nat → Prop} {E g : Nat} {sent : Value} {x : List UInt8} {rows : List (List UInt8)} {bad : Bool} (h : Pt w X E g sent (x :: rows) bad) (hxl : x.length ≤ 262144) :
    Calls Tryd.prog 95 #[.pointer (some ⟨g, 0, none⟩), .func (Fn.func 72) #[] #[]] w (Took tCommit w X E g sent x rows bad) := by
  have hgx := h.2.2.1
  have hgw := h.lt
  have hEw := h.2.2.2.2.1
  have hp0 := h.more ((Below.refl w.heap.size w).alloc (Nat.le_refl _) (.cells (([.slice none 0 0] ++ ([.int .i64 0, .int .i64 0, .int .i64 0] ++ List.replicate 32 (.int .u8 0) ++ [.slice none 0 0, .slice none 0 0]) : List Value)).toArray 46)) (fun b => b = w.heap.size) (fun b hb => ⟨Nat.le_of_eq hb.symm, by rw [hb]; simp⟩)
  have H := Lib.hid (next_any _ hp0)
  have HN := Lib.hid (Blk.new w 46 (([.slice none 0 0] ++ ([.int .i64 0, .int .i64 0, .int .i64 0] ++ List.replicate 32 (.int .u8 0) ++ [.slice none 0 0, .slice none 0 0]) : List Value)).toArray)
  have HGX := Lib.hid hgx
  have HX1 := Lib.hid (show ∀ b, X b → b < w.heap.size from h.2.2.2.1)
  clear h hp0 hgx
  go_enter Tryd.func95, Tryd.ntmps95
  go_wp2_with fail
  refine H.out.mono ?_
  rintro e w1 ⟨v1, rfl, hb1, hc1, hp1⟩
  have HK := Lib.hid (HN.out.chg hc1 (fun h => by omega))
  have hz1 : w.heap.size + 1 ≤ w1.heap.size := by simpa using hc1.size
  have HR := Lib.hid (readCommit_any w1 hb1 hxl hp1.1)
  have HC1 := Lib.hid (show Chg (fun k => k = g) w w1 from ((Chg.refl (fun k => k = g) w).alloc _).trans hc1 fun b h => .inl h)
  have HP1 := Lib.hid hp1
  obtain ⟨A1, c1, rfl⟩ := hb1.form
  clear hb1 hp1 hc1 H HN hxl
  go_wp2_with fail
  refine HR.out.mono ?_
  rintro e w2 hro
  obtain ⟨C, err, bd, rfl, h1, hl, hb2, he, ho⟩ := hro.agg (fun _ => rfl)
  have hl : C.length = 38 := hl
  have hz2 := Nat.le_trans hz1 hb2.size
  have HI := Lib.hid (show (Tryd.prog.info? 46).map (·.size) = some C.length from by rw [hl]; exact size_oneCommit_any)
  have H1 := Lib.hid h1
  have HL := Lib.hid hl
  have HP2 := Lib.hid (HP1.out.below hb2)
  have HK2 := Lib.hid (HK.out.below hb2 HK.out.lt)
  have HC2 := Lib.hid (HC1.out.trans (Chg.of_below hb2 fun k => k = g) fun b h => .inl h)
  have HO := Lib.hid (ho.or_ bad)
  clear hro h1 hl hb2 ho HR HP1 HK HC1
  rcases he with ⟨rfl, rfl⟩ | ⟨rfl, hch⟩
  · go_wp2_with (first
      | (refine wpList_store_blk (cs0 := ([.slice none 0 0] ++ ([.int .i64 0, .int .i64 0, .int .i64 0] ++ List.replicate 32 (.int .u8 0) ++ [.slice none 0 0, .slice none 0 0]) : List Value)) (cs := C) rfl 46 _ _ rfl (Blk.new w2 _ _) rfl rfl (by rw [HL.out]; rfl) HI.out H1.out ?_; intro w3 hb3 hc3; have HB3 := Lib.hid hb3
         have HC3 := Lib.hid (show Chg (fun _ => False) w2 w3 from ((Chg.refl _ w2).alloc _).trans hc3 fun b h => .inr (Nat.le_of_eq h.symm)); clear hb3 hc3
         have HK3 := Lib.hid (HK2.out.chg HC3.out id))
      | (refine wpList_load_blk' rfl 46 _ rfl HB3.out rfl Tryd.underlying46 rfl HI.out ?_)
      | (refine wpList_store_blk (cs0 := ([.slice none 0 0] ++ ([.int .i64 0, .int .i64 0, .int .i64 0] ++ List.replicate 32 (.int .u8 0) ++ [.slice none 0 0, .slice none 0 0]) : List Value)) (cs := C) rfl 46 _ _ rfl HK3.out rfl rfl (by rw [HL.out]; rfl) HI.out H1.out ?_; intro w9 hb9 hc9; have HB9 := Lib.hid hb9; have HC9 := Lib.hid hc9; clear hb9 hc9))
    have hld := run_loadVar_mid (P := Tryd.prog) w9 w.heap.size 0 46 C _ HB9.out.range Tryd.underlying46 rfl HI.out
    refine bodyPost_ret (v := .agg C.toArray) (by simp [results, Tryd.results95, asAddr, hld, Act.put]) rfl ?_
    have hp9 := (HP2.out.chg HC3.out fun b h => h.elim).chg HC9.out fun b h => ⟨.inr h, fun e => by omega⟩
    have ho9 := HO.out.to (w' := w9) (S' := fun b => w.heap.size ≤ b) (fun b hb hlt => ⟨Nat.lt_of_lt_of_le hlt (Nat.le_trans HC3.out.size HC9.out.size), (HC9.out.block b (Nat.lt_of_lt_of_le hlt HC3.out.size) (fun e => by omega)).trans (HC3.out.block b hlt id)⟩) fun b hb _ => by omega
    rw [Bool.or_false] at ho9
    exact ⟨C, bad, rfl, (HC2.out.trans (HC3.out.mono (M' := fun k => k = g) fun _ h => h.elim) fun b h => .inl h).trans HC9.out fun b h => .inr (Nat.le_of_eq h.symm), hp9.less (fun b h => .inl h) HGX.out, ho9⟩
  · obtain ⟨gw, rfl⟩ := hch.form
    have HCH := Lib.hid hch; clear hch
    go_wp2_with (first
      | (refine wpList_store_blk (cs0 := ([.slice none 0 0] ++ ([.int .i64 0, .int .i64 0, .int .i64 0] ++ List.replicate 32 (.int .u8 0) ++ [.slice none 0 0, .slice none 0 0]) : List Value)) (cs := C) rfl 46 _ _ rfl (Blk.new w2 _ _) rfl rfl (by rw [HL.out]; rfl) HI.out H1.out ?_; intro w3 hb3 hc3; have HB3 := Lib.hid hb3
         have HC3 := Lib.hid (show Chg (fun _ => False) w2 w3 from ((Chg.refl _ w2).alloc _).trans hc3 fun b h => .inr (Nat.le_of_eq h.symm)); clear hb3 hc3
         have HK3 := Lib.hid (HK2.out.chg HC3.out id)))
    have hp3 := (HP2.out.chg HC3.out fun b h => h.elim)
    have hlx := hp3.2.2.2.1
    have hz3 := Nat.le_trans hz2 HC3.out.size
    have hal := (Below.refl w3.heap.size w3).alloc (Nat.le_refl _) (.cells #[.string ⟨#[119, 105, 116, 104, 105, 110]⟩, .iface 133 (.pointer (some ⟨gw, 0, none⟩))] 137)
    have hch3 := (HCH.out.to (w' := w3) (S' := fun b => ¬ (X b ∨ b = w.heap.size) ∧ E ≤ b) (fun b hb hlt => ⟨Nat.lt_of_lt_of_le hlt HC3.out.size, HC3.out.block b hlt id⟩) fun b hb hlt => ⟨fun h => h.elim (fun h => by have := HP2.out.2.2.2.1 b (.inl h); have := HX1.out b h; omega) fun h => by omega, by omega⟩)
    have HBAD := Lib.hid (bad_any _ (hp3.below hal) (hch3.freshMore _ ⟨fun h => absurd (hlx _ h) (Nat.lt_irrefl _), by omega⟩))
    clear hp3 hlx hal hch3
    refine HBAD.out.mono ?_
    rintro e w4 ⟨rfl, hc4, hp4⟩
    have HC4 := Lib.hid hc4
    have HP4 := Lib.hid hp4
    have hgg : ¬ w.heap.size = g := by omega
    have HK4 := Lib.hid ((HK3.out.alloc _).chg hc4 (fun h => hgg h))
    have HB4 := Lib.hid ((HB3.out.alloc _).chg hc4 (fun h => by omega))
    clear hc4 hp4 HBAD
    go_wp2_with (first
      | (refine wpList_load_blk' rfl 46 _ rfl HB4.out rfl Tryd.underlying46 rfl HI.out ?_)
      | (refine wpList_store_blk (cs0 := ([.slice none 0 0] ++ ([.int .i64 0, .int .i64 0, .int .i64 0] ++ List.replicate 32 (.int .u8 0) ++ [.slice none 0 0, .slice none 0 0]) : List Value)) (cs := C) rfl 46 _ _ rfl HK4.out rfl rfl (by rw [HL.out]; rfl) HI.out H1.out ?_; intro w9 hb9 hc9; have HB9 := Lib.hid hb9; have HC9 := Lib.hid hc9; clear hb9 hc9))
    have hld := run_loadVar_mid (P := Tryd.prog) w9 w.heap.size 0 46 C _ HB9.out.range Tryd.underlying46 rfl HI.out
    refine bodyPost_ret (v := .agg C.toArray) (by simp [results, Tryd.results95, asAddr, hld, Act.put]) rfl ?_
    have hc34 : Chg (fun k => k = g) w2 w4 := ((HC3.out.mono (M' := fun k => k = g) fun _ h => h.elim).alloc _).trans HC4.out fun b h => .inl h
    have hp9 := HP4.out.chg HC9.out fun b h => ⟨.inr h, fun e => by omega⟩
    have ho9 := HO.out.to (w' := w9) (S' := fun b => w.heap.size ≤ b) (fun b hb hlt => ⟨Nat.lt_of_lt_of_le hlt (Nat.le_trans hc34.size HC9.out.size), (HC9.out.block b (Nat.lt_of_lt_of_le hlt hc34.size) (fun e => by omega)).trans (hc34.block b hlt (fun e => by omega))⟩) fun b hb _ => by omega
    rw [Bool.or_true] at ho9
    exact ⟨C, true, rfl, (HC2.out.trans hc34 fun b h => .inl h).trans HC9.out fun b h => .inr (Nat.le_of_eq h.symm), hp9.less (fun b h => .inl h) HGX.out, ho9⟩

end Go.Proofs.YtjjgmkfkmckkoaaDoor

/- Codec: a fact read. -/
namespace Go.Proofs.YtjjgmkfkmckkoaaDoor
open Go.RowKit Go.Maps
attribute [-simp] Tryd.isAgg23 Tryd.typeInfo23 Tryd.isAgg60 Tryd.typeInfo60

theorem info_readFact : (Tryd.prog.info? 60).map (fun i => (i.zero.map (fun z => z.cells.size))) = some (some 73) := by kernel_rfl
theorem size_readFact : (Tryd.prog.info? 60).map (·.size) = some 73 := by kernel_rfl
theorem places_readFact : ((match Tryd.prog.underlying 60 with | some (.struct fields) => fields.toList.mapM (fun f => (Tryd.prog.info? f.type).map fun i => (f.offset, i.size)) | _ => none)) = some [(0, 38), (38, 32), (70, 1), (71, 1), (72, 1)] := by kernel_rfl
set_option maxHeartbeats 4000000 in
set_option maxRecDepth 100000 in
theorem readFact_any (w : World) {S : Nat → Prop} {v sent : Value} {bs : List UInt8} (h : Bs w S v bs) (hlen : bs.length ≤ 262144) (hg : Gl w sent) :
    Calls Tryd.prog 79 #[v] w (ReadOut (.tup (.cons tCommit (.cons .dig (.cons .byt (.cons .bool (.cons .byt .nil)))))) w sent bs) := by
  have hal := (Below.refl w.heap.size w).alloc (Nat.le_refl _) (.cells (([.slice none 0 0] ++ ([.int .i64 0, .int .i64 0, .int .i64 0] ++ List.replicate 32 (.int .u8 0) ++ [.slice none 0 0, .slice none 0 0]) ++ List.replicate 32 (.int .u8 0) ++ [.slice none 0 0, .bool false, .slice none 0 0] : List Value)).toArray 60)
  have HS := Lib.hid (psplit_any _ (h.below hal) (by omega) (hg.below hal) 5 (by omega) ⟨#[97, 32, 102, 97, 99, 116]⟩)
  have HN := Lib.hid (Blk.new w 60 (([.slice none 0 0] ++ ([.int .i64 0, .int .i64 0, .int .i64 0] ++ List.replicate 32 (.int .u8 0) ++ [.slice none 0 0, .slice none 0 0]) ++ List.replicate 32 (.int .u8 0) ++ [.slice none 0 0, .bool false, .slice none 0 0] : List Value)).toArray)
  have HAL := Lib.hid hal
  obtain ⟨A, cap, rfl⟩ := h.form
  clear h hg hal
  go_enter Tryd.func79, Tryd.ntmps79
  go_wp2_with fail
  refine HS.out.mono ?_
  rintro e w1 ⟨g, rows, bad, rfl, hgw, hb1, hp, hn, hrl, hs⟩
  obtain ⟨r0, r1, r2, r3, r4, rfl⟩ : ∃ r0 r1 r2 r3 r4, rows = [r0, r1, r2, r3, r4] := by
    match rows, hn with
    | [r0, r1, r2, r3, r4], _ => exact ⟨r0, r1, r2, r3, r4, rfl⟩
  have HK := Lib.hid (HN.out.below hb1 (by simp))
  have hgw' : w.heap.size + 1 ≤ g := by simpa using hgw
  have hz1 : w.heap.size + 1 ≤ w1.heap.size := by simpa using hb1.size
  have HB1 := Lib.hid (HAL.out.trans (hb1.mono (by simp)))
  have HSS := Lib.hid hs
  have HRL := Lib.hid (show ∀ x ∈ [r0, r1, r2, r3, r4], x.length ≤ 262144 from fun x hx => Nat.le_trans (hrl x hx) hlen)
  have hE : Pt w1 (fun b => b = g) (w.heap.size + 1) g sent [r0, r1, r2, r3, r4] bad := by simpa using hp
  clear HS HN HAL hgw hb1 hs hn hp hrl hlen
  have hp0 := hE
  clear hE
  go_wp2_with fail
  refine (oneCommit_any _ hp0 (HRL.out _ (by simp))).mono ?_
  rintro e w2 ht
  obtain ⟨c0, b0, rfl, h10, hl0, hc0, hp1, ho0⟩ := ht.agg (fun _ => rfl)
  have hl0 : c0.length = 38 := hl0
  have hgl0 := hp0.lt
  have hz2 := Nat.le_trans hz1 hc0.size
  have HO0 := Lib.hid ho0
  have HC0 := Lib.hid hc0
  have H10 := Lib.hid h10
  have HL0 := Lib.hid hl0
  clear hl0
  clear ht ho0 hc0 h10 hp0
  go_wp2_with fail
  refine (pdigest_any _ hp1).mono ?_
  rintro e w3 ht
  obtain ⟨c1, b1, rfl, h11, hl1, hc1, hp2, ho1⟩ := ht.agg (fun _ => rfl)
  have hl1 : c1.length = 32 := hl1
  have hgl1 := hp1.lt
  have hz3 := Nat.le_trans hz2 hc1.size
  have HO1 := Lib.hid ho1
  have HC1 := Lib.hid hc1
  have H11 := Lib.hid h11
  have HL1 := Lib.hid hl1
  clear hl1
  clear ht ho1 hc1 h11 hp1
  go_wp2_with fail
  refine (pbytes_any _ hp2).mono ?_
  rintro e w4 ht
  obtain ⟨y2, b2, rfl, h12, hc2, hp3, ho2⟩ := ht.one (fun _ => rfl) rfl
  have hgl2 := hp2.lt
  have hz4 := Nat.le_trans hz3 hc2.size
  have HO2 := Lib.hid ho2
  have HC2 := Lib.hid hc2
  have H12 := Lib.hid h12
  clear ht ho2 hc2 h12 hp2
  go_wp2_with fail
  refine (ptruth_any _ hp3).mono ?_
  rintro e w5 ht
  obtain ⟨y3, b3, rfl, h13, hc3, hp4, ho3⟩ := ht.one (fun _ => rfl) rfl
  have hgl3 := hp3.lt
  have hz5 := Nat.le_trans hz4 hc3.size
  have HO3 := Lib.hid ho3
  have HC3 := Lib.hid hc3
  have H13 := Lib.hid h13
  clear ht ho3 hc3 h13 hp3
  go_wp2_with fail
  refine (pbytes_any _ hp4).mono ?_
  rintro e w6 ht
  obtain ⟨y4, b4, rfl, h14, hc4, hp5, ho4⟩ := ht.one (fun _ => rfl) rfl
  have hgl4 := hp4.lt
  have hz6 := Nat.le_trans hz5 hc4.size
  have HO4 := Lib.hid ho4
  have HC4 := Lib.hid hc4
  have H14 := Lib.hid h14
  clear ht ho4 hc4 h14 hp4
  have hbu := run_struct (P := Tryd.prog) (vs := [.agg c0.toArray, .agg c1.toArray, y2, y3, y4]) (cs := [c0, c1, [y2], [y3], [y4]]) info_readFact places_readFact ⟨rfl, rfl, cells_one H12.out, cells_one H13.out, cells_one H14.out, trivial⟩ (by simp [PlaceOk, HL0.out, HL1.out]) (by simp [HL0.out, HL1.out]) #[(0, .agg c0.toArray), (1, .agg c1.toArray), (2, y2), (3, y3), (4, y4)] rfl
  have hone : ∀ v ∈ [c0, c1, [y2], [y3], [y4]].flatten, v.oneCell' = true := by
    intro v hv
    simp only [List.flatten_cons, List.flatten_nil, List.mem_append, List.mem_singleton, List.not_mem_nil, or_false] at hv
    rcases hv with hv | hv | rfl | rfl | rfl
    · exact H10.out v hv
    · exact H11.out v hv
    · exact H12.out
    · exact H13.out
    · exact H14.out
  have HOUT := Lib.hid (show Fs.Out (.cons tCommit (.cons .dig (.cons .byt (.cons .bool (.cons .byt .nil))))) w6 (fun b => w.heap.size + 1 ≤ b) [r0, r1, r2, r3, r4] [c0, c1, [y2], [y3], [y4]].flatten bad b4 from by
    have := Fs.Out.step HO0.out (Fs.Out.step HO1.out (Fs.Out.step HO2.out (Fs.Out.step HO3.out (Fs.Out.step HO4.out (Fs.Out.nil_ w6 _ _) (Chg.refl _ _) hgl4 hz5) HC4.out hgl3 hz4) (HC3.out.trans HC4.out fun b h => .inl h) hgl2 hz3) ((HC2.out.trans HC3.out fun b h => .inl h).trans HC4.out fun b h => .inl h) hgl1 hz2) (((HC1.out.trans HC2.out fun b h => .inl h).trans HC3.out fun b h => .inl h).trans HC4.out fun b h => .inl h) hgl0 hz1
    simpa using this)
  have HCA := Lib.hid (show Chg (fun k => k = g) w1 w6 from ((((HC0.out.trans HC1.out fun b h => .inl h).trans HC2.out fun b h => .inl h).trans HC3.out fun b h => .inl h).trans HC4.out fun b h => .inl h))
  have hcl : [c0, c1, [y2], [y3], [y4]].flatten.length = 73 := by simp [HL0.out, HL1.out]
  obtain ⟨C, hC⟩ : ∃ C, C = [c0, c1, [y2], [y3], [y4]].flatten := ⟨_, rfl⟩
  rw [← hC] at hbu hone hcl HOUT
  have HBU := Lib.hid hbu
  have HONE := Lib.hid hone
  have HCL := Lib.hid hcl
  have HI := Lib.hid (show (Tryd.prog.info? 60).map (·.size) = some C.length from by rw [hcl]; exact size_readFact)
  have HK2 := Lib.hid (HK.out.chg HCA.out (show ¬ w.heap.size = g from by omega))
  clear hbu hone hcl hC HK HO0 HC0 H10 HO1 HC1 H11 HO2 HC2 H12 HO3 HC3 H13 HO4 HC4 H14 HL0 HL1
  have HP := Lib.hid hp5
  have hgX := hp5.lt
  clear hp5
  have hbu := HBU.out w6
  have HX := Lib.hid (HP.out.parts)
  go_wp2_with (first | (refine wpList_build_ rfl 60 _ rfl #[(0, .agg c0.toArray), (1, .agg c1.toArray), (2, y2), (3, y3), (4, y4)] (by simp [Act.eval]) _ hbu ?_) | (refine wpList_store_blk (cs0 := ([.slice none 0 0] ++ ([.int .i64 0, .int .i64 0, .int .i64 0] ++ List.replicate 32 (.int .u8 0) ++ [.slice none 0 0, .slice none 0 0]) ++ List.replicate 32 (.int .u8 0) ++ [.slice none 0 0, .bool false, .slice none 0 0] : List Value)) (cs := C) rfl 60 _ _ rfl (Blk.new w6 _ _) rfl rfl (by rw [HCL.out]; rfl) HI.out HONE.out ?_; intro wx hbx hcx; have HBX := Lib.hid hbx; have HCX := Lib.hid hcx; clear hbx hcx))
  obtain ⟨vy, ey, hblk, herr⟩ := HX.out
  have HCX' := Lib.hid (show Chg (fun _ => False) w6 wx from ((Chg.refl _ w6).alloc _).trans HCX.out fun b h => .inr (Nat.le_of_eq h.symm))
  have HGX := Lib.hid (hblk.chg HCX'.out id)
  have HKX := Lib.hid (HK2.out.chg HCX'.out id)
  have HE := Lib.hid herr
  clear hbu hblk herr HX HBU
  refine wp_region_hoist [0, 1, 2, 3, 4] [5] [6] (fun w' => Blk w' w6.heap.size 60 C.toArray ∧ Blk w' g 147 #[vy, ey])
    (by kernel_rfl) (by kernel_rfl) (by kernel_rfl) (by kernel_rfl) (by kernel_rfl) (by kernel_rfl) ⟨HBX.out.drew, HGX.out.drew⟩ ?_
  (refine HoistK.load (by rfl) (by kernel_rfl) 60 _ rfl w6.heap.size 0 rfl C _ (fun w' hw => hw.1.range) Tryd.underlying60 rfl HI.out ?_; simp only [Act.put, List.setIfInBounds_toArray, List.getElem_toArray, List.getElem_cons_zero, List.set_cons_succ, List.set_cons_zero])
  (refine HoistK.yes (by rfl) (by kernel_rfl) ⟨?_, fun w' hSw => ?_, ?_⟩; rotate_left; (· go_simp; try with_reducible rfl); simp only [Act.put, List.setIfInBounds_toArray, List.getElem_toArray, List.getElem_cons_succ, List.getElem_cons_zero, List.set_cons_succ, List.set_cons_zero])
  (refine HoistK.yes (by rfl) (by kernel_rfl) ⟨?_, fun w' hSw => ?_, ?_⟩; rotate_left; (· go_simp; try with_reducible rfl); simp only [Act.put, List.setIfInBounds_toArray, List.getElem_toArray, List.getElem_cons_succ, List.getElem_cons_zero, List.set_cons_succ, List.set_cons_zero])
  (refine HoistK.yes (by rfl) (by kernel_rfl) ⟨?_, fun w' hSw => ?_, ?_⟩; rotate_left; (· go_simp; try with_reducible rfl); simp only [Act.put, List.setIfInBounds_toArray, List.getElem_toArray, List.getElem_cons_succ, List.getElem_cons_zero, List.set_cons_succ, List.set_cons_zero])
  (refine HoistK.yes (by rfl) (by kernel_rfl) ⟨?_, fun w' hSw => ?_, ?_⟩; rotate_left; (· have hcc := hSw.2.cell; go_simp; try with_reducible rfl); simp only [Act.put, List.setIfInBounds_toArray, List.getElem_toArray, List.getElem_cons_succ, List.getElem_cons_zero, List.set_cons_succ, List.set_cons_zero])
  refine HoistK.nil_ ?_
  simp only [opsAt, List.filterMap_cons, List.filterMap_nil, List.getElem?_toArray, List.getElem?_cons_succ, List.getElem?_cons_zero]
  refine Effects.cons_ fun _ hQ1 => ?_
  go_wp2_with (refine wpList_store_blk (cs0 := ([.slice none 0 0] ++ ([.int .i64 0, .int .i64 0, .int .i64 0] ++ List.replicate 32 (.int .u8 0) ++ [.slice none 0 0, .slice none 0 0]) ++ List.replicate 32 (.int .u8 0) ++ [.slice none 0 0, .bool false, .slice none 0 0] : List Value)) (cs := C) rfl 60 _ _ rfl HKX.out.drew rfl rfl (by rw [HCL.out]; rfl) HI.out HONE.out ?_; intro wy hby hcy; have HBY := Lib.hid hby; have HCY := Lib.hid hcy; clear hby hcy)
  refine hQ1 _ _ ⟨HBX.out.drew.chg HCY.out (fun h => by omega), HGX.out.drew.chg HCY.out (fun h => by omega)⟩ (Effects.nil_ fun _ hQ2 => ?_)
  go_wp2
  have hld := run_loadVar_mid (P := Tryd.prog) wy w.heap.size 0 60 C _ HBY.out.range Tryd.underlying60 rfl HI.out
  refine bodyPost_ret (v := .tuple #[.agg C.toArray, ey]) (by simp [results, Tryd.results79, asAddr, hld]) rfl ?_
  have hcf : Chg (fun b => b = w.heap.size) w6 wy := ((HCX'.out.mono fun _ h => h.elim).drew).trans HCY.out fun b h => .inl h
  exact ReadOut.mk (n := 5) HOUT.out HSS.out rfl HE.out (HB1.out.trans (HCA.out.below HB1.out.size fun b h => by omega)) hcf

end Go.Proofs.YtjjgmkfkmckkoaaDoor

/- Codec: face[Fact], ReadFact. -/
namespace Go.Proofs.YtjjgmkfkmckkoaaDoor
open Go.RowKit Go.Maps
attribute [-simp] Tryd.isAgg23 Tryd.typeInfo23 Tryd.isAgg60 Tryd.typeInfo60

def zFFact : List Value := ([.slice none 0 0] ++ ([.int .i64 0, .int .i64 0, .int .i64 0] ++ List.replicate 32 (.int .u8 0) ++ [.slice none 0 0, .slice none 0 0]) ++ List.replicate 32 (.int .u8 0) ++ [.slice none 0 0, .bool false, .slice none 0 0] : List Value)
theorem one_faceFact : ∀ v ∈ zFFact, v.oneCell' = true := by decide
theorem len_faceFact : zFFact.length = 73 := by decide
theorem size_faceFact : (Tryd.prog.info? 60).map (·.size) = some zFFact.length := by kernel_rfl
set_option maxHeartbeats 8000000 in
set_option maxRecDepth 100000 in
theorem faceFact_any (w : World) {S : Nat → Prop} {v sent : Value} {bs : List UInt8} (h : Bs w S v bs) (hp : Pk w sent) :
    Calls Tryd.prog 78 #[v, .func (Fn.func 79) #[] #[]] w (FaceOut tFact w bs) := by
  obtain ⟨A, cap, rfl⟩ := h.form
  have hal1 := (Below.refl w.heap.size w).alloc (Nat.le_refl _) (.cells (zFFact).toArray 60)
  have hal2 := hal1.alloc (by simp) (.cells (zFFact).toArray 60)
  have hr0 := (Blk.new w 60 (zFFact).toArray).alloc (.cells (zFFact).toArray 60)
  have hz0 := Blk.new (w.alloc (.cells (zFFact).toArray 60)) 60 (zFFact).toArray
  rw [show (w.alloc (.cells (zFFact).toArray 60)).heap.size = w.heap.size + 1 by simp] at hz0
  by_cases hbig : 262144 < bs.length
  · obtain ⟨sb, hsb⟩ : ∃ sb, w.cell? ⟨0, 0, none⟩ = some (.iface 205 (.pointer (some sb))) := by
      obtain ⟨_, _, b, _, _, _, _, _, _, _, _, h, _⟩ := hp
      exact ⟨b, h⟩
    have hgb : ∀ {W : World}, Below w.heap.size w W → W.cell? ⟨0, 0, none⟩ = some (.iface 205 (.pointer (some sb))) := fun hb => cell_low hsb hb
    clear h
    go_enter Tryd.func78, Tryd.ntmps78
    go_wp2_with fail
    have hb := hal2.drew
    have hr : Blk _ _ _ _ := hr0.drew
    have hz : Blk _ _ _ _ := hz0.drew
    clear hal1 hal2 hz0 hsb
    refine wp_region_hoist [0, 1, 2] [3, 4, 5] [6, 7] (fun w' => Blk w' (w.heap.size + 1) 60 (zFFact).toArray ∧ w'.cell? ⟨0, 0, none⟩ = some (.iface 205 (.pointer (some sb)))) (by kernel_rfl) (by kernel_rfl) (by kernel_rfl) (by kernel_rfl) (by kernel_rfl) (by kernel_rfl) ⟨hz, hgb hb⟩ ?_
    (refine HoistK.load (by rfl) (by kernel_rfl) 60 _ rfl (w.heap.size + 1) 0 rfl zFFact _ (fun w' hw => hw.1.range) Tryd.underlying60 rfl size_faceFact ?_; simp only [Act.put, List.setIfInBounds_toArray, List.getElem_toArray, List.getElem_cons_zero, List.set_cons_succ, List.set_cons_zero])
    (refine HoistK.yes (by rfl) (by kernel_rfl) ⟨?_, fun w' hSw => ?_, ?_⟩; rotate_left; (· have hcc := hSw.2; go_simp; try with_reducible rfl); simp only [Act.put, List.setIfInBounds_toArray, List.getElem_toArray, List.getElem_cons_succ, List.getElem_cons_zero, List.set_cons_succ, List.set_cons_zero])
    (refine HoistK.yes (by rfl) (by kernel_rfl) ⟨?_, fun w' hSw => ?_, ?_⟩; rotate_left; (· go_simp; try with_reducible rfl); simp only [Act.put, List.setIfInBounds_toArray, List.getElem_toArray, List.getElem_cons_succ, List.getElem_cons_zero, List.set_cons_succ, List.set_cons_zero])
    refine HoistK.nil_ ?_
    simp only [opsAt, List.filterMap_cons, List.filterMap_nil, List.getElem?_toArray, List.getElem?_cons_succ, List.getElem?_cons_zero]
    refine Effects.world (F := fun W => Below w.heap.size w W ∧ Blk W w.heap.size 60 (zFFact).toArray ∧ Blk W (w.heap.size + 1) 60 (zFFact).toArray) (fun W hF => ?_) ⟨hb, hr, hz⟩
    clear hb hr hz hr0
    obtain ⟨hb, hr, hz⟩ := hF
    refine Effects.cons_ fun _ hQ => ?_
    have hzl := hz.lt
    go_wp2_with fail
    have hk := Blk.new W 137 #[.string ⟨#[97, 108, 108]⟩, .iface 205 (.pointer (some sb))]
    replace hb := hb.alloc hb.size (.cells #[.string ⟨#[97, 108, 108]⟩, .iface 205 (.pointer (some sb))] 137)
    replace hr := hr.alloc (.cells #[.string ⟨#[97, 108, 108]⟩, .iface 205 (.pointer (some sb))] 137)
    replace hz := hz.alloc (.cells #[.string ⟨#[97, 108, 108]⟩, .iface 205 (.pointer (some sb))] 137)
    obtain ⟨gg, hgg⟩ : ∃ gg, gg = W.heap.size := ⟨_, rfl⟩
    have hgn : gg ≠ w.heap.size := by omega
    rw [← hgg] at hk ⊢
    have HGG := Lib.hid hgg; clear hgg
    generalize W.alloc (.cells #[.string ⟨#[97, 108, 108]⟩, .iface 205 (.pointer (some sb))] 137) = W1 at *
    refine hQ _ _ ⟨hz, hgb hb⟩ (Effects.cons_ fun _ hQ => ?_)
    go_wp2_with fail
    refine hQ _ _ ⟨hz, hgb hb⟩ (Effects.cons_ fun _ hQ => ?_)
    go_wp2_with fail
    refine (told_any (r := true) _ (hp.below hb) ⟨gg, 1, _, rfl, .more hk .last, hgb hb⟩).mono ?_
    rintro e W2 ⟨rfl, hb2⟩
    replace hb := hb.trans (hb2.mono hb.size)
    replace hr := hr.below hb2 hr.lt
    replace hz := hz.below hb2 hz.lt
    replace hk := hk.below hb2 hk.lt
    go_wp2_with fail
    refine hQ _ _ ⟨hz, hgb hb⟩ (Effects.nil_ fun _ hQ => ?_)
    refine wpList_store_blk (cs0 := zFFact) (cs := zFFact) rfl 60 _ _ rfl hr rfl rfl rfl size_faceFact one_faceFact ?_
    intro W3 hr3 hc3
    go_wp2_with fail
    replace hb := hb.trans (hc3.below hb.size fun b h => Nat.le_of_eq h.symm)
    have hld := run_loadVar_mid (P := Tryd.prog) _ w.heap.size 0 60 zFFact _ hr3.range Tryd.underlying60 rfl size_faceFact
    exact bodyPost_ret (v := .tuple #[.agg (zFFact).toArray, .int .i64 4]) (by simp [results, Tryd.results78, asAddr, hld]) rfl ⟨hb, _, 4, rfl, len_faceFact, one_faceFact, .inl ⟨hbig, rfl⟩⟩
  · have hlen : bs.length ≤ 262144 := by omega
    have HR := Lib.hid (readFact_any _ (h.below hal2) hlen (hp.1.below hal2))
    have HA := Lib.hid hal2
    have HR0 := Lib.hid hr0
    have HZ0 := Lib.hid hz0
    clear h hal1 hal2 hr0 hz0
    go_enter Tryd.func78, Tryd.ntmps78
    go_wp2_with fail
    refine HR.out.mono ?_
    rintro e w2 hro
    obtain ⟨C, err, bd, rfl, h1, hl, hb2, he, ho⟩ := hro.agg (fun _ => rfl)
    have hl : C.length = 73 := hl
    have HL := Lib.hid hl
    have HI := Lib.hid (show (Tryd.prog.info? 60).map (·.size) = some C.length from by rw [hl]; rw [size_faceFact, len_faceFact])
    have H1 := Lib.hid h1
    have HK := Lib.hid (HR0.out.below hb2 HR0.out.lt)
    have HZ := Lib.hid (HZ0.out.below hb2 HZ0.out.lt)
    have hz2 : w.heap.size + 2 ≤ w2.heap.size := by have := hb2.size; simpa using this
    have HB2 := Lib.hid (HA.out.trans (hb2.mono HA.out.size))
    have HO := Lib.hid (show SOut tFact w2 (fun b => w.heap.size + 2 ≤ b) bs C false bd from ho.to (fun b _ hlt => ⟨hlt, rfl⟩) fun b hb _ => by simpa using hb)
    have he := he.to (w' := w2) (S' := fun b => w.heap.size + 2 ≤ b) (fun b _ hlt => ⟨hlt, rfl⟩) fun b hb _ => by simpa using hb
    clear hro h1 hl hb2 ho HR HA HR0 HZ0
    rcases he with ⟨rfl, rfl⟩ | ⟨rfl, hch⟩
    · go_wp2_with (first
        | (refine wpList_store_blk (cs0 := zFFact) (cs := C) rfl 60 _ _ rfl (Blk.new w2 _ _) rfl rfl (by rw [HL.out]; exact len_faceFact) HI.out H1.out ?_; intro w3 hb3 hc3; have HB3 := Lib.hid hb3
           have HC3 := Lib.hid (show Chg (fun _ => False) w2 w3 from ((Chg.refl _ w2).alloc _).trans hc3 fun b h => .inr (Nat.le_of_eq h.symm)); clear hb3 hc3
           have HK3 := Lib.hid (HK.out.chg HC3.out id))
        | (refine wpList_load_blk' rfl 60 _ rfl HB3.out rfl Tryd.underlying60 rfl HI.out ?_)
        | (refine wpList_store_blk (cs0 := zFFact) (cs := C) rfl 60 _ _ rfl HK3.out rfl rfl (by rw [HL.out]; exact len_faceFact) HI.out H1.out ?_; intro w9 hb9 hc9; have HB9 := Lib.hid hb9; have HC9 := Lib.hid hc9; clear hb9 hc9))
      have hld := run_loadVar_mid (P := Tryd.prog) w9 w.heap.size 0 60 C _ HB9.out.range Tryd.underlying60 rfl HI.out
      refine bodyPost_ret (v := .tuple #[.agg C.toArray, .int .i64 0]) (by simp [results, Tryd.results78, asAddr, hld]) rfl ?_
      obtain ⟨o1, o2, o3⟩ := HO.out
      have hc29 : Chg (fun b => b = w.heap.size) w2 w9 := (HC3.out.mono (M' := fun b => b = w.heap.size) fun _ h => h.elim).trans HC9.out fun b h => .inl h
      refine ⟨HB2.out.trans (hc29.below HB2.out.size fun b h => Nat.le_of_eq h.symm), C, 0, rfl, o1, o2, .inr ⟨hlen, .inl ?_⟩⟩
      rcases o3 with ⟨x, e1, _, e3⟩ | ⟨_, e2⟩
      · exact ⟨x, e1, rfl, Sh.rep_to (fun b hb hlt => ⟨Nat.lt_of_lt_of_le hlt hc29.size, hc29.block b hlt fun e => by omega⟩) (fun b hb _ => by omega) _ _ _ e3⟩
      · cases e2
    · obtain ⟨gw, rfl⟩ := hch.form
      have HCH := Lib.hid hch; clear hch
      have hno : Sh.dec tFact bs = none := by
        obtain ⟨_, _, o3⟩ := HO.out
        rcases o3 with ⟨x, _, e2, _⟩ | ⟨e1, _⟩
        · cases e2
        · exact e1
      have HNO := Lib.hid hno; clear hno
      go_wp2_with (refine wpList_store_blk (cs0 := zFFact) (cs := C) rfl 60 _ _ rfl (Blk.new w2 _ _) rfl rfl (by rw [HL.out]; exact len_faceFact) HI.out H1.out ?_; intro w3 hb3 hc3; have HC3 := Lib.hid (show Chg (fun _ => False) w2 w3 from ((Chg.refl _ w2).alloc _).trans hc3 fun b h => .inr (Nat.le_of_eq h.symm)); clear hb3 hc3)
      have hr : Blk _ _ _ _ := (HK.out.chg HC3.out id).drew
      have hz : Blk _ _ _ _ := (HZ.out.chg HC3.out id).drew
      have hb := (HB2.out.trans (HC3.out.below HB2.out.size fun b h => h.elim)).drew
      have hch3 := HCH.out.to (w' := w3.drew) (S' := fun b => w.heap.size + 2 ≤ b) (fun b hb hlt => ⟨Nat.lt_of_lt_of_le hlt HC3.out.size, HC3.out.block b hlt id⟩) fun b hb _ => hb
      have hz3 : w.heap.size + 2 ≤ w3.drew.heap.size := Nat.le_trans hz2 HC3.out.size
      refine wp_region_hoist [0, 1] [2] [3, 4] (fun w' => Blk w' (w.heap.size + 1) 60 (zFFact).toArray) (by kernel_rfl) (by kernel_rfl) (by kernel_rfl) (by kernel_rfl) (by kernel_rfl) (by kernel_rfl) hz ?_
      (refine HoistK.load (by rfl) (by kernel_rfl) 60 _ rfl (w.heap.size + 1) 0 rfl zFFact _ (fun w' hw => hw.range) Tryd.underlying60 rfl size_faceFact ?_; simp only [Act.put, List.setIfInBounds_toArray, List.getElem_toArray, List.getElem_cons_zero, List.set_cons_succ, List.set_cons_zero])
      (refine HoistK.yes (by rfl) (by kernel_rfl) ⟨?_, fun w' hSw => ?_, ?_⟩; rotate_left; (· go_simp; try with_reducible rfl); simp only [Act.put, List.setIfInBounds_toArray, List.getElem_toArray, List.getElem_cons_succ, List.getElem_cons_zero, List.set_cons_succ, List.set_cons_zero])
      refine HoistK.nil_ ?_
      simp only [opsAt, List.filterMap_cons, List.filterMap_nil, List.getElem?_toArray, List.getElem?_cons_succ, List.getElem?_cons_zero]
      refine Effects.world (F := fun W => Below w.heap.size w W ∧ Blk W w.heap.size 60 (zFFact).toArray ∧ Blk W (w.heap.size + 1) 60 (zFFact).toArray ∧ Chain W (fun b => w.heap.size + 2 ≤ b) sent (.iface 133 (.pointer (some ⟨gw, 0, none⟩)))) (fun W hF => ?_) ⟨hb, hr, hz, hch3⟩
      clear hb hr hz hch3 hz3
      obtain ⟨hb, hr, hz, hch⟩ := hF
      refine Effects.cons_ fun _ hQ => ?_
      go_wp2_with fail
      refine (told_any (r := false) _ (hp.below hb) (Wr.of_chain hch)).mono ?_
      rintro e W2 ⟨rfl, hb2⟩
      replace hb := hb.trans (hb2.mono hb.size)
      replace hr := hr.below hb2 hr.lt
      replace hz := hz.below hb2 hz.lt
      go_wp2_with fail
      refine hQ _ _ hz (Effects.nil_ fun _ hQ => ?_)
      refine wpList_store_blk (cs0 := zFFact) (cs := zFFact) rfl 60 _ _ rfl hr rfl rfl rfl size_faceFact one_faceFact ?_
      intro W3 hr3 hc3
      go_wp2_with fail
      replace hb := hb.trans (hc3.below hb.size fun b h => Nat.le_of_eq h.symm)
      have hld := run_loadVar_mid (P := Tryd.prog) _ w.heap.size 0 60 zFFact _ hr3.range Tryd.underlying60 rfl size_faceFact
      exact bodyPost_ret (v := .tuple #[.agg (zFFact).toArray, .int .i64 5]) (by simp [results, Tryd.results78, asAddr, hld]) rfl ⟨hb, _, 5, rfl, len_faceFact, one_faceFact, .inr ⟨hlen, .inr ⟨HNO.out, rfl⟩⟩⟩

set_option maxHeartbeats 4000000 in
set_option maxRecDepth 100000 in
theorem ReadFact_any (w : World) {S : Nat → Prop} {v sent : Value} {bs : List UInt8} (h : Bs w S v bs) (hp : Pk w sent) :
    Calls Tryd.prog 52 #[v] w (FaceOut tFact w bs) := by
  have hal1 := (Below.refl w.heap.size w).alloc (Nat.le_refl _) (.cells (zFFact).toArray 60)
  have HF := Lib.hid (faceFact_any _ (h.below hal1) (hp.below hal1))
  have HR := Lib.hid (Blk.new w 60 (zFFact).toArray)
  have HA := Lib.hid hal1
  obtain ⟨A, cap, rfl⟩ := h.form
  clear h hp hal1
  go_enter Tryd.func52, Tryd.ntmps52
  go_wp2_with fail
  refine HF.out.mono ?_
  rintro e w1 ⟨hb, C, n, rfl, hl, h1, hn⟩
  have hl : C.length = 73 := hl
  have HL := Lib.hid hl
  have HI := Lib.hid (show (Tryd.prog.info? 60).map (·.size) = some C.length from by rw [hl]; rw [size_faceFact, len_faceFact])
  have H1 := Lib.hid h1
  have hlz : (zFFact).length = C.length := by rw [hl, len_faceFact]
  have HLZ := Lib.hid hlz
  have HK := Lib.hid (HR.out.below hb (by simp))
  have HB := Lib.hid hb
  have HN := Lib.hid hn
  have hz1 : w.heap.size + 1 ≤ w1.heap.size := by have := hb.size; simpa using this
  clear hl h1 hlz hb hn HF HR
  go_wp2_with (refine wpList_store_blk (cs0 := zFFact) (cs := C) rfl 60 _ _ rfl HK.out rfl rfl HLZ.out HI.out H1.out ?_; intro w9 hb9 hc9; have HB9 := Lib.hid hb9; have HC9 := Lib.hid hc9; clear hb9 hc9)
  have hld := run_loadVar_mid (P := Tryd.prog) w9 w.heap.size 0 60 C _ HB9.out.range Tryd.underlying60 rfl HI.out
  refine bodyPost_ret (v := .tuple #[.agg C.toArray, .int .i64 n]) (by simp [results, Tryd.results52, asAddr, hld]) rfl ?_
  have hbw := HA.out.trans (HB.out.mono HA.out.size)
  refine ⟨hbw.trans (HC9.out.below hbw.size fun b h => Nat.le_of_eq h.symm), C, n, rfl, HL.out, H1.out, HN.out.imp id fun ⟨q1, q2⟩ => ⟨q1, q2.imp (fun ⟨x, e1, e2, e3⟩ => ⟨x, e1, e2, ?_⟩) id⟩⟩
  exact Sh.rep_to (fun b hb hlt => ⟨Nat.lt_of_lt_of_le hlt HC9.out.size, HC9.out.block b hlt fun e => by simp at hb; omega⟩) (fun b hb _ => by simp at hb; omega) _ _ _ e3

end Go.Proofs.YtjjgmkfkmckkoaaDoor

/- Codec's laws: fact: written as the document says, read back as it was. Printed by genLaw.py. -/
namespace Go.Proofs.YtjjgmkfkmckkoaaDoor
open Go.RowKit Go.Maps
attribute [-simp] Tryd.isAgg23 Tryd.typeInfo23 Tryd.isAgg60 Tryd.typeInfo60

set_option maxHeartbeats 8000000 in
set_option maxRecDepth 100000 in
theorem lawFact_any (w : World) {S : Nat → Prop} {x : tFact.El} {cs : List Value} {sent : Value} (h : tFact.rep w S x cs) (h1 : ∀ v ∈ cs, v.oneCell' = true) (hS : ∀ b, S b → b < w.heap.size) (hl : (tFact.enc x).length ≤ 1099511627776) (hp : Pk w sent) :
    Calls Tryd.prog 17 #[.agg cs.toArray] w fun e w' => e = .returned (.bool true) ∧ Below w.heap.size w w' := by
  have hpos : 0 < (tFact.enc x).length := by
    show 0 < (joinB _).length
    rw [joinB_length]; omega
  have hsize := Sh.rep_size _ _ _ h
  have hwf := Sh.rep_wf _ _ _ h
  have hdec := Sh.dec_enc tFact x hwf (by omega)
  have HI := Lib.hid (show (Tryd.prog.info? 60).map (·.size) = some cs.length from by rw [hsize]; kernel_rfl)
  obtain ⟨bs, hbs⟩ : ∃ bs, bs = tFact.enc x := ⟨_, rfl⟩
  have hal1 := (Below.refl w.heap.size w).alloc (Nat.le_refl _) (.cells cs.toArray 60)
  have h0 := Sh.rep_below h hal1
  have hA := fact_any _ h0 hl
  rw [← hbs] at hl hpos hdec hA
  have HA := Lib.hid hA
  have HX := Lib.hid (Blk.new w 60 cs.toArray)
  have HB1 := Lib.hid hal1
  have HR := Lib.hid h
  have HL := Lib.hid hl
  have HBS := Lib.hid hbs
  have HS := Lib.hid hS
  have HP := Lib.hid hp
  have HD := Lib.hid hdec
  have H1 := Lib.hid h1
  clear h hl hbs hsize hwf hdec hal1 h0 hA hS hp h1
  go_enter Tryd.func17, Tryd.ntmps17
  go_wp2_with (refine wpList_load_blk' rfl 60 _ rfl HX.out rfl Tryd.underlying60 rfl HI.out ?_)
  refine HA.out.mono ?_
  rintro e w2 ⟨v, rfl, f2⟩
  obtain ⟨A, cap, rfl⟩ := f2.1.form
  have hB2 := HB1.out.trans (f2.2.mono HB1.out.size)
  have HX2 := Lib.hid (HX.out.below f2.2 HX.out.lt)
  have HF2 := Lib.hid f2
  have HB2 := Lib.hid hB2
  clear hB2 f2 HA HX
  go_wp2_with fail
  -- REGION 2
  have hx := HX2.out.drew
  have hf := HF2.out.1.drew
  have hb := HB2.out.drew
  refine wp_region_segsV [([0, 1, 2], [3]), ([4, 5], [])] (by kernel_rfl) (by kernel_rfl) (by kernel_rfl) (by kernel_rfl) (SegV.mk (fun w' => Blk w' w.heap.size 60 cs.toArray ∧ Bs w' (fun b => w.heap.size + 1 ≤ b) (.slice A bs.length cap) bs) (fun _ _ => trivial) ⟨hx, hf.sub fun b hb _ => by simpa using hb.1⟩ ?_)
  (refine HoistK.yes (by rfl) (by kernel_rfl) ⟨?_, fun w' hSw => ?_, ?_⟩; rotate_left; (· go_simp; try with_reducible rfl); simp only [Act.put, List.setIfInBounds_toArray, List.getElem_toArray, List.getElem_cons_zero, List.set_cons_succ, List.set_cons_zero])
  (refine HoistK.yes (by rfl) (by kernel_rfl) ⟨?_, fun w' hSw => ?_, ?_⟩; rotate_left; (· have e1 := run_str hSw.2 Tryd.underlying28 Tryd.underlying5 Tryd.underlying9; go_simp; try with_reducible rfl); simp only [Act.put, List.setIfInBounds_toArray, List.getElem_toArray, List.getElem_cons_succ, List.getElem_cons_zero, List.set_cons_succ, List.set_cons_zero])
  (refine HoistK.load (by rfl) (by kernel_rfl) 60 _ rfl w.heap.size 0 rfl cs _ (fun w' hw => hw.1.range) Tryd.underlying60 rfl HI.out ?_; simp only [Act.put, List.setIfInBounds_toArray, List.getElem_toArray, List.getElem_cons_succ, List.getElem_cons_zero, List.set_cons_succ, List.set_cons_zero])
  refine HoistK.nil_ ?_
  simp only [opsAt, List.filterMap_cons, List.filterMap_nil, List.getElem?_toArray, List.getElem?_cons_succ, List.getElem?_cons_zero]
  refine EffS.cons_ fun _ hQ => ?_
  have hr := rFact_any _ (Sh.rep_below HR.out hb) (by rw [← HBS.out]; exact HL.out)
  rw [← HBS.out] at hr
  have HRR := Lib.hid hr
  clear hr hx hf hb
  go_wp2_with fail
  refine HRR.out.mono ?_
  rintro e w3 ⟨v3, rfl, f3⟩
  obtain ⟨A3, c3, rfl⟩ := f3.1.form
  have hx := HX2.out.drew.below f3.2 HX2.out.drew.lt
  have hf := HF2.out.1.drew.below f3.2
  have hb := HB2.out.drew.trans (f3.2.mono HB2.out.drew.size)
  have HX3 := Lib.hid hx
  have HF3 := Lib.hid hf
  have HB3 := Lib.hid hb
  have HS23 := Lib.hid (show Below w2.heap.size w2 w3 from ((Below.refl _ w2).drew).trans f3.2)
  have hf3 := f3.1
  clear f3 HRR HX2 HF2 HB2
  go_wp2_with fail
  refine hQ _ _ ⟨hx, hf.sub fun b hb _ => by simpa using hb.1⟩ (EffS.nil_ (SegV.mk (fun w' => (Blk w' w.heap.size 60 cs.toArray ∧ Bs w' (fun b => w.heap.size + 1 ≤ b) (.slice A bs.length cap) bs) ∧ Bs w' (fun b => w2.heap.size ≤ b) (.slice A3 bs.length c3) bs) (fun _ h => h.1) ⟨⟨hx, hf.sub fun b hb _ => by simpa using hb.1⟩, hf3.sub fun b hb _ => hb.1⟩ ?_))
  (refine HoistK.yes (by rfl) (by kernel_rfl) ⟨?_, fun w' hSw => ?_, ?_⟩; rotate_left; (· have e1 := run_str hSw.2 Tryd.underlying28 Tryd.underlying5 Tryd.underlying9; go_simp; try with_reducible rfl); simp only [Act.put, List.setIfInBounds_toArray, List.getElem_toArray, List.getElem_cons_succ, List.getElem_cons_zero, List.set_cons_succ, List.set_cons_zero])
  (refine HoistK.yes (by rfl) (by kernel_rfl) ⟨?_, fun w' hSw => ?_, ?_⟩; rotate_left; (· go_simp; try with_reducible rfl); simp only [Act.put, List.setIfInBounds_toArray, List.getElem_toArray, List.getElem_cons_succ, List.getElem_cons_zero, List.set_cons_succ, List.set_cons_zero])
  refine HoistK.nil_ ?_
  simp only [opsAt, List.filterMap_nil, List.getElem?_toArray]
  refine EffS.nil_ fun _ hQ => ?_
  go_wp2_with fail
  refine (ReadFact_any _ HF3.out (HP.out.below HB3.out)).mono ?_
  rintro e w4 ⟨hb4, C, n, rfl, hCl, hC1, hn⟩
  have hsz3 := HB3.out.size
  have HX4 := Lib.hid (HX3.out.below hb4 HX3.out.lt)
  have HF4 := Lib.hid (HF3.out.below hb4)
  have HB4 := Lib.hid (HB3.out.trans (hb4.mono HB3.out.size))
  have hs34 := hb4.size
  have HS34 := Lib.hid hb4
  have HCL := Lib.hid hCl
  have HC1 := Lib.hid hC1
  have HN := Lib.hid hn
  have HCI := Lib.hid (show (Tryd.prog.info? 60).map (·.size) = some C.length from by rw [hCl]; kernel_rfl)
  have HZL := Lib.hid (show zFFact.length = C.length from by rw [hCl]; rfl)
  clear hCl hC1 hn HF3 HX3 HB3 hb4
  by_cases hbig : 262144 < bs.length
  · obtain rfl : n = 4 := by
      rcases HN.out with ⟨_, h⟩ | ⟨h, _⟩
      · exact h
      · omega
    go_wp2_with (refine wpList_store_blk (cs0 := zFFact) (cs := C) rfl 60 _ _ rfl (Blk.new w4 _ _) rfl rfl HZL.out HCI.out HC1.out ?_; intro w5 hy5 hc5; have HY5 := Lib.hid hy5; have HC5 := Lib.hid (show Chg (fun _ => False) w4 w5 from ((Chg.refl _ w4).alloc _).trans hc5 fun b h => .inr (Nat.le_of_eq h.symm)); clear hy5 hc5)
    go_ret
    exact ⟨rfl, HB4.out.trans (HC5.out.below HB4.out.size fun b h => h.elim)⟩
  obtain ⟨hrep, rfl⟩ : tFact.rep w4 (fun b => w3.heap.size ≤ b) x C ∧ n = 0 := by
    rcases HN.out with ⟨h, _⟩ | ⟨_, ⟨y, h1, h2, h3⟩ | ⟨h1, _⟩⟩
    · omega
    · rw [HD.out] at h1
      injection h1 with h1
      subst h1
      exact ⟨h3, h2⟩
    · rw [HD.out] at h1; cases h1
  have HREP := Lib.hid hrep
  clear hrep HN
  go_wp2_with (refine wpList_store_blk (cs0 := zFFact) (cs := C) rfl 60 _ _ rfl (Blk.new w4 _ _) rfl rfl HZL.out HCI.out HC1.out ?_; intro w5 hy5 hc5; have HY5 := Lib.hid hy5; have HC5 := Lib.hid (show Chg (fun _ => False) w4 w5 from ((Chg.refl _ w4).alloc _).trans hc5 fun b h => .inr (Nat.le_of_eq h.symm)); clear hy5 hc5)
  have HF5 := Lib.hid (HF4.out.chg HC5.out fun _ _ h => h)
  obtain ⟨B, off, rfl, hBw, hBlt, cB, tB, hbB, hcell⟩ : ∃ B off, A = some ⟨B, off, none⟩ ∧ w.heap.size + 1 ≤ B ∧ B < w3.heap.size ∧ ∃ cB tB, Blk w5 B tB cB ∧ ∀ j, j < bs.length → ∃ y : Nat, y < 256 ∧ cB[off + j]? = some (.int .u8 y) := by
    obtain ⟨⟨hn, A', c', e, _, _, hp⟩, _⟩ := HF5.out
    injection e with e
    subst e
    obtain ⟨B, off, rfl, ⟨hw1, cs', t', hth⟩, hlt, hc⟩ := hp hpos
    have hB2 : B < w2.heap.size := (Array.getElem?_eq_some_iff.1 hth).1
    have hB3 := Nat.lt_of_lt_of_le hB2 HS23.out.size
    have h5 : Blk w5 B t' cs' := by
      show w5.heap[B]? = _
      rw [HC5.out.block B (Nat.lt_of_lt_of_le hB3 hs34) id, HS34.out.block B hB3, HS23.out.block B hB2]
      exact hth
    refine ⟨B, off, rfl, by simpa using hw1, hB3, cs', t', h5, fun j hj => ⟨bs[j].toNat, UInt8.toNat_lt _, ?_⟩⟩
    rw [← h5.cell, hc j _ (u8s_get bs j hj)]
  go_loopw [27] (fun i wr => ∃ k : Nat, k ≤ bs.length ∧ i = .int .i64 k ∧ (∃ c, Hid (Blk wr B tB c ∧ ∀ j, j < bs.length → ∃ y : Nat, y < 256 ∧ c[off + j]? = some (.int .u8 y))) ∧ Chg (fun b => b = B) w5 wr) (fun i _ => bs.length - (intOf i).toNat)
  case atStart => exact ⟨0, Nat.zero_le _, rfl, ⟨cB, Lib.hid ⟨hbB, hcell⟩⟩, Chg.refl _ _⟩
  case round =>
    obtain ⟨k, hk, rfl, ⟨c, hC⟩, hch⟩ := hrel
    by_cases hlt : k < bs.length
    · obtain ⟨y, hy, hc⟩ := hC.out.2 k hlt
      have hcc : wr.cell? ⟨B, off + k, none⟩ = some (.int .u8 y) := by rw [hC.out.1.cell]; exact hc
      have hz := hC.out.1.frozen (off + k)
      go_wp2
      refine ⟨⟨k + 1, by omega, by push_cast; rfl, ⟨c.setIfInBounds (off + k) _, Lib.hid ⟨hC.out.1.set_ _ _, fun j hj => ?_⟩⟩, hch.setIn _ _⟩, by simp only [intOf]; omega⟩
      by_cases e : j = k
      · subst e
        refine ⟨y ^^^ 85, Nat.xor_lt_two_pow (n := 8) (by omega) (by omega), ?_⟩
        rw [Array.getElem?_setIfInBounds_self_of_lt (Array.getElem?_eq_some_iff.1 hc).1]
        have := u8_xor_nat y 85 hy (by omega)
        exact congrArg (fun z => some (Value.int .u8 z)) this
      · obtain ⟨y', h1, h2⟩ := hC.out.2 j hj
        exact ⟨y', h1, by rw [Array.getElem?_setIfInBounds_ne (by omega)]; exact h2⟩
    · have hx := ((HX4.out.chg HC5.out id).chg hch fun e => by have e : w.heap.size = B := e; omega).drew
      have hy := (HY5.out.chg hch fun e => by have e : w4.heap.size = B := e; omega).drew
      have hb5 := HB4.out.trans (HC5.out.below HB4.out.size fun b h => h.elim)
      have hbr := (hb5.trans (hch.below hb5.size fun b h => by have h : b = B := h; omega)).drew
      have hrx := Sh.rep_below HR.out hbr
      have hry : tFact.rep wr.drew (fun b => w3.heap.size ≤ b) x C := Sh.rep_chg (Sh.rep_chg HREP.out HC5.out fun _ _ h => h) hch.drew fun b h1 h2 => by have h2 : b = B := h2; omega
      have HRX := Lib.hid hrx
      have HRY := Lib.hid hry
      have HBR := Lib.hid hbr
      have hl : (tFact.enc x).length ≤ 1099511627776 := by rw [← HBS.out]; exact HL.out
      clear hC hbB hcell
      go_wp2_with fail
      refine wp_region_segsV [([0, 1, 2, 3, 6], [4]), ([5], [7]), ([8, 9, 10], [11])] (by kernel_rfl) (by kernel_rfl) (by kernel_rfl) (by kernel_rfl) (SegV.mk (fun w' => Blk w' w.heap.size 60 cs.toArray ∧ Blk w' w4.heap.size 60 C.toArray) (fun _ _ => trivial) ⟨hx, hy⟩ ?_)
      (refine HoistK.yes (by rfl) (by kernel_rfl) ⟨?_, fun w' hSw => ?_, ?_⟩; rotate_left; (· go_simp; try with_reducible rfl); simp only [Act.put, List.setIfInBounds_toArray, List.getElem_toArray, List.getElem_cons_zero, List.set_cons_succ, List.set_cons_zero])
      (refine HoistK.yes (by rfl) (by kernel_rfl) ⟨?_, fun w' hSw => ?_, ?_⟩; rotate_left; (· go_simp; try with_reducible rfl); simp only [Act.put, List.setIfInBounds_toArray, List.getElem_toArray, List.getElem_cons_succ, List.getElem_cons_zero, List.set_cons_succ, List.set_cons_zero])
      (refine HoistK.yes (by rfl) (by kernel_rfl) ⟨?_, fun w' hSw => ?_, ?_⟩; rotate_left; (· go_simp; try with_reducible rfl); simp only [Act.put, List.setIfInBounds_toArray, List.getElem_toArray, List.getElem_cons_succ, List.getElem_cons_zero, List.set_cons_succ, List.set_cons_zero])
      (refine HoistK.load (by rfl) (by kernel_rfl) 60 _ rfl w4.heap.size 0 rfl C _ (fun w' hw => hw.2.range) Tryd.underlying60 rfl HCI.out ?_; simp only [Act.put, List.setIfInBounds_toArray, List.getElem_toArray, List.getElem_cons_succ, List.getElem_cons_zero, List.set_cons_succ, List.set_cons_zero])
      (refine HoistK.load (by rfl) (by kernel_rfl) 60 _ rfl w.heap.size 0 rfl cs _ (fun w' hw => hw.1.range) Tryd.underlying60 rfl HI.out ?_; simp only [Act.put, List.setIfInBounds_toArray, List.getElem_toArray, List.getElem_cons_succ, List.getElem_cons_zero, List.set_cons_succ, List.set_cons_zero])
      refine HoistK.nil_ ?_
      simp only [opsAt, List.filterMap_cons, List.filterMap_nil, List.getElem?_toArray, List.getElem?_cons_succ, List.getElem?_cons_zero]
      refine EffS.cons_ fun _ hQ => ?_
      have HC1' := Lib.hid (rFact_any _ HRY.out hl)
      go_wp2_with fail
      refine HC1'.out.mono ?_
      rintro e w6 ⟨v6, rfl, f6⟩
      rw [← HBS.out] at f6
      obtain ⟨A6, c6, rfl⟩ := f6.1.form
      have hx6 := hx.below f6.2 hx.lt
      have hy6 := hy.below f6.2 hy.lt
      have HB6 := Lib.hid (HBR.out.trans (f6.2.mono HBR.out.size))
      have hf6 := f6.1
      clear f6 HC1'
      go_wp2_with fail
      refine hQ _ _ ⟨hx6, hy6⟩ (EffS.nil_ (SegV.mk (fun w' => (Blk w' w.heap.size 60 cs.toArray ∧ Blk w' w4.heap.size 60 C.toArray) ∧ Bs w' (fun b => wr.heap.size ≤ b) (.slice A6 bs.length c6) bs) (fun _ h => h.1) ⟨⟨hx6, hy6⟩, hf6.sub fun b hb _ => hb.1⟩ ?_))
      (refine HoistK.yes (by rfl) (by kernel_rfl) ⟨?_, fun w' hSw => ?_, ?_⟩; rotate_left; (· have e1 := run_str hSw.2 Tryd.underlying28 Tryd.underlying5 Tryd.underlying9; go_simp; try with_reducible rfl); simp only [Act.put, List.setIfInBounds_toArray, List.getElem_toArray, List.getElem_cons_succ, List.getElem_cons_zero, List.set_cons_succ, List.set_cons_zero])
      refine HoistK.nil_ ?_
      simp only [opsAt, List.filterMap_cons, List.filterMap_nil, List.getElem?_toArray, List.getElem?_cons_succ, List.getElem?_cons_zero]
      refine EffS.cons_ fun _ hQ => ?_
      have HC2' := Lib.hid (rFact_any _ (Sh.rep_below HR.out HB6.out) hl)
      go_wp2_with fail
      refine HC2'.out.mono ?_
      rintro e w7 ⟨v7, rfl, f7⟩
      rw [← HBS.out] at f7
      obtain ⟨A7, c7, rfl⟩ := f7.1.form
      have hx7 := hx6.below f7.2 hx6.lt
      have hy7 := hy6.below f7.2 hy6.lt
      have HB7 := Lib.hid (HB6.out.trans (f7.2.mono HB6.out.size))
      have hf67 := hf6.below f7.2
      have hf7 := f7.1
      clear f7 HC2'
      go_wp2_with fail
      refine hQ _ _ ⟨⟨hx7, hy7⟩, hf67.sub fun b hb _ => hb.1⟩ (EffS.nil_ (SegV.mk (fun w' => ((Blk w' w.heap.size 60 cs.toArray ∧ Blk w' w4.heap.size 60 C.toArray) ∧ Bs w' (fun b => wr.heap.size ≤ b) (.slice A6 bs.length c6) bs) ∧ Bs w' (fun b => w6.heap.size ≤ b) (.slice A7 bs.length c7) bs) (fun _ h => h.1) ⟨⟨⟨hx7, hy7⟩, hf67.sub fun b hb _ => hb.1⟩, hf7.sub fun b hb _ => hb.1⟩ ?_))
      (refine HoistK.yes (by rfl) (by kernel_rfl) ⟨?_, fun w' hSw => ?_, ?_⟩; rotate_left; (· have e1 := run_str hSw.2 Tryd.underlying28 Tryd.underlying5 Tryd.underlying9; go_simp; try with_reducible rfl); simp only [Act.put, List.setIfInBounds_toArray, List.getElem_toArray, List.getElem_cons_succ, List.getElem_cons_zero, List.set_cons_succ, List.set_cons_zero])
      (refine HoistK.yes (by rfl) (by kernel_rfl) ⟨?_, fun w' hSw => ?_, ?_⟩; rotate_left; (· go_simp; try with_reducible rfl); simp only [Act.put, List.setIfInBounds_toArray, List.getElem_toArray, List.getElem_cons_succ, List.getElem_cons_zero, List.set_cons_succ, List.set_cons_zero])
      (refine HoistK.yes (by rfl) (by kernel_rfl) ⟨?_, fun w' hSw => ?_, ?_⟩; rotate_left; (· go_simp; try with_reducible rfl); simp only [Act.put, List.setIfInBounds_toArray, List.getElem_toArray, List.getElem_cons_succ, List.getElem_cons_zero, List.set_cons_succ, List.set_cons_zero])
      refine HoistK.nil_ ?_
      simp only [opsAt, List.filterMap_cons, List.filterMap_nil, List.getElem?_toArray, List.getElem?_cons_succ, List.getElem?_cons_zero]
      refine EffS.cons_ fun _ hQ => ?_
      go_wp2_with fail
      refine hQ _ _ ⟨⟨⟨hx7, hy7⟩, hf67.sub fun b hb _ => hb.1⟩, hf7.sub fun b hb _ => hb.1⟩ (EffS.nil_ fun _ hQ => ?_)
      go_wp2_with fail
      go_ret
      exact ⟨rfl, HB7.out⟩
end Go.Proofs.YtjjgmkfkmckkoaaDoor

/- Codec: reference: a record. -/
namespace Go.Proofs.YtjjgmkfkmckkoaaDoor
open Go.RowKit Go.Maps

set_option maxHeartbeats 8000000 in
set_option maxRecDepth 100000 in
theorem rRecord_any (w : World) {S : Nat → Prop} {x : tRecord.El} {cs : List Value} (h : tRecord.rep w S x cs) (hl : (tRecord.enc x).length ≤ 1099511627776) :
    Calls Tryd.prog 53 #[.agg cs.toArray] w fun e w' => ∃ v', e = .returned v' ∧ Fresh w w' v' (tRecord.enc x) := by
  obtain ⟨x0, x1, x2, _⟩ := x
  obtain ⟨c0, _, rfl, ⟨rfl, _⟩, c1, _, rfl, r1, c2, _, rfl, r2, rfl⟩ := h
  obtain ⟨y1, rfl⟩ : ∃ y, c1 = [y] := by obtain ⟨v, _, e, _⟩ := r1; exact ⟨v, e⟩
  obtain ⟨y2, rfl⟩ : ∃ y, c2 = [y] := by obtain ⟨v, _, e, _⟩ := r2; exact ⟨v, e⟩
  obtain ⟨A2, cap2, rfl, hlen2, _⟩ := list_at r2
  have R1 := Lib.hid r1; clear r1
  have R2 := Lib.hid r2; clear r2
  simp only [nk_t]
  obtain ⟨C, hC⟩ : ∃ C, C = [Value.int .i64 x0] ++ ([y1] ++ ([Value.slice A2 (List.length (α := ((Sh.list i64)).El) x2) cap2] ++ ([]))) := ⟨_, rfl⟩
  rw [← hC]
  have hf : ∀ w', Blk w' w.heap.size 63 C.toArray → w'.cell? ⟨w.heap.size, 0, none⟩ = some (.int .i64 x0) ∧ w'.cell? ⟨w.heap.size, 1, none⟩ = some y1 ∧ w'.cell? ⟨w.heap.size, 2, none⟩ = some (.slice A2 (List.length (α := ((Sh.list i64)).El) x2) cap2) := fun w' hb => by
    have := hb.lies [[Value.int .i64 x0], [y1], [Value.slice A2 (List.length (α := ((Sh.list i64)).El) x2) cap2]] [] (by rw [hC]; simp)
    simp only [Lies, List.length_cons, List.length_nil] at this
    obtain ⟨s0, s1, s2, _⟩ := this
    exact ⟨Lies.one s0, Lies.one s1, Lies.one s2⟩
  have HF := Lib.hid hf
  clear hf hC
  have hl' : (joinB [numB x0, (Sh.list i64).enc x1, (Sh.list (Sh.list i64)).enc x2]).length ≤ 1099511627776 := hl
  have HLL := Lib.hid hl'
  clear hl hl'
  have HE2 := Lib.hid (show ((Sh.list (Sh.list i64)).enc x2).length ≤ 1099511627776 from (by have h1 := HLL.out; rw [joinB_length] at h1; have h2 := joinP_mem (l := [numB x0, (Sh.list i64).enc x1, (Sh.list (Sh.list i64)).enc x2]) (x := (Sh.list (Sh.list i64)).enc x2) (by simp); omega))
  have hcn2 : (List.length (α := ((Sh.list i64)).El) x2) ≤ 137438953472 := by
    have h1 := HE2.out
    have h2 := joinP_count (List.map ((Sh.list i64)).enc x2)
    have h3 : ((Sh.list (Sh.list i64)).enc x2).length = 8 + (joinP (List.map ((Sh.list i64)).enc x2)).length := joinB_length _
    rw [List.length_map] at h2
    omega
  have HEJ2 := Lib.hid (show (joinB (List.map ((Sh.list i64)).enc x2)).length ≤ 140737488355328 from by
    have h1 := HE2.out
    have h3 : ((Sh.list (Sh.list i64)).enc x2).length = 8 + (joinP (List.map ((Sh.list i64)).enc x2)).length := joinB_length _
    rw [joinB_length]
    omega)
  go_enter Tryd.func53, Tryd.ntmps53
  go_wp2_with fail
  have hbe := (Below.refl w.heap.size w).alloc (Nat.le_refl _) (.cells C.toArray 63)
  have hal0 : Below (w.heap.size + 1) (w.alloc (.cells C.toArray 63)) ((w.alloc (.cells C.toArray 63)).alloc (.cells #[] 28)) := (Below.refl _ _).alloc (by simp) _
  have hMb : w.heap.size < w.heap.size + 1 := by omega
  go_loopw [3, 4] (fun o i wr => ∃ k : Nat, k ≤ (List.length (α := ((Sh.list i64)).El) x2) ∧ i = .int .i64 k ∧ Bss wr (fun b => (w.heap.size + 1) ≤ b) (fun b => (w.heap.size + 1) ≤ b) o ((List.take k x2).map ((Sh.list i64)).enc) ∧ Below w.heap.size w wr ∧ (w.heap.size + 1) ≤ wr.heap.size ∧ Blk wr w.heap.size 63 C.toArray) (fun _ i _ => (List.length (α := ((Sh.list i64)).El) x2) - (intOf i).toNat)
  case atStart => exact ⟨0, Nat.zero_le _, rfl, Bss.empty1 w _, hbe.alloc (by simp) _, by simp, ((Blk.new w _ _).alloc _)⟩
  case round =>
    obtain ⟨k, hk, rfl, hB, hbl, hMz, hbox⟩ := hrel
    by_cases hlt : k < (List.length (α := ((Sh.list i64)).El) x2)
    · obtain ⟨R, hR⟩ : ∃ R, R = (List.take k x2).map ((Sh.list i64)).enc := ⟨_, rfl⟩
      rw [← hR] at hB
      have hRl : R.length = k := by rw [hR, List.length_map, List.length_take]; omega
      have hnext : (List.take (k + 1) x2).map ((Sh.list i64)).enc = R ++ [((Sh.list i64)).enc (x2[k]'hlt)] := by rw [List.take_succ_eq_append_getElem hlt, List.map_append, ← hR]; rfl
      obtain ⟨Aa, ca, rfl⟩ := hB.form
      obtain ⟨_, _, e, _, hat⟩ := list_at (Sh.rep_below R2.out hbl)
      injection e with e1 e2 e3
      subst e1 e3
      obtain ⟨b, off, c, rfl, hca, hr, hcl, hblt, _⟩ := hat k hlt
      obtain ⟨x, hx⟩ : ∃ x, x = x2[k]'hlt := ⟨_, rfl⟩
      rw [← hx] at hr hnext
      have hsm2 : (((Sh.list i64)).enc x).length ≤ 1099511627776 := by
        have h1 := joinP_mem (List.mem_map.2 ⟨x2[k]'hlt, List.getElem_mem hlt, rfl⟩ : ((Sh.list i64)).enc (x2[k]'hlt) ∈ List.map ((Sh.list i64)).enc x2)
        have h2 := HE2.out
        have h3 : ((Sh.list (Sh.list i64)).enc x2).length = 8 + (joinP (List.map ((Sh.list i64)).enc x2)).length := joinB_length _
        rw [hx]; omega
      obtain ⟨u, rfl⟩ : ∃ u, c = [u] := by obtain ⟨v, _, e, _⟩ := hr; exact ⟨v, e⟩
      have hcell := Lies.one hca
      have hcell : wr.cell? ⟨b, off + k, none⟩ = some u := by simpa [Sh.cells] using hcell
      have HREP := Lib.hid hr
      have HSM := Lib.hid hsm2
      clear hr hsm2
      have hown : ∀ k, (Value.slice Aa R.length ca).ownBlock = some k → k < wr.heap.size := fun k hk => by obtain ⟨vs, ho, _⟩ := hB; exact own_lt ho hk
      have hbc := (HF.out wr hbox).2.2
      have HB := Lib.hid hB
      have HN := Lib.hid hnext
      have HRL := Lib.hid hRl
      have HOWN := Lib.hid hown
      have HBOX := Lib.hid hbox
      clear hB hca hcl hat hx hR hnext hRl hown hbox
      go_wp2_with fail
      refine (rNums_any _ HREP.out HSM.out).mono ?_
      rintro e w1 ⟨v1, rfl, f1⟩
      have hb1 := hbl.trans (f1.2.mono hbl.size)
      obtain ⟨y, hy⟩ : ∃ y, y = ((Sh.list i64)).enc x := ⟨_, rfl⟩
      have f1 : Fresh wr w1 v1 y := hy ▸ f1
      rw [← hy] at HN
      obtain ⟨A1, c1, rfl⟩ := f1.1.form
      obtain ⟨vs, ho, hS, hr⟩ := HB.out.below f1.2
      have hsz1 := f1.2.size
      have hal : Below w1.heap.size w1 (w1.alloc (.cells #[.slice A1 y.length c1] 28)) := (Below.refl _ w1).alloc (Nat.le_refl _) _
      have HAL := Lib.hid hal
      have HO := Lib.hid (show Own (w1.alloc (.cells #[.slice A1 y.length c1] 28)) _ _ _ _ _ from own_keep ho fun k hk => hal.block k (own_lt ho hk))
      have HS := Lib.hid hS
      have HR := Lib.hid (fun i x u h1 h2 => (hr i x u h1 h2).below hal)
      have HU := Lib.hid ((f1.1.1.below hal).sub (T := fun b => (w.heap.size + 1) ≤ b ∧ (Value.slice Aa R.length ca).ownBlock ≠ some b) fun b hb _ => ⟨Nat.le_trans hMz hb.1, fun e => by have := HOWN.out b e; omega⟩)
      have HS2 := Lib.hid (Cs.of_new w1 28 (size := 1) 1 (cs := [.slice A1 y.length c1]) rfl (by simp only [maxLen]; decide))
      have H63 := Lib.hid (show R.length + 1 ≤ maxLen ∧ (R.length + 1) * 24 ≤ 140737488355328 from by have := HRL.out; refine ⟨by simp only [maxLen]; omega, by omega⟩)
      have HF2 := Lib.hid f1.2
      clear ho hS hr hal f1 hy
      go_wp2_with (at_builtin; refine wpList_app _ rfl _ _ _ rfl Tryd.underlying93 info_row rfl (by decide) HO.out rfl HS2.out rfl (by simp [Value.oneCell']) H63.out.1 H63.out.2 ?_; intro v3 w3 ho3 hg3 hnil3 hat3; clear hnil3; have HO3 := Lib.hid ho3; clear ho3; have HG3 := Lib.hid hg3; clear hg3; have HAT3 := Lib.hid hat3; clear hat3)
      have hzz := HAL.out.size
      have hz3 := HG3.out.size
      have hpush := Bss.push HO.out HS.out HR.out HU.out HO3.out HG3.out HAT3.out (by have := hb1.size; omega)
      rw [← HN.out] at hpush
      have hbA : Below w.heap.size w (w1.alloc (.cells #[.slice A1 y.length c1] 28)) := hb1.trans (HAL.out.mono hb1.size)
      have hbw3 := HF2.out.trans (HAL.out.mono hsz1)
      refine ⟨⟨k + 1, by omega, by push_cast; rfl, hpush, hbA.trans (HG3.out.below hbA.size fun b h => by have h1 := HS.out b h; have h2 := HBOX.out.lt; omega), by omega, (HBOX.out.below hbw3 HBOX.out.lt).chg HG3.out fun h => by have h1 := HS.out _ h; have h2 := hMb; omega⟩, ?_⟩
      simp only [intOf]
      omega
    · have hk' : k = (List.length (α := ((Sh.list i64)).El) x2) := by omega
      rw [hk', List.take_length] at hB
      have hsm : ∀ x ∈ List.map ((Sh.list i64)).enc x2, x.length ≤ 140737488355328 := fun x hx => by
        have h1 := joinP_mem hx
        have h2 := HE2.out
        have h3 : ((Sh.list (Sh.list i64)).enc x2).length = 8 + (joinP (List.map ((Sh.list i64)).enc x2)).length := joinB_length _
        omega
      have hEJ2 := HEJ2.out
      obtain ⟨R2m, hR2m⟩ : ∃ R, R = List.map ((Sh.list i64)).enc x2 := ⟨_, rfl⟩
      rw [← hR2m] at hB hsm hEJ2
      have HRm2 := Lib.hid hR2m
      have HEK2 := Lib.hid hEJ2
      clear hR2m hEJ2
      have V2 := Lib.hid (((hB.read hsm).lt_ (T := fun _ => True) fun _ _ => trivial).subs (T := fun b => b < wr.heap.size) fun b hb _ => hb.2)
      obtain ⟨Ao2, co2, rfl⟩ := hB.form
      have hbc2 := (HF.out wr hbox).2.2
      clear hB hsm
      obtain ⟨w_2, hw_2⟩ : ∃ w', w' = wr := ⟨_, rfl⟩
      subst hw_2
      have HBX2 := Lib.hid hbox; have hmb2 := hbox.lt; clear hbox
      go_wp2_with fail
      clear hlt hk hk'
      have hsz := HBX2.out.lt
      have hb0 : Blk w_2.drew w.heap.size 63 C.toArray := HBX2.out.drew
      have hbw : Below w.heap.size w w_2.drew := (hbl).drew
      refine wp_region_hoist [0, 1, 2, 4, 5, 7] [3, 6, 8] [9, 10, 11] (fun w' => Blk w' w.heap.size 63 C.toArray)
        (by kernel_rfl) (by kernel_rfl) (by kernel_rfl) (by kernel_rfl) (by kernel_rfl) (by kernel_rfl) hb0 ?_
      (refine HoistK.yes (by rfl) (by kernel_rfl) ⟨?_, fun w' hSw => ?_, ?_⟩; rotate_left; (· go_simp; try with_reducible rfl); simp only [Act.put, List.setIfInBounds_toArray, List.getElem_toArray, List.getElem_cons_zero, List.set_cons_succ, List.set_cons_zero])
      (refine HoistK.yes (by rfl) (by kernel_rfl) ⟨?_, fun w' hSw => ?_, ?_⟩; rotate_left; (· obtain ⟨s0, s1, s2⟩ := HF.out _ hSw; go_simp; try with_reducible rfl); simp only [Act.put, List.setIfInBounds_toArray, List.getElem_toArray, List.getElem_cons_succ, List.getElem_cons_zero, List.set_cons_succ, List.set_cons_zero])
      (refine HoistK.yes (by rfl) (by kernel_rfl) ⟨?_, fun w' hSw => ?_, ?_⟩; rotate_left; (· go_simp; try with_reducible rfl); simp only [Act.put, List.setIfInBounds_toArray, List.getElem_toArray, List.getElem_cons_succ, List.getElem_cons_zero, List.set_cons_succ, List.set_cons_zero])
      (refine HoistK.yes (by rfl) (by kernel_rfl) ⟨?_, fun w' hSw => ?_, ?_⟩; rotate_left; (· go_simp; try with_reducible rfl); simp only [Act.put, List.setIfInBounds_toArray, List.getElem_toArray, List.getElem_cons_succ, List.getElem_cons_zero, List.set_cons_succ, List.set_cons_zero])
      (refine HoistK.yes (by rfl) (by kernel_rfl) ⟨?_, fun w' hSw => ?_, ?_⟩; rotate_left; (· obtain ⟨s0, s1, s2⟩ := HF.out _ hSw; go_simp; try with_reducible rfl); simp only [Act.put, List.setIfInBounds_toArray, List.getElem_toArray, List.getElem_cons_succ, List.getElem_cons_zero, List.set_cons_succ, List.set_cons_zero])
      (refine HoistK.yes (by rfl) (by kernel_rfl) ⟨?_, fun w' hSw => ?_, ?_⟩; rotate_left; (· go_simp; try with_reducible rfl); simp only [Act.put, List.setIfInBounds_toArray, List.getElem_toArray, List.getElem_cons_succ, List.getElem_cons_zero, List.set_cons_succ, List.set_cons_zero])
      refine HoistK.nil_ ?_
      simp only [opsAt, List.filterMap_cons, List.filterMap_nil, List.getElem?_toArray, List.getElem?_cons_succ, List.getElem?_cons_zero]
      have g0 : Got w_2.drew w_2.drew [] [] := Got.start (Below.refl _ _)
      refine Effects.cons_ fun _ hQ1 => ?_
      go_wp2_with fail
      refine (rNumI_any _ _).mono ?_
      rintro e u1 ⟨v1, rfl, f1⟩
      have g1 := g0.step f1
      have hb1 := hb0.below f1.2 hb0.lt
      clear f1
      go_wp2_with fail
      refine hQ1 _ _ hb1 (Effects.cons_ fun _ hQ2 => ?_)
      clear hQ1 hb0 g0
      go_wp2_with fail
      refine (rNums_any _ (Sh.rep_below R1.out (hbw.trans (g1.1.mono hbw.size))) (by have h1 := HLL.out; rw [joinB_length] at h1; have h2 := joinP_mem (l := [numB x0, (Sh.list i64).enc x1, (Sh.list (Sh.list i64)).enc x2]) (x := (Sh.list i64).enc x1) (by simp); omega)).mono ?_
      rintro e u2 ⟨v2, rfl, f2⟩
      have g2 := g1.step f2
      have hb2 := hb1.below f2.2 hb1.lt
      clear f2
      go_wp2_with fail
      refine hQ2 _ _ hb2 (Effects.cons_ fun _ hQ3 => ?_)
      clear hQ2 hb1 g1
      go_wp2_with fail
      refine (rJoin_any _ (V2.out.drew_.below g2.1) HEK2.out (fun b hb => Nat.lt_of_lt_of_le hb g2.1.size)).mono ?_
      rintro e u3 ⟨v3, rfl, f3⟩
      rw [HRm2.out] at f3
      have f3 : Fresh _ _ _ ((Sh.list (Sh.list i64)).enc x2) := f3
      have g3 := g2.step f3
      have hb3 := hb2.below f3.2 hb2.lt
      clear f3
      go_wp2_with fail
      refine hQ3 _ _ hb3 (Effects.nil_ fun _ hQ4 => ?_)
      clear hQ3 hb2 g2
      have hcs : ∀ v ∈ [v1, v2, v3], v.cells = #[v] := fun v hv => by
        obtain ⟨i, hi, rfl⟩ := List.getElem_of_mem hv
        obtain ⟨y, _, hr⟩ := g3.2.get i hi
        obtain ⟨A, c, e⟩ := hr.form
        have e' : [v1, v2, v3][i] = .slice A y.length c := e
        rw [e']; rfl
      refine wpList_rows rfl 3 _ rfl [v1, v2, v3] rfl (by decide) (by decide) hcs (by simp [Act.eval]) ?_
      have hr : Bsr (u3.alloc (.cells [v1, v2, v3].toArray 28)) (fun b => b < u3.heap.size + 1) (.slice (some ⟨u3.heap.size, 0, none⟩) 3 3) [numB x0, (Sh.list i64).enc x1, (Sh.list (Sh.list i64)).enc x2] := g3.row (by simp [maxLen]) 28
      have hj := rJoin_any _ hr (by have := HLL.out; omega) (fun b hb => by simpa using hb)
      have hbb : Below w.heap.size w (u3.alloc (.cells [v1, v2, v3].toArray 28)) := (hbw.trans (g3.1.mono hbw.size)).alloc (hbw.trans (g3.1.mono hbw.size)).size _
      have HJ := Lib.hid hj
      have HBB := Lib.hid hbb
      clear hj hbb hr g3 hcs
      go_wp2_with fail
      refine HJ.out.mono ?_
      rintro e uz ⟨vz, rfl, fz⟩
      go_wp2_with fail
      go_ret
      exact ⟨vz, rfl, fz.1.sub fun b hb _ => ⟨Nat.le_trans HBB.out.size hb.1, hb.2⟩, HBB.out.trans (fz.2.mono HBB.out.size)⟩

end Go.Proofs.YtjjgmkfkmckkoaaDoor

/- Codec's laws: record: written as the document says, read back as it was. Printed by genLaw.py. -/
namespace Go.Proofs.YtjjgmkfkmckkoaaDoor
open Go.RowKit Go.Maps
attribute [-simp] Tryd.isAgg23 Tryd.typeInfo23 Tryd.isAgg63 Tryd.typeInfo63

set_option maxHeartbeats 8000000 in
set_option maxRecDepth 100000 in
theorem lawRecord_any (w : World) {S : Nat → Prop} {x : tRecord.El} {cs : List Value} {sent : Value} (h : tRecord.rep w S x cs) (h1 : ∀ v ∈ cs, v.oneCell' = true) (hS : ∀ b, S b → b < w.heap.size) (hl : (tRecord.enc x).length ≤ 1099511627776) (hp : Pk w sent) :
    Calls Tryd.prog 18 #[.agg cs.toArray] w fun e w' => e = .returned (.bool true) ∧ Below w.heap.size w w' := by
  have hpos : 0 < (tRecord.enc x).length := by
    show 0 < (joinB _).length
    rw [joinB_length]; omega
  have hsize := Sh.rep_size _ _ _ h
  have hwf := Sh.rep_wf _ _ _ h
  have hdec := Sh.dec_enc tRecord x hwf (by omega)
  have HI := Lib.hid (show (Tryd.prog.info? 63).map (·.size) = some cs.length from by rw [hsize]; kernel_rfl)
  obtain ⟨bs, hbs⟩ : ∃ bs, bs = tRecord.enc x := ⟨_, rfl⟩
  have hal1 := (Below.refl w.heap.size w).alloc (Nat.le_refl _) (.cells cs.toArray 63)
  have h0 := Sh.rep_below h hal1
  have hA := record_any _ h0 hl
  rw [← hbs] at hl hpos hdec hA
  have HA := Lib.hid hA
  have HX := Lib.hid (Blk.new w 63 cs.toArray)
  have HB1 := Lib.hid hal1
  have HR := Lib.hid h
  have HL := Lib.hid hl
  have HBS := Lib.hid hbs
  have HS := Lib.hid hS
  have HP := Lib.hid hp
  have HD := Lib.hid hdec
  have H1 := Lib.hid h1
  clear h hl hbs hsize hwf hdec hal1 h0 hA hS hp h1
  go_enter Tryd.func18, Tryd.ntmps18
  go_wp2_with (refine wpList_load_blk' rfl 63 _ rfl HX.out rfl Tryd.underlying63 rfl HI.out ?_)
  refine HA.out.mono ?_
  rintro e w2 ⟨v, rfl, f2⟩
  obtain ⟨A, cap, rfl⟩ := f2.1.form
  have hB2 := HB1.out.trans (f2.2.mono HB1.out.size)
  have HX2 := Lib.hid (HX.out.below f2.2 HX.out.lt)
  have HF2 := Lib.hid f2
  have HB2 := Lib.hid hB2
  clear hB2 f2 HA HX
  go_wp2_with fail
  -- REGION 2
  have hx := HX2.out.drew
  have hf := HF2.out.1.drew
  have hb := HB2.out.drew
  refine wp_region_segsV [([0, 1, 2], [3]), ([4, 5], [])] (by kernel_rfl) (by kernel_rfl) (by kernel_rfl) (by kernel_rfl) (SegV.mk (fun w' => Blk w' w.heap.size 63 cs.toArray ∧ Bs w' (fun b => w.heap.size + 1 ≤ b) (.slice A bs.length cap) bs) (fun _ _ => trivial) ⟨hx, hf.sub fun b hb _ => by simpa using hb.1⟩ ?_)
  (refine HoistK.yes (by rfl) (by kernel_rfl) ⟨?_, fun w' hSw => ?_, ?_⟩; rotate_left; (· go_simp; try with_reducible rfl); simp only [Act.put, List.setIfInBounds_toArray, List.getElem_toArray, List.getElem_cons_zero, List.set_cons_succ, List.set_cons_zero])
  (refine HoistK.yes (by rfl) (by kernel_rfl) ⟨?_, fun w' hSw => ?_, ?_⟩; rotate_left; (· have e1 := run_str hSw.2 Tryd.underlying28 Tryd.underlying5 Tryd.underlying9; go_simp; try with_reducible rfl); simp only [Act.put, List.setIfInBounds_toArray, List.getElem_toArray, List.getElem_cons_succ, List.getElem_cons_zero, List.set_cons_succ, List.set_cons_zero])
  (refine HoistK.load (by rfl) (by kernel_rfl) 63 _ rfl w.heap.size 0 rfl cs _ (fun w' hw => hw.1.range) Tryd.underlying63 rfl HI.out ?_; simp only [Act.put, List.setIfInBounds_toArray, List.getElem_toArray, List.getElem_cons_succ, List.getElem_cons_zero, List.set_cons_succ, List.set_cons_zero])
  refine HoistK.nil_ ?_
  simp only [opsAt, List.filterMap_cons, List.filterMap_nil, List.getElem?_toArray, List.getElem?_cons_succ, List.getElem?_cons_zero]
  refine EffS.cons_ fun _ hQ => ?_
  have hr := rRecord_any _ (Sh.rep_below HR.out hb) (by rw [← HBS.out]; exact HL.out)
  rw [← HBS.out] at hr
  have HRR := Lib.hid hr
  clear hr hx hf hb
  go_wp2_with fail
  refine HRR.out.mono ?_
  rintro e w3 ⟨v3, rfl, f3⟩
  obtain ⟨A3, c3, rfl⟩ := f3.1.form
  have hx := HX2.out.drew.below f3.2 HX2.out.drew.lt
  have hf := HF2.out.1.drew.below f3.2
  have hb := HB2.out.drew.trans (f3.2.mono HB2.out.drew.size)
  have HX3 := Lib.hid hx
  have HF3 := Lib.hid hf
  have HB3 := Lib.hid hb
  have HS23 := Lib.hid (show Below w2.heap.size w2 w3 from ((Below.refl _ w2).drew).trans f3.2)
  have hf3 := f3.1
  clear f3 HRR HX2 HF2 HB2
  go_wp2_with fail
  refine hQ _ _ ⟨hx, hf.sub fun b hb _ => by simpa using hb.1⟩ (EffS.nil_ (SegV.mk (fun w' => (Blk w' w.heap.size 63 cs.toArray ∧ Bs w' (fun b => w.heap.size + 1 ≤ b) (.slice A bs.length cap) bs) ∧ Bs w' (fun b => w2.heap.size ≤ b) (.slice A3 bs.length c3) bs) (fun _ h => h.1) ⟨⟨hx, hf.sub fun b hb _ => by simpa using hb.1⟩, hf3.sub fun b hb _ => hb.1⟩ ?_))
  (refine HoistK.yes (by rfl) (by kernel_rfl) ⟨?_, fun w' hSw => ?_, ?_⟩; rotate_left; (· have e1 := run_str hSw.2 Tryd.underlying28 Tryd.underlying5 Tryd.underlying9; go_simp; try with_reducible rfl); simp only [Act.put, List.setIfInBounds_toArray, List.getElem_toArray, List.getElem_cons_succ, List.getElem_cons_zero, List.set_cons_succ, List.set_cons_zero])
  (refine HoistK.yes (by rfl) (by kernel_rfl) ⟨?_, fun w' hSw => ?_, ?_⟩; rotate_left; (· go_simp; try with_reducible rfl); simp only [Act.put, List.setIfInBounds_toArray, List.getElem_toArray, List.getElem_cons_succ, List.getElem_cons_zero, List.set_cons_succ, List.set_cons_zero])
  refine HoistK.nil_ ?_
  simp only [opsAt, List.filterMap_nil, List.getElem?_toArray]
  refine EffS.nil_ fun _ hQ => ?_
  go_wp2_with fail
  refine (ReadRecord_any _ HF3.out (HP.out.below HB3.out)).mono ?_
  rintro e w4 ⟨hb4, C, n, rfl, hCl, hC1, hn⟩
  have hsz3 := HB3.out.size
  have HX4 := Lib.hid (HX3.out.below hb4 HX3.out.lt)
  have HF4 := Lib.hid (HF3.out.below hb4)
  have HB4 := Lib.hid (HB3.out.trans (hb4.mono HB3.out.size))
  have hs34 := hb4.size
  have HS34 := Lib.hid hb4
  have HCL := Lib.hid hCl
  have HC1 := Lib.hid hC1
  have HN := Lib.hid hn
  have HCI := Lib.hid (show (Tryd.prog.info? 63).map (·.size) = some C.length from by rw [hCl]; kernel_rfl)
  have HZL := Lib.hid (show zFRecord.length = C.length from by rw [hCl]; rfl)
  clear hCl hC1 hn HF3 HX3 HB3 hb4
  by_cases hbig : 262144 < bs.length
  · obtain rfl : n = 4 := by
      rcases HN.out with ⟨_, h⟩ | ⟨h, _⟩
      · exact h
      · omega
    go_wp2_with (refine wpList_store_blk (cs0 := zFRecord) (cs := C) rfl 63 _ _ rfl (Blk.new w4 _ _) rfl rfl HZL.out HCI.out HC1.out ?_; intro w5 hy5 hc5; have HY5 := Lib.hid hy5; have HC5 := Lib.hid (show Chg (fun _ => False) w4 w5 from ((Chg.refl _ w4).alloc _).trans hc5 fun b h => .inr (Nat.le_of_eq h.symm)); clear hy5 hc5)
    go_ret
    exact ⟨rfl, HB4.out.trans (HC5.out.below HB4.out.size fun b h => h.elim)⟩
  obtain ⟨hrep, rfl⟩ : tRecord.rep w4 (fun b => w3.heap.size ≤ b) x C ∧ n = 0 := by
    rcases HN.out with ⟨h, _⟩ | ⟨_, ⟨y, h1, h2, h3⟩ | ⟨h1, _⟩⟩
    · omega
    · rw [HD.out] at h1
      injection h1 with h1
      subst h1
      exact ⟨h3, h2⟩
    · rw [HD.out] at h1; cases h1
  have HREP := Lib.hid hrep
  clear hrep HN
  go_wp2_with (refine wpList_store_blk (cs0 := zFRecord) (cs := C) rfl 63 _ _ rfl (Blk.new w4 _ _) rfl rfl HZL.out HCI.out HC1.out ?_; intro w5 hy5 hc5; have HY5 := Lib.hid hy5; have HC5 := Lib.hid (show Chg (fun _ => False) w4 w5 from ((Chg.refl _ w4).alloc _).trans hc5 fun b h => .inr (Nat.le_of_eq h.symm)); clear hy5 hc5)
  have HF5 := Lib.hid (HF4.out.chg HC5.out fun _ _ h => h)
  obtain ⟨B, off, rfl, hBw, hBlt, cB, tB, hbB, hcell⟩ : ∃ B off, A = some ⟨B, off, none⟩ ∧ w.heap.size + 1 ≤ B ∧ B < w3.heap.size ∧ ∃ cB tB, Blk w5 B tB cB ∧ ∀ j, j < bs.length → ∃ y : Nat, y < 256 ∧ cB[off + j]? = some (.int .u8 y) := by
    obtain ⟨⟨hn, A', c', e, _, _, hp⟩, _⟩ := HF5.out
    injection e with e
    subst e
    obtain ⟨B, off, rfl, ⟨hw1, cs', t', hth⟩, hlt, hc⟩ := hp hpos
    have hB2 : B < w2.heap.size := (Array.getElem?_eq_some_iff.1 hth).1
    have hB3 := Nat.lt_of_lt_of_le hB2 HS23.out.size
    have h5 : Blk w5 B t' cs' := by
      show w5.heap[B]? = _
      rw [HC5.out.block B (Nat.lt_of_lt_of_le hB3 hs34) id, HS34.out.block B hB3, HS23.out.block B hB2]
      exact hth
    refine ⟨B, off, rfl, by simpa using hw1, hB3, cs', t', h5, fun j hj => ⟨bs[j].toNat, UInt8.toNat_lt _, ?_⟩⟩
    rw [← h5.cell, hc j _ (u8s_get bs j hj)]
  go_loopw [27] (fun i wr => ∃ k : Nat, k ≤ bs.length ∧ i = .int .i64 k ∧ (∃ c, Hid (Blk wr B tB c ∧ ∀ j, j < bs.length → ∃ y : Nat, y < 256 ∧ c[off + j]? = some (.int .u8 y))) ∧ Chg (fun b => b = B) w5 wr) (fun i _ => bs.length - (intOf i).toNat)
  case atStart => exact ⟨0, Nat.zero_le _, rfl, ⟨cB, Lib.hid ⟨hbB, hcell⟩⟩, Chg.refl _ _⟩
  case round =>
    obtain ⟨k, hk, rfl, ⟨c, hC⟩, hch⟩ := hrel
    by_cases hlt : k < bs.length
    · obtain ⟨y, hy, hc⟩ := hC.out.2 k hlt
      have hcc : wr.cell? ⟨B, off + k, none⟩ = some (.int .u8 y) := by rw [hC.out.1.cell]; exact hc
      have hz := hC.out.1.frozen (off + k)
      go_wp2
      refine ⟨⟨k + 1, by omega, by push_cast; rfl, ⟨c.setIfInBounds (off + k) _, Lib.hid ⟨hC.out.1.set_ _ _, fun j hj => ?_⟩⟩, hch.setIn _ _⟩, by simp only [intOf]; omega⟩
      by_cases e : j = k
      · subst e
        refine ⟨y ^^^ 85, Nat.xor_lt_two_pow (n := 8) (by omega) (by omega), ?_⟩
        rw [Array.getElem?_setIfInBounds_self_of_lt (Array.getElem?_eq_some_iff.1 hc).1]
        have := u8_xor_nat y 85 hy (by omega)
        exact congrArg (fun z => some (Value.int .u8 z)) this
      · obtain ⟨y', h1, h2⟩ := hC.out.2 j hj
        exact ⟨y', h1, by rw [Array.getElem?_setIfInBounds_ne (by omega)]; exact h2⟩
    · have hx := ((HX4.out.chg HC5.out id).chg hch fun e => by have e : w.heap.size = B := e; omega).drew
      have hy := (HY5.out.chg hch fun e => by have e : w4.heap.size = B := e; omega).drew
      have hb5 := HB4.out.trans (HC5.out.below HB4.out.size fun b h => h.elim)
      have hbr := (hb5.trans (hch.below hb5.size fun b h => by have h : b = B := h; omega)).drew
      have hrx := Sh.rep_below HR.out hbr
      have hry : tRecord.rep wr.drew (fun b => w3.heap.size ≤ b) x C := Sh.rep_chg (Sh.rep_chg HREP.out HC5.out fun _ _ h => h) hch.drew fun b h1 h2 => by have h2 : b = B := h2; omega
      have HRX := Lib.hid hrx
      have HRY := Lib.hid hry
      have HBR := Lib.hid hbr
      have hl : (tRecord.enc x).length ≤ 1099511627776 := by rw [← HBS.out]; exact HL.out
      clear hC hbB hcell
      go_wp2_with fail
      refine wp_region_segsV [([0, 1, 2, 3, 6], [4]), ([5], [7]), ([8, 9, 10], [11])] (by kernel_rfl) (by kernel_rfl) (by kernel_rfl) (by kernel_rfl) (SegV.mk (fun w' => Blk w' w.heap.size 63 cs.toArray ∧ Blk w' w4.heap.size 63 C.toArray) (fun _ _ => trivial) ⟨hx, hy⟩ ?_)
      (refine HoistK.yes (by rfl) (by kernel_rfl) ⟨?_, fun w' hSw => ?_, ?_⟩; rotate_left; (· go_simp; try with_reducible rfl); simp only [Act.put, List.setIfInBounds_toArray, List.getElem_toArray, List.getElem_cons_zero, List.set_cons_succ, List.set_cons_zero])
      (refine HoistK.yes (by rfl) (by kernel_rfl) ⟨?_, fun w' hSw => ?_, ?_⟩; rotate_left; (· go_simp; try with_reducible rfl); simp only [Act.put, List.setIfInBounds_toArray, List.getElem_toArray, List.getElem_cons_succ, List.getElem_cons_zero, List.set_cons_succ, List.set_cons_zero])
      (refine HoistK.yes (by rfl) (by kernel_rfl) ⟨?_, fun w' hSw => ?_, ?_⟩; rotate_left; (· go_simp; try with_reducible rfl); simp only [Act.put, List.setIfInBounds_toArray, List.getElem_toArray, List.getElem_cons_succ, List.getElem_cons_zero, List.set_cons_succ, List.set_cons_zero])
      (refine HoistK.load (by rfl) (by kernel_rfl) 63 _ rfl w4.heap.size 0 rfl C _ (fun w' hw => hw.2.range) Tryd.underlying63 rfl HCI.out ?_; simp only [Act.put, List.setIfInBounds_toArray, List.getElem_toArray, List.getElem_cons_succ, List.getElem_cons_zero, List.set_cons_succ, List.set_cons_zero])
      (refine HoistK.load (by rfl) (by kernel_rfl) 63 _ rfl w.heap.size 0 rfl cs _ (fun w' hw => hw.1.range) Tryd.underlying63 rfl HI.out ?_; simp only [Act.put, List.setIfInBounds_toArray, List.getElem_toArray, List.getElem_cons_succ, List.getElem_cons_zero, List.set_cons_succ, List.set_cons_zero])
      refine HoistK.nil_ ?_
      simp only [opsAt, List.filterMap_cons, List.filterMap_nil, List.getElem?_toArray, List.getElem?_cons_succ, List.getElem?_cons_zero]
      refine EffS.cons_ fun _ hQ => ?_
      have HC1' := Lib.hid (rRecord_any _ HRY.out hl)
      go_wp2_with fail
      refine HC1'.out.mono ?_
      rintro e w6 ⟨v6, rfl, f6⟩
      rw [← HBS.out] at f6
      obtain ⟨A6, c6, rfl⟩ := f6.1.form
      have hx6 := hx.below f6.2 hx.lt
      have hy6 := hy.below f6.2 hy.lt
      have HB6 := Lib.hid (HBR.out.trans (f6.2.mono HBR.out.size))
      have hf6 := f6.1
      clear f6 HC1'
      go_wp2_with fail
      refine hQ _ _ ⟨hx6, hy6⟩ (EffS.nil_ (SegV.mk (fun w' => (Blk w' w.heap.size 63 cs.toArray ∧ Blk w' w4.heap.size 63 C.toArray) ∧ Bs w' (fun b => wr.heap.size ≤ b) (.slice A6 bs.length c6) bs) (fun _ h => h.1) ⟨⟨hx6, hy6⟩, hf6.sub fun b hb _ => hb.1⟩ ?_))
      (refine HoistK.yes (by rfl) (by kernel_rfl) ⟨?_, fun w' hSw => ?_, ?_⟩; rotate_left; (· have e1 := run_str hSw.2 Tryd.underlying28 Tryd.underlying5 Tryd.underlying9; go_simp; try with_reducible rfl); simp only [Act.put, List.setIfInBounds_toArray, List.getElem_toArray, List.getElem_cons_succ, List.getElem_cons_zero, List.set_cons_succ, List.set_cons_zero])
      refine HoistK.nil_ ?_
      simp only [opsAt, List.filterMap_cons, List.filterMap_nil, List.getElem?_toArray, List.getElem?_cons_succ, List.getElem?_cons_zero]
      refine EffS.cons_ fun _ hQ => ?_
      have HC2' := Lib.hid (rRecord_any _ (Sh.rep_below HR.out HB6.out) hl)
      go_wp2_with fail
      refine HC2'.out.mono ?_
      rintro e w7 ⟨v7, rfl, f7⟩
      rw [← HBS.out] at f7
      obtain ⟨A7, c7, rfl⟩ := f7.1.form
      have hx7 := hx6.below f7.2 hx6.lt
      have hy7 := hy6.below f7.2 hy6.lt
      have HB7 := Lib.hid (HB6.out.trans (f7.2.mono HB6.out.size))
      have hf67 := hf6.below f7.2
      have hf7 := f7.1
      clear f7 HC2'
      go_wp2_with fail
      refine hQ _ _ ⟨⟨hx7, hy7⟩, hf67.sub fun b hb _ => hb.1⟩ (EffS.nil_ (SegV.mk (fun w' => ((Blk w' w.heap.size 63 cs.toArray ∧ Blk w' w4.heap.size 63 C.toArray) ∧ Bs w' (fun b => wr.heap.size ≤ b) (.slice A6 bs.length c6) bs) ∧ Bs w' (fun b => w6.heap.size ≤ b) (.slice A7 bs.length c7) bs) (fun _ h => h.1) ⟨⟨⟨hx7, hy7⟩, hf67.sub fun b hb _ => hb.1⟩, hf7.sub fun b hb _ => hb.1⟩ ?_))
      (refine HoistK.yes (by rfl) (by kernel_rfl) ⟨?_, fun w' hSw => ?_, ?_⟩; rotate_left; (· have e1 := run_str hSw.2 Tryd.underlying28 Tryd.underlying5 Tryd.underlying9; go_simp; try with_reducible rfl); simp only [Act.put, List.setIfInBounds_toArray, List.getElem_toArray, List.getElem_cons_succ, List.getElem_cons_zero, List.set_cons_succ, List.set_cons_zero])
      (refine HoistK.yes (by rfl) (by kernel_rfl) ⟨?_, fun w' hSw => ?_, ?_⟩; rotate_left; (· go_simp; try with_reducible rfl); simp only [Act.put, List.setIfInBounds_toArray, List.getElem_toArray, List.getElem_cons_succ, List.getElem_cons_zero, List.set_cons_succ, List.set_cons_zero])
      (refine HoistK.yes (by rfl) (by kernel_rfl) ⟨?_, fun w' hSw => ?_, ?_⟩; rotate_left; (· go_simp; try with_reducible rfl); simp only [Act.put, List.setIfInBounds_toArray, List.getElem_toArray, List.getElem_cons_succ, List.getElem_cons_zero, List.set_cons_succ, List.set_cons_zero])
      refine HoistK.nil_ ?_
      simp only [opsAt, List.filterMap_cons, List.filterMap_nil, List.getElem?_toArray, List.getElem?_cons_succ, List.getElem?_cons_zero]
      refine EffS.cons_ fun _ hQ => ?_
      go_wp2_with fail
      refine hQ _ _ ⟨⟨⟨hx7, hy7⟩, hf67.sub fun b hb _ => hb.1⟩, hf7.sub fun b hb _ => hb.1⟩ (EffS.nil_ fun _ hQ => ?_)
      go_wp2_with fail
      go_ret
      exact ⟨rfl, HB7.out⟩
end Go.Proofs.YtjjgmkfkmckkoaaDoor
