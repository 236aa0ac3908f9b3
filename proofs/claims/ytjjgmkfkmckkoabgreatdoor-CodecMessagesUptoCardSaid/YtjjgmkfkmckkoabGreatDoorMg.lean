/- Texts joined: CgF CgS CsL. -/
import Derived.Test.YtjjgmkfkmckkoabGreatDoorMb
import Derived.Test.YtjjgmkfkmckkoabGreatDoorMe
import Derived.Test.YtjjgmkfkmckkoabGreatDoorMc
import Derived.Laws.BitsAllLaws
/- Codec: a message read. -/
namespace Go.Proofs.YtjjgmkfkmckkoabGreatDoor
open Go.RowKit Go.Maps
attribute [-simp] Tryz.isAgg24 Tryz.typeInfo24 Tryz.isAgg48 Tryz.typeInfo48

theorem info_readMessage : (Tryz.prog.info? 48).map (fun i => (i.zero.map (fun z => z.cells.size))) = some (some 40) := by kernel_rfl
theorem size_readMessage : (Tryz.prog.info? 48).map (·.size) = some 40 := by kernel_rfl
theorem places_readMessage : ((match Tryz.prog.underlying 48 with | some (.struct fields) => fields.toList.mapM (fun f => (Tryz.prog.info? f.type).map fun i => (f.offset, i.size)) | _ => none)) = some [(0, 1), (1, 1), (2, 1), (3, 32), (35, 1), (36, 1), (37, 1), (38, 1), (39, 1)] := by kernel_rfl
set_option maxHeartbeats 4000000 in
set_option maxRecDepth 100000 in
theorem readMessage_any (w : World) {S : Nat → Prop} {v sent : Value} {bs : List UInt8} (h : Bs w S v bs) (hlen : bs.length ≤ 262144) (hg : Gl w sent) :
    Calls Tryz.prog 24 #[v] w (ReadOut (.tup (.cons i64 (.cons i64 (.cons i64 (.cons .dig (.cons (.list tBlock) (.cons (.list tVote) (.cons (.list tTimeout) (.cons (.list tCommit) (.cons (.list tTx) .nil)))))))))) w sent bs) := by
  have hal := (Below.refl w.heap.size w).alloc (Nat.le_refl _) (.cells (([.int .i64 0, .int .i64 0, .int .i64 0] ++ List.replicate 32 (.int .u8 0) ++ [.slice none 0 0, .slice none 0 0, .slice none 0 0, .slice none 0 0, .slice none 0 0] : List Value)).toArray 48)
  have HS := Lib.hid (psplit_any _ (h.below hal) (by omega) (hg.below hal) 9 (by omega) ⟨#[97, 32, 109, 101, 115, 115, 97, 103, 101]⟩)
  have HN := Lib.hid (Blk.new w 48 (([.int .i64 0, .int .i64 0, .int .i64 0] ++ List.replicate 32 (.int .u8 0) ++ [.slice none 0 0, .slice none 0 0, .slice none 0 0, .slice none 0 0, .slice none 0 0] : List Value)).toArray)
  have HAL := Lib.hid hal
  obtain ⟨A, cap, rfl⟩ := h.form
  clear h hg hal
  go_enter Tryz.func24, Tryz.ntmps24
  go_wp2_with fail
  refine HS.out.mono ?_
  rintro e w1 ⟨g, rows, bad, rfl, hgw, hb1, hp, hn, hrl, hs⟩
  obtain ⟨r0, r1, r2, r3, r4, r5, r6, r7, r8, rfl⟩ : ∃ r0 r1 r2 r3 r4 r5 r6 r7 r8, rows = [r0, r1, r2, r3, r4, r5, r6, r7, r8] := by
    match rows, hn with
    | [r0, r1, r2, r3, r4, r5, r6, r7, r8], _ => exact ⟨r0, r1, r2, r3, r4, r5, r6, r7, r8, rfl⟩
  have HK := Lib.hid (HN.out.below hb1 (by simp))
  have hgw' : w.heap.size + 1 ≤ g := by simpa using hgw
  have hz1 : w.heap.size + 1 ≤ w1.heap.size := by simpa using hb1.size
  have HB1 := Lib.hid (HAL.out.trans (hb1.mono (by simp)))
  have HSS := Lib.hid hs
  have HRL := Lib.hid (show ∀ x ∈ [r0, r1, r2, r3, r4, r5, r6, r7, r8], x.length ≤ 262144 from fun x hx => Nat.le_trans (hrl x hx) hlen)
  have hE : Pt w1 (fun b => b = g) (w.heap.size + 1) g sent [r0, r1, r2, r3, r4, r5, r6, r7, r8] bad := by simpa using hp
  clear HS HN HAL hgw hb1 hs hn hp hrl hlen
  have hp0 := hE
  clear hE
  go_wp2_with fail
  refine (int_any _ hp0).mono ?_
  rintro e w2 ht
  obtain ⟨y0, b0, rfl, h10, hc0, hp1, ho0⟩ := ht.one (fun _ => rfl) rfl
  have hgl0 := hp0.lt
  have hz2 := Nat.le_trans hz1 hc0.size
  have HO0 := Lib.hid ho0
  have HC0 := Lib.hid hc0
  have H10 := Lib.hid h10
  clear ht ho0 hc0 h10 hp0
  go_wp2_with fail
  refine (int_any _ hp1).mono ?_
  rintro e w3 ht
  obtain ⟨y1, b1, rfl, h11, hc1, hp2, ho1⟩ := ht.one (fun _ => rfl) rfl
  have hgl1 := hp1.lt
  have hz3 := Nat.le_trans hz2 hc1.size
  have HO1 := Lib.hid ho1
  have HC1 := Lib.hid hc1
  have H11 := Lib.hid h11
  clear ht ho1 hc1 h11 hp1
  go_wp2_with fail
  refine (n_any _ hp2).mono ?_
  rintro e w4 ht
  obtain ⟨y2, b2, rfl, h12, hc2, hp3, ho2⟩ := ht.one (fun _ => rfl) rfl
  have hgl2 := hp2.lt
  have hz4 := Nat.le_trans hz3 hc2.size
  have HO2 := Lib.hid ho2
  have HC2 := Lib.hid hc2
  have H12 := Lib.hid h12
  clear ht ho2 hc2 h12 hp2
  go_wp2_with fail
  refine (pdigest_any _ hp3).mono ?_
  rintro e w5 ht
  obtain ⟨c3, b3, rfl, h13, hl3, hc3, hp4, ho3⟩ := ht.agg (fun _ => rfl)
  have hl3 : c3.length = 32 := hl3
  have hgl3 := hp3.lt
  have hz5 := Nat.le_trans hz4 hc3.size
  have HO3 := Lib.hid ho3
  have HC3 := Lib.hid hc3
  have H13 := Lib.hid h13
  have HL3 := Lib.hid hl3
  clear hl3
  clear ht ho3 hc3 h13 hp3
  go_wp2_with fail
  refine (allBlock_any _ hp4 (HRL.out _ (by simp))).mono ?_
  rintro e w6 ht
  obtain ⟨y4, b4, rfl, h14, hc4, hp5, ho4⟩ := ht.one (fun _ => rfl) rfl
  have hgl4 := hp4.lt
  have hz6 := Nat.le_trans hz5 hc4.size
  have HO4 := Lib.hid ho4
  have HC4 := Lib.hid hc4
  have H14 := Lib.hid h14
  clear ht ho4 hc4 h14 hp4
  go_wp2_with fail
  refine (allVote_any _ hp5 (HRL.out _ (by simp))).mono ?_
  rintro e w7 ht
  obtain ⟨y5, b5, rfl, h15, hc5, hp6, ho5⟩ := ht.one (fun _ => rfl) rfl
  have hgl5 := hp5.lt
  have hz7 := Nat.le_trans hz6 hc5.size
  have HO5 := Lib.hid ho5
  have HC5 := Lib.hid hc5
  have H15 := Lib.hid h15
  clear ht ho5 hc5 h15 hp5
  go_wp2_with fail
  refine (allTimeout_any _ hp6 (HRL.out _ (by simp))).mono ?_
  rintro e w8 ht
  obtain ⟨y6, b6, rfl, h16, hc6, hp7, ho6⟩ := ht.one (fun _ => rfl) rfl
  have hgl6 := hp6.lt
  have hz8 := Nat.le_trans hz7 hc6.size
  have HO6 := Lib.hid ho6
  have HC6 := Lib.hid hc6
  have H16 := Lib.hid h16
  clear ht ho6 hc6 h16 hp6
  go_wp2_with fail
  refine (allCommit_any _ hp7 (HRL.out _ (by simp))).mono ?_
  rintro e w9 ht
  obtain ⟨y7, b7, rfl, h17, hc7, hp8, ho7⟩ := ht.one (fun _ => rfl) rfl
  have hgl7 := hp7.lt
  have hz9 := Nat.le_trans hz8 hc7.size
  have HO7 := Lib.hid ho7
  have HC7 := Lib.hid hc7
  have H17 := Lib.hid h17
  clear ht ho7 hc7 h17 hp7
  go_wp2_with fail
  refine (allTx_any _ hp8 (HRL.out _ (by simp))).mono ?_
  rintro e w10 ht
  obtain ⟨y8, b8, rfl, h18, hc8, hp9, ho8⟩ := ht.one (fun _ => rfl) rfl
  have hgl8 := hp8.lt
  have hz10 := Nat.le_trans hz9 hc8.size
  have HO8 := Lib.hid ho8
  have HC8 := Lib.hid hc8
  have H18 := Lib.hid h18
  clear ht ho8 hc8 h18 hp8
  have hbu := run_struct (P := Tryz.prog) (vs := [y0, y1, y2, .agg c3.toArray, y4, y5, y6, y7, y8]) (cs := [[y0], [y1], [y2], c3, [y4], [y5], [y6], [y7], [y8]]) info_readMessage places_readMessage ⟨cells_one H10.out, cells_one H11.out, cells_one H12.out, rfl, cells_one H14.out, cells_one H15.out, cells_one H16.out, cells_one H17.out, cells_one H18.out, trivial⟩ (by simp [PlaceOk, HL3.out]) (by simp [HL3.out]) #[(0, y0), (1, y1), (2, y2), (3, .agg c3.toArray), (4, y4), (5, y5), (6, y6), (7, y7), (8, y8)] rfl
  have hone : ∀ v ∈ [[y0], [y1], [y2], c3, [y4], [y5], [y6], [y7], [y8]].flatten, v.oneCell' = true := by
    intro v hv
    simp only [List.flatten_cons, List.flatten_nil, List.mem_append, List.mem_singleton, List.not_mem_nil, or_false] at hv
    rcases hv with rfl | rfl | rfl | hv | rfl | rfl | rfl | rfl | rfl
    · exact H10.out
    · exact H11.out
    · exact H12.out
    · exact H13.out v hv
    · exact H14.out
    · exact H15.out
    · exact H16.out
    · exact H17.out
    · exact H18.out
  have HOUT := Lib.hid (show Fs.Out (.cons i64 (.cons i64 (.cons i64 (.cons .dig (.cons (.list tBlock) (.cons (.list tVote) (.cons (.list tTimeout) (.cons (.list tCommit) (.cons (.list tTx) .nil))))))))) w10 (fun b => w.heap.size + 1 ≤ b) [r0, r1, r2, r3, r4, r5, r6, r7, r8] [[y0], [y1], [y2], c3, [y4], [y5], [y6], [y7], [y8]].flatten bad b8 from by
    have := Fs.Out.step HO0.out (Fs.Out.step HO1.out (Fs.Out.step HO2.out (Fs.Out.step HO3.out (Fs.Out.step HO4.out (Fs.Out.step HO5.out (Fs.Out.step HO6.out (Fs.Out.step HO7.out (Fs.Out.step HO8.out (Fs.Out.nil_ w10 _ _) (Chg.refl _ _) hgl8 hz9) HC8.out hgl7 hz8) (HC7.out.trans HC8.out fun b h => .inl h) hgl6 hz7) ((HC6.out.trans HC7.out fun b h => .inl h).trans HC8.out fun b h => .inl h) hgl5 hz6) (((HC5.out.trans HC6.out fun b h => .inl h).trans HC7.out fun b h => .inl h).trans HC8.out fun b h => .inl h) hgl4 hz5) ((((HC4.out.trans HC5.out fun b h => .inl h).trans HC6.out fun b h => .inl h).trans HC7.out fun b h => .inl h).trans HC8.out fun b h => .inl h) hgl3 hz4) (((((HC3.out.trans HC4.out fun b h => .inl h).trans HC5.out fun b h => .inl h).trans HC6.out fun b h => .inl h).trans HC7.out fun b h => .inl h).trans HC8.out fun b h => .inl h) hgl2 hz3) ((((((HC2.out.trans HC3.out fun b h => .inl h).trans HC4.out fun b h => .inl h).trans HC5.out fun b h => .inl h).trans HC6.out fun b h => .inl h).trans HC7.out fun b h => .inl h).trans HC8.out fun b h => .inl h) hgl1 hz2) (((((((HC1.out.trans HC2.out fun b h => .inl h).trans HC3.out fun b h => .inl h).trans HC4.out fun b h => .inl h).trans HC5.out fun b h => .inl h).trans HC6.out fun b h => .inl h).trans HC7.out fun b h => .inl h).trans HC8.out fun b h => .inl h) hgl0 hz1
    simpa using this)
  have HCA := Lib.hid (show Chg (fun k => k = g) w1 w10 from ((((((((HC0.out.trans HC1.out fun b h => .inl h).trans HC2.out fun b h => .inl h).trans HC3.out fun b h => .inl h).trans HC4.out fun b h => .inl h).trans HC5.out fun b h => .inl h).trans HC6.out fun b h => .inl h).trans HC7.out fun b h => .inl h).trans HC8.out fun b h => .inl h))
  have hcl : [[y0], [y1], [y2], c3, [y4], [y5], [y6], [y7], [y8]].flatten.length = 40 := by simp [HL3.out]
  obtain ⟨C, hC⟩ : ∃ C, C = [[y0], [y1], [y2], c3, [y4], [y5], [y6], [y7], [y8]].flatten := ⟨_, rfl⟩
  rw [← hC] at hbu hone hcl HOUT
  have HBU := Lib.hid hbu
  have HONE := Lib.hid hone
  have HCL := Lib.hid hcl
  have HI := Lib.hid (show (Tryz.prog.info? 48).map (·.size) = some C.length from by rw [hcl]; exact size_readMessage)
  have HK2 := Lib.hid (HK.out.chg HCA.out (show ¬ w.heap.size = g from by omega))
  clear hbu hone hcl hC HK HO0 HC0 H10 HO1 HC1 H11 HO2 HC2 H12 HO3 HC3 H13 HO4 HC4 H14 HO5 HC5 H15 HO6 HC6 H16 HO7 HC7 H17 HO8 HC8 H18 HL3
  have HP := Lib.hid hp9
  have hgX := hp9.lt
  clear hp9
  have hbu := HBU.out w10
  have HX := Lib.hid (HP.out.parts)
  go_wp2_with (first | (refine wpList_build_ rfl 48 _ rfl #[(0, y0), (1, y1), (2, y2), (3, .agg c3.toArray), (4, y4), (5, y5), (6, y6), (7, y7), (8, y8)] (by simp [Act.eval]) _ hbu ?_) | (refine wpList_store_blk (cs0 := ([.int .i64 0, .int .i64 0, .int .i64 0] ++ List.replicate 32 (.int .u8 0) ++ [.slice none 0 0, .slice none 0 0, .slice none 0 0, .slice none 0 0, .slice none 0 0] : List Value)) (cs := C) rfl 48 _ _ rfl (Blk.new w10 _ _) rfl rfl (by rw [HCL.out]; rfl) HI.out HONE.out ?_; intro wx hbx hcx; have HBX := Lib.hid hbx; have HCX := Lib.hid hcx; clear hbx hcx))
  obtain ⟨vy, ey, hblk, herr⟩ := HX.out
  have HCX' := Lib.hid (show Chg (fun _ => False) w10 wx from ((Chg.refl _ w10).alloc _).trans HCX.out fun b h => .inr (Nat.le_of_eq h.symm))
  have HGX := Lib.hid (hblk.chg HCX'.out id)
  have HKX := Lib.hid (HK2.out.chg HCX'.out id)
  have HE := Lib.hid herr
  clear hbu hblk herr HX HBU
  refine wp_region_hoist [0, 1, 2, 3, 4] [5] [6] (fun w' => Blk w' w10.heap.size 48 C.toArray ∧ Blk w' g 133 #[vy, ey])
    (by kernel_rfl) (by kernel_rfl) (by kernel_rfl) (by kernel_rfl) (by kernel_rfl) (by kernel_rfl) ⟨HBX.out.drew, HGX.out.drew⟩ ?_
  (refine HoistK.load (by rfl) (by kernel_rfl) 48 _ rfl w10.heap.size 0 rfl C _ (fun w' hw => hw.1.range) Tryz.underlying48 rfl HI.out ?_; simp only [Act.put, List.setIfInBounds_toArray, List.getElem_toArray, List.getElem_cons_zero, List.set_cons_succ, List.set_cons_zero])
  (refine HoistK.yes (by rfl) (by kernel_rfl) ⟨?_, fun w' hSw => ?_, ?_⟩; rotate_left; (· go_simp; try with_reducible rfl); simp only [Act.put, List.setIfInBounds_toArray, List.getElem_toArray, List.getElem_cons_succ, List.getElem_cons_zero, List.set_cons_succ, List.set_cons_zero])
  (refine HoistK.yes (by rfl) (by kernel_rfl) ⟨?_, fun w' hSw => ?_, ?_⟩; rotate_left; (· go_simp; try with_reducible rfl); simp only [Act.put, List.setIfInBounds_toArray, List.getElem_toArray, List.getElem_cons_succ, List.getElem_cons_zero, List.set_cons_succ, List.set_cons_zero])
  (refine HoistK.yes (by rfl) (by kernel_rfl) ⟨?_, fun w' hSw => ?_, ?_⟩; rotate_left; (· go_simp; try with_reducible rfl); simp only [Act.put, List.setIfInBounds_toArray, List.getElem_toArray, List.getElem_cons_succ, List.getElem_cons_zero, List.set_cons_succ, List.set_cons_zero])
  (refine HoistK.yes (by rfl) (by kernel_rfl) ⟨?_, fun w' hSw => ?_, ?_⟩; rotate_left; (· have hcc := hSw.2.cell; go_simp; try with_reducible rfl); simp only [Act.put, List.setIfInBounds_toArray, List.getElem_toArray, List.getElem_cons_succ, List.getElem_cons_zero, List.set_cons_succ, List.set_cons_zero])
  refine HoistK.nil_ ?_
  simp only [opsAt, List.filterMap_cons, List.filterMap_nil, List.getElem?_toArray, List.getElem?_cons_succ, List.getElem?_cons_zero]
  refine Effects.cons_ fun _ hQ1 => ?_
  go_wp2_with (refine wpList_store_blk (cs0 := ([.int .i64 0, .int .i64 0, .int .i64 0] ++ List.replicate 32 (.int .u8 0) ++ [.slice none 0 0, .slice none 0 0, .slice none 0 0, .slice none 0 0, .slice none 0 0] : List Value)) (cs := C) rfl 48 _ _ rfl HKX.out.drew rfl rfl (by rw [HCL.out]; rfl) HI.out HONE.out ?_; intro wy hby hcy; have HBY := Lib.hid hby; have HCY := Lib.hid hcy; clear hby hcy)
  refine hQ1 _ _ ⟨HBX.out.drew.chg HCY.out (fun h => by omega), HGX.out.drew.chg HCY.out (fun h => by omega)⟩ (Effects.nil_ fun _ hQ2 => ?_)
  go_wp2
  have hld := run_loadVar_mid (P := Tryz.prog) wy w.heap.size 0 48 C _ HBY.out.range Tryz.underlying48 rfl HI.out
  refine bodyPost_ret (v := .tuple #[.agg C.toArray, ey]) (by simp [results, Tryz.results24, asAddr, hld]) rfl ?_
  have hcf : Chg (fun b => b = w.heap.size) w10 wy := ((HCX'.out.mono fun _ h => h.elim).drew).trans HCY.out fun b h => .inl h
  exact ReadOut.mk (n := 9) HOUT.out HSS.out rfl HE.out (HB1.out.trans (HCA.out.below HB1.out.size fun b h => by omega)) hcf

end Go.Proofs.YtjjgmkfkmckkoabGreatDoor

/- Codec: face[Message], ReadMessage. -/
namespace Go.Proofs.YtjjgmkfkmckkoabGreatDoor
open Go.RowKit Go.Maps
attribute [-simp] Tryz.isAgg24 Tryz.typeInfo24 Tryz.isAgg48 Tryz.typeInfo48

def zFMessage : List Value := ([.int .i64 0, .int .i64 0, .int .i64 0] ++ List.replicate 32 (.int .u8 0) ++ [.slice none 0 0, .slice none 0 0, .slice none 0 0, .slice none 0 0, .slice none 0 0] : List Value)
theorem one_faceMessage : ∀ v ∈ zFMessage, v.oneCell' = true := by decide
theorem len_faceMessage : zFMessage.length = 40 := by decide
theorem size_faceMessage : (Tryz.prog.info? 48).map (·.size) = some zFMessage.length := by kernel_rfl
set_option maxHeartbeats 8000000 in
set_option maxRecDepth 100000 in
theorem faceMessage_any (w : World) {S : Nat → Prop} {v sent : Value} {bs : List UInt8} (h : Bs w S v bs) (hp : Pk w sent) :
    Calls Tryz.prog 23 #[v, .func (Fn.func 24) #[] #[]] w (FaceOut tMessage w bs) := by
  obtain ⟨A, cap, rfl⟩ := h.form
  have hal1 := (Below.refl w.heap.size w).alloc (Nat.le_refl _) (.cells (zFMessage).toArray 48)
  have hal2 := hal1.alloc (by simp) (.cells (zFMessage).toArray 48)
  have hr0 := (Blk.new w 48 (zFMessage).toArray).alloc (.cells (zFMessage).toArray 48)
  have hz0 := Blk.new (w.alloc (.cells (zFMessage).toArray 48)) 48 (zFMessage).toArray
  rw [show (w.alloc (.cells (zFMessage).toArray 48)).heap.size = w.heap.size + 1 by simp] at hz0
  by_cases hbig : 262144 < bs.length
  · obtain ⟨sb, hsb⟩ : ∃ sb, w.cell? ⟨0, 0, none⟩ = some (.iface 205 (.pointer (some sb))) := by
      obtain ⟨_, _, b, _, _, _, _, _, _, _, _, h, _⟩ := hp
      exact ⟨b, h⟩
    have hgb : ∀ {W : World}, Below w.heap.size w W → W.cell? ⟨0, 0, none⟩ = some (.iface 205 (.pointer (some sb))) := fun hb => cell_low hsb hb
    clear h
    go_enter Tryz.func23, Tryz.ntmps23
    go_wp2_with fail
    have hb := hal2.drew
    have hr : Blk _ _ _ _ := hr0.drew
    have hz : Blk _ _ _ _ := hz0.drew
    clear hal1 hal2 hz0 hsb
    refine wp_region_hoist [0, 1, 2] [3, 4, 5] [6, 7] (fun w' => Blk w' (w.heap.size + 1) 48 (zFMessage).toArray ∧ w'.cell? ⟨0, 0, none⟩ = some (.iface 205 (.pointer (some sb)))) (by kernel_rfl) (by kernel_rfl) (by kernel_rfl) (by kernel_rfl) (by kernel_rfl) (by kernel_rfl) ⟨hz, hgb hb⟩ ?_
    (refine HoistK.load (by rfl) (by kernel_rfl) 48 _ rfl (w.heap.size + 1) 0 rfl zFMessage _ (fun w' hw => hw.1.range) Tryz.underlying48 rfl size_faceMessage ?_; simp only [Act.put, List.setIfInBounds_toArray, List.getElem_toArray, List.getElem_cons_zero, List.set_cons_succ, List.set_cons_zero])
    (refine HoistK.yes (by rfl) (by kernel_rfl) ⟨?_, fun w' hSw => ?_, ?_⟩; rotate_left; (· have hcc := hSw.2; go_simp; try with_reducible rfl); simp only [Act.put, List.setIfInBounds_toArray, List.getElem_toArray, List.getElem_cons_succ, List.getElem_cons_zero, List.set_cons_succ, List.set_cons_zero])
    (refine HoistK.yes (by rfl) (by kernel_rfl) ⟨?_, fun w' hSw => ?_, ?_⟩; rotate_left; (· go_simp; try with_reducible rfl); simp only [Act.put, List.setIfInBounds_toArray, List.getElem_toArray, List.getElem_cons_succ, List.getElem_cons_zero, List.set_cons_succ, List.set_cons_zero])
    refine HoistK.nil_ ?_
    simp only [opsAt, List.filterMap_cons, List.filterMap_nil, List.getElem?_toArray, List.getElem?_cons_succ, List.getElem?_cons_zero]
    refine Effects.world (F := fun W => Below w.heap.size w W ∧ Blk W w.heap.size 48 (zFMessage).toArray ∧ Blk W (w.heap.size + 1) 48 (zFMessage).toArray) (fun W hF => ?_) ⟨hb, hr, hz⟩
    clear hb hr hz hr0
    obtain ⟨hb, hr, hz⟩ := hF
    refine Effects.cons_ fun _ hQ => ?_
    have hzl := hz.lt
    go_wp2_with fail
    have hk := Blk.new W 117 #[.string ⟨#[97, 108, 108]⟩, .iface 205 (.pointer (some sb))]
    replace hb := hb.alloc hb.size (.cells #[.string ⟨#[97, 108, 108]⟩, .iface 205 (.pointer (some sb))] 117)
    replace hr := hr.alloc (.cells #[.string ⟨#[97, 108, 108]⟩, .iface 205 (.pointer (some sb))] 117)
    replace hz := hz.alloc (.cells #[.string ⟨#[97, 108, 108]⟩, .iface 205 (.pointer (some sb))] 117)
    obtain ⟨gg, hgg⟩ : ∃ gg, gg = W.heap.size := ⟨_, rfl⟩
    have hgn : gg ≠ w.heap.size := by omega
    rw [← hgg] at hk ⊢
    have HGG := Lib.hid hgg; clear hgg
    generalize W.alloc (.cells #[.string ⟨#[97, 108, 108]⟩, .iface 205 (.pointer (some sb))] 117) = W1 at *
    refine hQ _ _ ⟨hz, hgb hb⟩ (Effects.cons_ fun _ hQ => ?_)
    go_wp2_with fail
    refine hQ _ _ ⟨hz, hgb hb⟩ (Effects.cons_ fun _ hQ => ?_)
    go_wp2_with fail
    refine (told_any (r := true) _ (hp.below hb) ⟨gg, 1, _, rfl, .more hk .last, hgb hb⟩).mono ?_
    rintro e W2 ⟨rfl, hb2⟩
    replace hb := hb.trans (hb2.mono hb.size)
    replace hr := hr.below hb2 hr.lt
    replace hz := hz.below hb2 hz.lt
    replace hk := hk.below hb2 hk.lt
    go_wp2_with fail
    refine hQ _ _ ⟨hz, hgb hb⟩ (Effects.nil_ fun _ hQ => ?_)
    refine wpList_store_blk (cs0 := zFMessage) (cs := zFMessage) rfl 48 _ _ rfl hr rfl rfl rfl size_faceMessage one_faceMessage ?_
    intro W3 hr3 hc3
    go_wp2_with fail
    replace hb := hb.trans (hc3.below hb.size fun b h => Nat.le_of_eq h.symm)
    have hld := run_loadVar_mid (P := Tryz.prog) _ w.heap.size 0 48 zFMessage _ hr3.range Tryz.underlying48 rfl size_faceMessage
    exact bodyPost_ret (v := .tuple #[.agg (zFMessage).toArray, .int .i64 4]) (by simp [results, Tryz.results23, asAddr, hld]) rfl ⟨hb, _, 4, rfl, len_faceMessage, one_faceMessage, .inl ⟨hbig, rfl⟩⟩
  · have hlen : bs.length ≤ 262144 := by omega
    have HR := Lib.hid (readMessage_any _ (h.below hal2) hlen (hp.1.below hal2))
    have HA := Lib.hid hal2
    have HR0 := Lib.hid hr0
    have HZ0 := Lib.hid hz0
    clear h hal1 hal2 hr0 hz0
    go_enter Tryz.func23, Tryz.ntmps23
    go_wp2_with fail
    refine HR.out.mono ?_
    rintro e w2 hro
    obtain ⟨C, err, bd, rfl, h1, hl, hb2, he, ho⟩ := hro.agg (fun _ => rfl)
    have hl : C.length = 40 := hl
    have HL := Lib.hid hl
    have HI := Lib.hid (show (Tryz.prog.info? 48).map (·.size) = some C.length from by rw [hl]; rw [size_faceMessage, len_faceMessage])
    have H1 := Lib.hid h1
    have HK := Lib.hid (HR0.out.below hb2 HR0.out.lt)
    have HZ := Lib.hid (HZ0.out.below hb2 HZ0.out.lt)
    have hz2 : w.heap.size + 2 ≤ w2.heap.size := by have := hb2.size; simpa using this
    have HB2 := Lib.hid (HA.out.trans (hb2.mono HA.out.size))
    have HO := Lib.hid (show SOut tMessage w2 (fun b => w.heap.size + 2 ≤ b) bs C false bd from ho.to (fun b _ hlt => ⟨hlt, rfl⟩) fun b hb _ => by simpa using hb)
    have he := he.to (w' := w2) (S' := fun b => w.heap.size + 2 ≤ b) (fun b _ hlt => ⟨hlt, rfl⟩) fun b hb _ => by simpa using hb
    clear hro h1 hl hb2 ho HR HA HR0 HZ0
    rcases he with ⟨rfl, rfl⟩ | ⟨rfl, hch⟩
    · go_wp2_with (first
        | (refine wpList_store_blk (cs0 := zFMessage) (cs := C) rfl 48 _ _ rfl (Blk.new w2 _ _) rfl rfl (by rw [HL.out]; exact len_faceMessage) HI.out H1.out ?_; intro w3 hb3 hc3; have HB3 := Lib.hid hb3
           have HC3 := Lib.hid (show Chg (fun _ => False) w2 w3 from ((Chg.refl _ w2).alloc _).trans hc3 fun b h => .inr (Nat.le_of_eq h.symm)); clear hb3 hc3
           have HK3 := Lib.hid (HK.out.chg HC3.out id))
        | (refine wpList_load_blk' rfl 48 _ rfl HB3.out rfl Tryz.underlying48 rfl HI.out ?_)
        | (refine wpList_store_blk (cs0 := zFMessage) (cs := C) rfl 48 _ _ rfl HK3.out rfl rfl (by rw [HL.out]; exact len_faceMessage) HI.out H1.out ?_; intro w9 hb9 hc9; have HB9 := Lib.hid hb9; have HC9 := Lib.hid hc9; clear hb9 hc9))
      have hld := run_loadVar_mid (P := Tryz.prog) w9 w.heap.size 0 48 C _ HB9.out.range Tryz.underlying48 rfl HI.out
      refine bodyPost_ret (v := .tuple #[.agg C.toArray, .int .i64 0]) (by simp [results, Tryz.results23, asAddr, hld]) rfl ?_
      obtain ⟨o1, o2, o3⟩ := HO.out
      have hc29 : Chg (fun b => b = w.heap.size) w2 w9 := (HC3.out.mono (M' := fun b => b = w.heap.size) fun _ h => h.elim).trans HC9.out fun b h => .inl h
      refine ⟨HB2.out.trans (hc29.below HB2.out.size fun b h => Nat.le_of_eq h.symm), C, 0, rfl, o1, o2, .inr ⟨hlen, .inl ?_⟩⟩
      rcases o3 with ⟨x, e1, _, e3⟩ | ⟨_, e2⟩
      · exact ⟨x, e1, rfl, Sh.rep_to (fun b hb hlt => ⟨Nat.lt_of_lt_of_le hlt hc29.size, hc29.block b hlt fun e => by omega⟩) (fun b hb _ => by omega) _ _ _ e3⟩
      · cases e2
    · obtain ⟨gw, rfl⟩ := hch.form
      have HCH := Lib.hid hch; clear hch
      have hno : Sh.dec tMessage bs = none := by
        obtain ⟨_, _, o3⟩ := HO.out
        rcases o3 with ⟨x, _, e2, _⟩ | ⟨e1, _⟩
        · cases e2
        · exact e1
      have HNO := Lib.hid hno; clear hno
      go_wp2_with (refine wpList_store_blk (cs0 := zFMessage) (cs := C) rfl 48 _ _ rfl (Blk.new w2 _ _) rfl rfl (by rw [HL.out]; exact len_faceMessage) HI.out H1.out ?_; intro w3 hb3 hc3; have HC3 := Lib.hid (show Chg (fun _ => False) w2 w3 from ((Chg.refl _ w2).alloc _).trans hc3 fun b h => .inr (Nat.le_of_eq h.symm)); clear hb3 hc3)
      have hr : Blk _ _ _ _ := (HK.out.chg HC3.out id).drew
      have hz : Blk _ _ _ _ := (HZ.out.chg HC3.out id).drew
      have hb := (HB2.out.trans (HC3.out.below HB2.out.size fun b h => h.elim)).drew
      have hch3 := HCH.out.to (w' := w3.drew) (S' := fun b => w.heap.size + 2 ≤ b) (fun b hb hlt => ⟨Nat.lt_of_lt_of_le hlt HC3.out.size, HC3.out.block b hlt id⟩) fun b hb _ => hb
      have hz3 : w.heap.size + 2 ≤ w3.drew.heap.size := Nat.le_trans hz2 HC3.out.size
      refine wp_region_hoist [0, 1] [2] [3, 4] (fun w' => Blk w' (w.heap.size + 1) 48 (zFMessage).toArray) (by kernel_rfl) (by kernel_rfl) (by kernel_rfl) (by kernel_rfl) (by kernel_rfl) (by kernel_rfl) hz ?_
      (refine HoistK.load (by rfl) (by kernel_rfl) 48 _ rfl (w.heap.size + 1) 0 rfl zFMessage _ (fun w' hw => hw.range) Tryz.underlying48 rfl size_faceMessage ?_; simp only [Act.put, List.setIfInBounds_toArray, List.getElem_toArray, List.getElem_cons_zero, List.set_cons_succ, List.set_cons_zero])
      (refine HoistK.yes (by rfl) (by kernel_rfl) ⟨?_, fun w' hSw => ?_, ?_⟩; rotate_left; (· go_simp; try with_reducible rfl); simp only [Act.put, List.setIfInBounds_toArray, List.getElem_toArray, List.getElem_cons_succ, List.getElem_cons_zero, List.set_cons_succ, List.set_cons_zero])
      refine HoistK.nil_ ?_
      simp only [opsAt, List.filterMap_cons, List.filterMap_nil, List.getElem?_toArray, List.getElem?_cons_succ, List.getElem?_cons_zero]
      refine Effects.world (F := fun W => Below w.heap.size w W ∧ Blk W w.heap.size 48 (zFMessage).toArray ∧ Blk W (w.heap.size + 1) 48 (zFMessage).toArray ∧ Chain W (fun b => w.heap.size + 2 ≤ b) sent (.iface 113 (.pointer (some ⟨gw, 0, none⟩)))) (fun W hF => ?_) ⟨hb, hr, hz, hch3⟩
      clear hb hr hz hch3 hz3
      obtain ⟨hb, hr, hz, hch⟩ := hF
      refine Effects.cons_ fun _ hQ => ?_
      go_wp2_with fail
      refine (told_any (r := false) _ (hp.below hb) (Wr.of_chain hch)).mono ?_
      rintro e W2 ⟨rfl, hb2⟩
      replace hb := hb.trans (hb2.mono hb.size)
      replace hr := hr.below hb2 hr.lt
      replace hz := hz.below hb2 hz.lt
      go_wp2_with fail
      refine hQ _ _ hz (Effects.nil_ fun _ hQ => ?_)
      refine wpList_store_blk (cs0 := zFMessage) (cs := zFMessage) rfl 48 _ _ rfl hr rfl rfl rfl size_faceMessage one_faceMessage ?_
      intro W3 hr3 hc3
      go_wp2_with fail
      replace hb := hb.trans (hc3.below hb.size fun b h => Nat.le_of_eq h.symm)
      have hld := run_loadVar_mid (P := Tryz.prog) _ w.heap.size 0 48 zFMessage _ hr3.range Tryz.underlying48 rfl size_faceMessage
      exact bodyPost_ret (v := .tuple #[.agg (zFMessage).toArray, .int .i64 5]) (by simp [results, Tryz.results23, asAddr, hld]) rfl ⟨hb, _, 5, rfl, len_faceMessage, one_faceMessage, .inr ⟨hlen, .inr ⟨HNO.out, rfl⟩⟩⟩

set_option maxHeartbeats 4000000 in
set_option maxRecDepth 100000 in
theorem ReadMessage_any (w : World) {S : Nat → Prop} {v sent : Value} {bs : List UInt8} (h : Bs w S v bs) (hp : Pk w sent) :
    Calls Tryz.prog 10 #[v] w (FaceOut tMessage w bs) := by
  have hal1 := (Below.refl w.heap.size w).alloc (Nat.le_refl _) (.cells (zFMessage).toArray 48)
  have HF := Lib.hid (faceMessage_any _ (h.below hal1) (hp.below hal1))
  have HR := Lib.hid (Blk.new w 48 (zFMessage).toArray)
  have HA := Lib.hid hal1
  obtain ⟨A, cap, rfl⟩ := h.form
  clear h hp hal1
  go_enter Tryz.func10, Tryz.ntmps10
  go_wp2_with fail
  refine HF.out.mono ?_
  rintro e w1 ⟨hb, C, n, rfl, hl, h1, hn⟩
  have hl : C.length = 40 := hl
  have HL := Lib.hid hl
  have HI := Lib.hid (show (Tryz.prog.info? 48).map (·.size) = some C.length from by rw [hl]; rw [size_faceMessage, len_faceMessage])
  have H1 := Lib.hid h1
  have hlz : (zFMessage).length = C.length := by rw [hl, len_faceMessage]
  have HLZ := Lib.hid hlz
  have HK := Lib.hid (HR.out.below hb (by simp))
  have HB := Lib.hid hb
  have HN := Lib.hid hn
  have hz1 : w.heap.size + 1 ≤ w1.heap.size := by have := hb.size; simpa using this
  clear hl h1 hlz hb hn HF HR
  go_wp2_with (refine wpList_store_blk (cs0 := zFMessage) (cs := C) rfl 48 _ _ rfl HK.out rfl rfl HLZ.out HI.out H1.out ?_; intro w9 hb9 hc9; have HB9 := Lib.hid hb9; have HC9 := Lib.hid hc9; clear hb9 hc9)
  have hld := run_loadVar_mid (P := Tryz.prog) w9 w.heap.size 0 48 C _ HB9.out.range Tryz.underlying48 rfl HI.out
  refine bodyPost_ret (v := .tuple #[.agg C.toArray, .int .i64 n]) (by simp [results, Tryz.results10, asAddr, hld]) rfl ?_
  have hbw := HA.out.trans (HB.out.mono HA.out.size)
  refine ⟨hbw.trans (HC9.out.below hbw.size fun b h => Nat.le_of_eq h.symm), C, n, rfl, HL.out, H1.out, HN.out.imp id fun ⟨q1, q2⟩ => ⟨q1, q2.imp (fun ⟨x, e1, e2, e3⟩ => ⟨x, e1, e2, ?_⟩) id⟩⟩
  exact Sh.rep_to (fun b hb hlt => ⟨Nat.lt_of_lt_of_le hlt HC9.out.size, HC9.out.block b hlt fun e => by simp at hb; omega⟩) (fun b hb _ => by simp at hb; omega) _ _ _ e3

end Go.Proofs.YtjjgmkfkmckkoabGreatDoor

/- Codec's laws: message: written as the document says, read back as it was. Printed by genLaw.py. -/
namespace Go.Proofs.YtjjgmkfkmckkoabGreatDoor
open Go.RowKit Go.Maps
attribute [-simp] Tryz.isAgg24 Tryz.typeInfo24 Tryz.isAgg48 Tryz.typeInfo48

set_option maxHeartbeats 8000000 in
set_option maxRecDepth 100000 in
theorem lawMessage_any (w : World) {S : Nat → Prop} {x : tMessage.El} {cs : List Value} {sent : Value} (h : tMessage.rep w S x cs) (h1 : ∀ v ∈ cs, v.oneCell' = true) (hS : ∀ b, S b → b < w.heap.size) (hl : (tMessage.enc x).length ≤ 1099511627776) (hp : Pk w sent) :
    Calls Tryz.prog 9 #[.agg cs.toArray] w fun e w' => e = .returned (.bool true) ∧ Below w.heap.size w w' := by
  have hpos : 0 < (tMessage.enc x).length := by
    show 0 < (joinB _).length
    rw [joinB_length]; omega
  have hsize := Sh.rep_size _ _ _ h
  have hwf := Sh.rep_wf _ _ _ h
  have hdec := Sh.dec_enc tMessage x hwf (by omega)
  have HI := Lib.hid (show (Tryz.prog.info? 48).map (·.size) = some cs.length from by rw [hsize]; kernel_rfl)
  obtain ⟨bs, hbs⟩ : ∃ bs, bs = tMessage.enc x := ⟨_, rfl⟩
  have hal1 := (Below.refl w.heap.size w).alloc (Nat.le_refl _) (.cells cs.toArray 48)
  have h0 := Sh.rep_below h hal1
  have hA := message_any _ h0 hl
  rw [← hbs] at hl hpos hdec hA
  have HA := Lib.hid hA
  have HX := Lib.hid (Blk.new w 48 cs.toArray)
  have HB1 := Lib.hid hal1
  have HR := Lib.hid h
  have HL := Lib.hid hl
  have HBS := Lib.hid hbs
  have HS := Lib.hid hS
  have HP := Lib.hid hp
  have HD := Lib.hid hdec
  have H1 := Lib.hid h1
  clear h hl hbs hsize hwf hdec hal1 h0 hA hS hp h1
  go_enter Tryz.func9, Tryz.ntmps9
  go_wp2_with (refine wpList_load_blk' rfl 48 _ rfl HX.out rfl Tryz.underlying48 rfl HI.out ?_)
  refine HA.out.mono ?_
  rintro e w2 ⟨v, rfl, f2⟩
  obtain ⟨A, cap, rfl⟩ := f2.1.form
  have hB2 := HB1.out.trans (f2.2.mono HB1.out.size)
  have HX2 := Lib.hid (HX.out.below f2.2 HX.out.lt)
  have HF2 := Lib.hid f2
  have HB2 := Lib.hid hB2
  clear hB2 f2 HA HX
  go_wp2_with fail
  -- REGION 2
  have hx := HX2.out.drew
  have hf := HF2.out.1.drew
  have hb := HB2.out.drew
  refine wp_region_segsV [([0, 1, 2], [3]), ([4, 5], [])] (by kernel_rfl) (by kernel_rfl) (by kernel_rfl) (by kernel_rfl) (SegV.mk (fun w' => Blk w' w.heap.size 48 cs.toArray ∧ Bs w' (fun b => w.heap.size + 1 ≤ b) (.slice A bs.length cap) bs) (fun _ _ => trivial) ⟨hx, hf.sub fun b hb _ => by simpa using hb.1⟩ ?_)
  (refine HoistK.yes (by rfl) (by kernel_rfl) ⟨?_, fun w' hSw => ?_, ?_⟩; rotate_left; (· go_simp; try with_reducible rfl); simp only [Act.put, List.setIfInBounds_toArray, List.getElem_toArray, List.getElem_cons_zero, List.set_cons_succ, List.set_cons_zero])
  (refine HoistK.yes (by rfl) (by kernel_rfl) ⟨?_, fun w' hSw => ?_, ?_⟩; rotate_left; (· have e1 := run_str hSw.2 Tryz.underlying50 Tryz.underlying5 Tryz.underlying9; go_simp; try with_reducible rfl); simp only [Act.put, List.setIfInBounds_toArray, List.getElem_toArray, List.getElem_cons_succ, List.getElem_cons_zero, List.set_cons_succ, List.set_cons_zero])
  (refine HoistK.load (by rfl) (by kernel_rfl) 48 _ rfl w.heap.size 0 rfl cs _ (fun w' hw => hw.1.range) Tryz.underlying48 rfl HI.out ?_; simp only [Act.put, List.setIfInBounds_toArray, List.getElem_toArray, List.getElem_cons_succ, List.getElem_cons_zero, List.set_cons_succ, List.set_cons_zero])
  refine HoistK.nil_ ?_
  simp only [opsAt, List.filterMap_cons, List.filterMap_nil, List.getElem?_toArray, List.getElem?_cons_succ, List.getElem?_cons_zero]
  refine EffS.cons_ fun _ hQ => ?_
  have hr := rMessage_any _ (Sh.rep_below HR.out hb) (by rw [← HBS.out]; exact HL.out)
  rw [← HBS.out] at hr
  have HRR := Lib.hid hr
  clear hr hx hf hb
  go_wp2_with fail
  refine HRR.out.mono ?_
  rintro e w3 ⟨v3, rfl, f3⟩
  obtain ⟨A3, c3, rfl⟩ := f3.1.form
  have hx := HX2.out.drew.below f3.2 HX2.out.drew.lt
  have hf := HF2.out.1.drew.below f3.2
  have hb := HB2.out.drew.trans (f3.2.mono HB2.out.drew.size)
  have HX3 := Lib.hid hx
  have HF3 := Lib.hid hf
  have HB3 := Lib.hid hb
  have HS23 := Lib.hid (show Below w2.heap.size w2 w3 from ((Below.refl _ w2).drew).trans f3.2)
  have hf3 := f3.1
  clear f3 HRR HX2 HF2 HB2
  go_wp2_with fail
  refine hQ _ _ ⟨hx, hf.sub fun b hb _ => by simpa using hb.1⟩ (EffS.nil_ (SegV.mk (fun w' => (Blk w' w.heap.size 48 cs.toArray ∧ Bs w' (fun b => w.heap.size + 1 ≤ b) (.slice A bs.length cap) bs) ∧ Bs w' (fun b => w2.heap.size ≤ b) (.slice A3 bs.length c3) bs) (fun _ h => h.1) ⟨⟨hx, hf.sub fun b hb _ => by simpa using hb.1⟩, hf3.sub fun b hb _ => hb.1⟩ ?_))
  (refine HoistK.yes (by rfl) (by kernel_rfl) ⟨?_, fun w' hSw => ?_, ?_⟩; rotate_left; (· have e1 := run_str hSw.2 Tryz.underlying50 Tryz.underlying5 Tryz.underlying9; go_simp; try with_reducible rfl); simp only [Act.put, List.setIfInBounds_toArray, List.getElem_toArray, List.getElem_cons_succ, List.getElem_cons_zero, List.set_cons_succ, List.set_cons_zero])
  (refine HoistK.yes (by rfl) (by kernel_rfl) ⟨?_, fun w' hSw => ?_, ?_⟩; rotate_left; (· go_simp; try with_reducible rfl); simp only [Act.put, List.setIfInBounds_toArray, List.getElem_toArray, List.getElem_cons_succ, List.getElem_cons_zero, List.set_cons_succ, List.set_cons_zero])
  refine HoistK.nil_ ?_
  simp only [opsAt, List.filterMap_nil, List.getElem?_toArray]
  refine EffS.nil_ fun _ hQ => ?_
  go_wp2_with fail
  refine (ReadMessage_any _ HF3.out (HP.out.below HB3.out)).mono ?_
  rintro e w4 ⟨hb4, C, n, rfl, hCl, hC1, hn⟩
  have hsz3 := HB3.out.size
  have HX4 := Lib.hid (HX3.out.below hb4 HX3.out.lt)
  have HF4 := Lib.hid (HF3.out.below hb4)
  have HB4 := Lib.hid (HB3.out.trans (hb4.mono HB3.out.size))
  have hs34 := hb4.size
  have HS34 := Lib.hid hb4
  have HCL := Lib.hid hCl
  have HC1 := Lib.hid hC1
  have HN := Lib.hid hn
  have HCI := Lib.hid (show (Tryz.prog.info? 48).map (·.size) = some C.length from by rw [hCl]; kernel_rfl)
  have HZL := Lib.hid (show zFMessage.length = C.length from by rw [hCl]; rfl)
  clear hCl hC1 hn HF3 HX3 HB3 hb4
  by_cases hbig : 262144 < bs.length
  · obtain rfl : n = 4 := by
      rcases HN.out with ⟨_, h⟩ | ⟨h, _⟩
      · exact h
      · omega
    go_wp2_with (refine wpList_store_blk (cs0 := zFMessage) (cs := C) rfl 48 _ _ rfl (Blk.new w4 _ _) rfl rfl HZL.out HCI.out HC1.out ?_; intro w5 hy5 hc5; have HY5 := Lib.hid hy5; have HC5 := Lib.hid (show Chg (fun _ => False) w4 w5 from ((Chg.refl _ w4).alloc _).trans hc5 fun b h => .inr (Nat.le_of_eq h.symm)); clear hy5 hc5)
    go_ret
    exact ⟨rfl, HB4.out.trans (HC5.out.below HB4.out.size fun b h => h.elim)⟩
  obtain ⟨hrep, rfl⟩ : tMessage.rep w4 (fun b => w3.heap.size ≤ b) x C ∧ n = 0 := by
    rcases HN.out with ⟨h, _⟩ | ⟨_, ⟨y, h1, h2, h3⟩ | ⟨h1, _⟩⟩
    · omega
    · rw [HD.out] at h1
      injection h1 with h1
      subst h1
      exact ⟨h3, h2⟩
    · rw [HD.out] at h1; cases h1
  have HREP := Lib.hid hrep
  clear hrep HN
  go_wp2_with (refine wpList_store_blk (cs0 := zFMessage) (cs := C) rfl 48 _ _ rfl (Blk.new w4 _ _) rfl rfl HZL.out HCI.out HC1.out ?_; intro w5 hy5 hc5; have HY5 := Lib.hid hy5; have HC5 := Lib.hid (show Chg (fun _ => False) w4 w5 from ((Chg.refl _ w4).alloc _).trans hc5 fun b h => .inr (Nat.le_of_eq h.symm)); clear hy5 hc5)
  have HF5 := Lib.hid (HF4.out.chg HC5.out fun _ _ h => h)
  obtain ⟨B, off, rfl, hBw, hBlt, cB, tB, hbB, hcell⟩ : ∃ B off, A = some ⟨B, off, none⟩ ∧ w.heap.size + 1 ≤ B ∧ B < w3.heap.size ∧ ∃ cB tB, Blk w5 B tB cB ∧ ∀ j, j < bs.length → ∃ y : Nat, y < 256 ∧ cB[off + j]? = some (.int .u8 y) := by
    obtain ⟨⟨hn, A', c', e, _, _, hp⟩, _⟩ := HF5.out
    injection e with e
    subst e
    obtain ⟨B, off, rfl, ⟨hw1, cs', t', hth⟩, hlt, hc⟩ := hp hpos
    have hB2 : B < w2.heap.size := (Array.getElem?_eq_some_iff.1 hth).1
    have hB3 := Nat.lt_of_lt_of_le hB2 HS23.out.size
    have h5 : Blk w5 B t' cs' := by
      show w5.heap[B]? = _
      rw [HC5.out.block B (Nat.lt_of_lt_of_le hB3 hs34) id, HS34.out.block B hB3, HS23.out.block B hB2]
      exact hth
    refine ⟨B, off, rfl, by simpa using hw1, hB3, cs', t', h5, fun j hj => ⟨bs[j].toNat, UInt8.toNat_lt _, ?_⟩⟩
    rw [← h5.cell, hc j _ (u8s_get bs j hj)]
  go_loopw [27] (fun i wr => ∃ k : Nat, k ≤ bs.length ∧ i = .int .i64 k ∧ (∃ c, Hid (Blk wr B tB c ∧ ∀ j, j < bs.length → ∃ y : Nat, y < 256 ∧ c[off + j]? = some (.int .u8 y))) ∧ Chg (fun b => b = B) w5 wr) (fun i _ => bs.length - (intOf i).toNat)
  case atStart => exact ⟨0, Nat.zero_le _, rfl, ⟨cB, Lib.hid ⟨hbB, hcell⟩⟩, Chg.refl _ _⟩
  case round =>
    obtain ⟨k, hk, rfl, ⟨c, hC⟩, hch⟩ := hrel
    by_cases hlt : k < bs.length
    · obtain ⟨y, hy, hc⟩ := hC.out.2 k hlt
      have hcc : wr.cell? ⟨B, off + k, none⟩ = some (.int .u8 y) := by rw [hC.out.1.cell]; exact hc
      have hz := hC.out.1.frozen (off + k)
      go_wp2
      refine ⟨⟨k + 1, by omega, by push_cast; rfl, ⟨c.setIfInBounds (off + k) _, Lib.hid ⟨hC.out.1.set_ _ _, fun j hj => ?_⟩⟩, hch.setIn _ _⟩, by simp only [intOf]; omega⟩
      by_cases e : j = k
      · subst e
        refine ⟨y ^^^ 85, Nat.xor_lt_two_pow (n := 8) (by omega) (by omega), ?_⟩
        rw [Array.getElem?_setIfInBounds_self_of_lt (Array.getElem?_eq_some_iff.1 hc).1]
        have := u8_xor_nat y 85 hy (by omega)
        exact congrArg (fun z => some (Value.int .u8 z)) this
      · obtain ⟨y', h1, h2⟩ := hC.out.2 j hj
        exact ⟨y', h1, by rw [Array.getElem?_setIfInBounds_ne (by omega)]; exact h2⟩
    · have hx := ((HX4.out.chg HC5.out id).chg hch fun e => by have e : w.heap.size = B := e; omega).drew
      have hy := (HY5.out.chg hch fun e => by have e : w4.heap.size = B := e; omega).drew
      have hb5 := HB4.out.trans (HC5.out.below HB4.out.size fun b h => h.elim)
      have hbr := (hb5.trans (hch.below hb5.size fun b h => by have h : b = B := h; omega)).drew
      have hrx := Sh.rep_below HR.out hbr
      have hry : tMessage.rep wr.drew (fun b => w3.heap.size ≤ b) x C := Sh.rep_chg (Sh.rep_chg HREP.out HC5.out fun _ _ h => h) hch.drew fun b h1 h2 => by have h2 : b = B := h2; omega
      have HRX := Lib.hid hrx
      have HRY := Lib.hid hry
      have HBR := Lib.hid hbr
      have hl : (tMessage.enc x).length ≤ 1099511627776 := by rw [← HBS.out]; exact HL.out
      clear hC hbB hcell
      go_wp2_with fail
      refine wp_region_segsV [([0, 1, 2, 3, 6], [4]), ([5], [7]), ([8, 9, 10], [11])] (by kernel_rfl) (by kernel_rfl) (by kernel_rfl) (by kernel_rfl) (SegV.mk (fun w' => Blk w' w.heap.size 48 cs.toArray ∧ Blk w' w4.heap.size 48 C.toArray) (fun _ _ => trivial) ⟨hx, hy⟩ ?_)
      (refine HoistK.yes (by rfl) (by kernel_rfl) ⟨?_, fun w' hSw => ?_, ?_⟩; rotate_left; (· go_simp; try with_reducible rfl); simp only [Act.put, List.setIfInBounds_toArray, List.getElem_toArray, List.getElem_cons_zero, List.set_cons_succ, List.set_cons_zero])
      (refine HoistK.yes (by rfl) (by kernel_rfl) ⟨?_, fun w' hSw => ?_, ?_⟩; rotate_left; (· go_simp; try with_reducible rfl); simp only [Act.put, List.setIfInBounds_toArray, List.getElem_toArray, List.getElem_cons_succ, List.getElem_cons_zero, List.set_cons_succ, List.set_cons_zero])
      (refine HoistK.yes (by rfl) (by kernel_rfl) ⟨?_, fun w' hSw => ?_, ?_⟩; rotate_left; (· go_simp; try with_reducible rfl); simp only [Act.put, List.setIfInBounds_toArray, List.getElem_toArray, List.getElem_cons_succ, List.getElem_cons_zero, List.set_cons_succ, List.set_cons_zero])
      (refine HoistK.load (by rfl) (by kernel_rfl) 48 _ rfl w4.heap.size 0 rfl C _ (fun w' hw => hw.2.range) Tryz.underlying48 rfl HCI.out ?_; simp only [Act.put, List.setIfInBounds_toArray, List.getElem_toArray, List.getElem_cons_succ, List.getElem_cons_zero, List.set_cons_succ, List.set_cons_zero])
      (refine HoistK.load (by rfl) (by kernel_rfl) 48 _ rfl w.heap.size 0 rfl cs _ (fun w' hw => hw.1.range) Tryz.underlying48 rfl HI.out ?_; simp only [Act.put, List.setIfInBounds_toArray, List.getElem_toArray, List.getElem_cons_succ, List.getElem_cons_zero, List.set_cons_succ, List.set_cons_zero])
      refine HoistK.nil_ ?_
      simp only [opsAt, List.filterMap_cons, List.filterMap_nil, List.getElem?_toArray, List.getElem?_cons_succ, List.getElem?_cons_zero]
      refine EffS.cons_ fun _ hQ => ?_
      have HC1' := Lib.hid (rMessage_any _ HRY.out hl)
      go_wp2_with fail
      refine HC1'.out.mono ?_
      rintro e w6 ⟨v6, rfl, f6⟩
      rw [← HBS.out] at f6
      obtain ⟨A6, c6, rfl⟩ := f6.1.form
      have hx6 := hx.below f6.2 hx.lt
      have hy6 := hy.below f6.2 hy.lt
      have HB6 := Lib.hid (HBR.out.trans (f6.2.mono HBR.out.size))
      have hf6 := f6.1
      clear f6 HC1'
      go_wp2_with fail
      refine hQ _ _ ⟨hx6, hy6⟩ (EffS.nil_ (SegV.mk (fun w' => (Blk w' w.heap.size 48 cs.toArray ∧ Blk w' w4.heap.size 48 C.toArray) ∧ Bs w' (fun b => wr.heap.size ≤ b) (.slice A6 bs.length c6) bs) (fun _ h => h.1) ⟨⟨hx6, hy6⟩, hf6.sub fun b hb _ => hb.1⟩ ?_))
      (refine HoistK.yes (by rfl) (by kernel_rfl) ⟨?_, fun w' hSw => ?_, ?_⟩; rotate_left; (· have e1 := run_str hSw.2 Tryz.underlying50 Tryz.underlying5 Tryz.underlying9; go_simp; try with_reducible rfl); simp only [Act.put, List.setIfInBounds_toArray, List.getElem_toArray, List.getElem_cons_succ, List.getElem_cons_zero, List.set_cons_succ, List.set_cons_zero])
      refine HoistK.nil_ ?_
      simp only [opsAt, List.filterMap_cons, List.filterMap_nil, List.getElem?_toArray, List.getElem?_cons_succ, List.getElem?_cons_zero]
      refine EffS.cons_ fun _ hQ => ?_
      have HC2' := Lib.hid (rMessage_any _ (Sh.rep_below HR.out HB6.out) hl)
      go_wp2_with fail
      refine HC2'.out.mono ?_
      rintro e w7 ⟨v7, rfl, f7⟩
      rw [← HBS.out] at f7
      obtain ⟨A7, c7, rfl⟩ := f7.1.form
      have hx7 := hx6.below f7.2 hx6.lt
      have hy7 := hy6.below f7.2 hy6.lt
      have HB7 := Lib.hid (HB6.out.trans (f7.2.mono HB6.out.size))
      have hf67 := hf6.below f7.2
      have hf7 := f7.1
      clear f7 HC2'
      go_wp2_with fail
      refine hQ _ _ ⟨⟨hx7, hy7⟩, hf67.sub fun b hb _ => hb.1⟩ (EffS.nil_ (SegV.mk (fun w' => ((Blk w' w.heap.size 48 cs.toArray ∧ Blk w' w4.heap.size 48 C.toArray) ∧ Bs w' (fun b => wr.heap.size ≤ b) (.slice A6 bs.length c6) bs) ∧ Bs w' (fun b => w6.heap.size ≤ b) (.slice A7 bs.length c7) bs) (fun _ h => h.1) ⟨⟨⟨hx7, hy7⟩, hf67.sub fun b hb _ => hb.1⟩, hf7.sub fun b hb _ => hb.1⟩ ?_))
      (refine HoistK.yes (by rfl) (by kernel_rfl) ⟨?_, fun w' hSw => ?_, ?_⟩; rotate_left; (· have e1 := run_str hSw.2 Tryz.underlying50 Tryz.underlying5 Tryz.underlying9; go_simp; try with_reducible rfl); simp only [Act.put, List.setIfInBounds_toArray, List.getElem_toArray, List.getElem_cons_succ, List.getElem_cons_zero, List.set_cons_succ, List.set_cons_zero])
      (refine HoistK.yes (by rfl) (by kernel_rfl) ⟨?_, fun w' hSw => ?_, ?_⟩; rotate_left; (· go_simp; try with_reducible rfl); simp only [Act.put, List.setIfInBounds_toArray, List.getElem_toArray, List.getElem_cons_succ, List.getElem_cons_zero, List.set_cons_succ, List.set_cons_zero])
      (refine HoistK.yes (by rfl) (by kernel_rfl) ⟨?_, fun w' hSw => ?_, ?_⟩; rotate_left; (· go_simp; try with_reducible rfl); simp only [Act.put, List.setIfInBounds_toArray, List.getElem_toArray, List.getElem_cons_succ, List.getElem_cons_zero, List.set_cons_succ, List.set_cons_zero])
      refine HoistK.nil_ ?_
      simp only [opsAt, List.filterMap_cons, List.filterMap_nil, List.getElem?_toArray, List.getElem?_cons_succ, List.getElem?_cons_zero]
      refine EffS.cons_ fun _ hQ => ?_
      go_wp2_with fail
      refine hQ _ _ ⟨⟨⟨hx7, hy7⟩, hf67.sub fun b hb _ => hb.1⟩, hf7.sub fun b hb _ => hb.1⟩ (EffS.nil_ fun _ hQ => ?_)
      go_wp2_with fail
      go_ret
      exact ⟨rfl, HB7.out⟩
end Go.Proofs.YtjjgmkfkmckkoabGreatDoor
