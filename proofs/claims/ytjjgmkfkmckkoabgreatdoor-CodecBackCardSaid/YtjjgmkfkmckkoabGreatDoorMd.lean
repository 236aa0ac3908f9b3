/- Texts joined: CfZ CgA CfH CgB CgC CfX CgD CfY CgE CgF CgS CgM Hoist2 Hoist3 Hoist7 Law LawUp Open. -/
import Derived.Test.YtjjgmkfkmckkoabGreatDoorMb
import Derived.Test.YtjjgmkfkmckkoabGreatDoorMc
import Derived.Test.YtjjgmkfkmckkoabGreatDoorMa
import Derived.Test.YtjjgmkfkmckkoabGreatDoorRows
import Derived.ProofKit
import Derived.SizedLaws
import Derived.WideKeyArgs
import Derived.Below
import Derived.Carry
import Derived.Deep.Slices
import Derived.Deep.Fields
import Derived.ChangeSame
import Derived.Test.YtjjgmkfkmckkoabGreatDoorBulk
import Derived.JoinedCond
import Derived.OpenShut
/- Codec: a transaction read. -/
namespace Go.Proofs.YtjjgmkfkmckkoabGreatDoor
open Go.RowKit Go.Maps
attribute [-simp] Tryz.isAgg24 Tryz.typeInfo24 Tryz.isAgg27 Tryz.typeInfo27

theorem info_readTx : (Tryz.prog.info? 27).map (fun i => (i.zero.map (fun z => z.cells.size))) = some (some 41) := by kernel_rfl
theorem size_readTx : (Tryz.prog.info? 27).map (·.size) = some 41 := by kernel_rfl
theorem places_readTx : ((match Tryz.prog.underlying 27 with | some (.struct fields) => fields.toList.mapM (fun f => (Tryz.prog.info? f.type).map fun i => (f.offset, i.size)) | _ => none)) = some [(0, 1), (1, 1), (2, 1), (3, 1), (4, 1), (5, 1), (6, 1), (7, 32), (39, 1), (40, 1)] := by kernel_rfl
set_option maxHeartbeats 4000000 in
set_option maxRecDepth 100000 in
theorem readTx_any (w : World) {S : Nat → Prop} {v sent : Value} {bs : List UInt8} (h : Bs w S v bs) (hlen : bs.length ≤ 262144) (hg : Gl w sent) :
    Calls Tryz.prog 50 #[v] w (ReadOut (.tup (.cons i64 (.cons u64 (.cons u64 (.cons u64 (.cons u64 (.cons i64 (.cons i64 (.cons .dig (.cons i64 (.cons (.list tFact) .nil))))))))))) w sent bs) := by
  have hal := (Below.refl w.heap.size w).alloc (Nat.le_refl _) (.cells (([.int .i64 0, .int .u64 0, .int .u64 0, .int .u64 0, .int .u64 0, .int .i64 0, .int .i64 0] ++ List.replicate 32 (.int .u8 0) ++ [.int .i64 0, .slice none 0 0] : List Value)).toArray 27)
  have HS := Lib.hid (psplit_any _ (h.below hal) (by omega) (hg.below hal) 10 (by omega) ⟨#[97, 32, 116, 114, 97, 110, 115, 97, 99, 116, 105, 111, 110]⟩)
  have HN := Lib.hid (Blk.new w 27 (([.int .i64 0, .int .u64 0, .int .u64 0, .int .u64 0, .int .u64 0, .int .i64 0, .int .i64 0] ++ List.replicate 32 (.int .u8 0) ++ [.int .i64 0, .slice none 0 0] : List Value)).toArray)
  have HAL := Lib.hid hal
  obtain ⟨A, cap, rfl⟩ := h.form
  clear h hg hal
  go_enter Tryz.func50, Tryz.ntmps50
  go_wp2_with fail
  refine HS.out.mono ?_
  rintro e w1 ⟨g, rows, bad, rfl, hgw, hb1, hp, hn, hrl, hs⟩
  obtain ⟨r0, r1, r2, r3, r4, r5, r6, r7, r8, r9, rfl⟩ : ∃ r0 r1 r2 r3 r4 r5 r6 r7 r8 r9, rows = [r0, r1, r2, r3, r4, r5, r6, r7, r8, r9] := by
    match rows, hn with
    | [r0, r1, r2, r3, r4, r5, r6, r7, r8, r9], _ => exact ⟨r0, r1, r2, r3, r4, r5, r6, r7, r8, r9, rfl⟩
  have HK := Lib.hid (HN.out.below hb1 (by simp))
  have hgw' : w.heap.size + 1 ≤ g := by simpa using hgw
  have hz1 : w.heap.size + 1 ≤ w1.heap.size := by simpa using hb1.size
  have HB1 := Lib.hid (HAL.out.trans (hb1.mono (by simp)))
  have HSS := Lib.hid hs
  have HRL := Lib.hid (show ∀ x ∈ [r0, r1, r2, r3, r4, r5, r6, r7, r8, r9], x.length ≤ 262144 from fun x hx => Nat.le_trans (hrl x hx) hlen)
  have hE : Pt w1 (fun b => b = g) (w.heap.size + 1) g sent [r0, r1, r2, r3, r4, r5, r6, r7, r8, r9] bad := by simpa using hp
  clear HS HN HAL hgw hb1 hs hn hp hrl hlen
  have hp0 := hE
  clear hE
  go_wp2_with fail
  refine (int_any _ hp0).mono ?_
  rintro e w2 ht
  obtain ⟨y0, b0, rfl, h10, hc0, hp1, ho0⟩ := ht.one (fun _ => rfl) rfl
  have hgl0 := hp0.lt
  have hz2 := Nat.le_trans hz1 hc0.size
  have HO0 := Lib.hid ho0
  have HC0 := Lib.hid hc0
  have H10 := Lib.hid h10
  clear ht ho0 hc0 h10 hp0
  go_wp2_with fail
  refine (uTook_any _ hp1).mono ?_
  rintro e w3 ht
  obtain ⟨y1, b1, rfl, h11, hc1, hp2, ho1⟩ := ht.one (fun _ => rfl) rfl
  have hgl1 := hp1.lt
  have hz3 := Nat.le_trans hz2 hc1.size
  have HO1 := Lib.hid ho1
  have HC1 := Lib.hid hc1
  have H11 := Lib.hid h11
  clear ht ho1 hc1 h11 hp1
  go_wp2_with fail
  refine (uTook_any _ hp2).mono ?_
  rintro e w4 ht
  obtain ⟨y2, b2, rfl, h12, hc2, hp3, ho2⟩ := ht.one (fun _ => rfl) rfl
  have hgl2 := hp2.lt
  have hz4 := Nat.le_trans hz3 hc2.size
  have HO2 := Lib.hid ho2
  have HC2 := Lib.hid hc2
  have H12 := Lib.hid h12
  clear ht ho2 hc2 h12 hp2
  go_wp2_with fail
  refine (uTook_any _ hp3).mono ?_
  rintro e w5 ht
  obtain ⟨y3, b3, rfl, h13, hc3, hp4, ho3⟩ := ht.one (fun _ => rfl) rfl
  have hgl3 := hp3.lt
  have hz5 := Nat.le_trans hz4 hc3.size
  have HO3 := Lib.hid ho3
  have HC3 := Lib.hid hc3
  have H13 := Lib.hid h13
  clear ht ho3 hc3 h13 hp3
  go_wp2_with fail
  refine (uTook_any _ hp4).mono ?_
  rintro e w6 ht
  obtain ⟨y4, b4, rfl, h14, hc4, hp5, ho4⟩ := ht.one (fun _ => rfl) rfl
  have hgl4 := hp4.lt
  have hz6 := Nat.le_trans hz5 hc4.size
  have HO4 := Lib.hid ho4
  have HC4 := Lib.hid hc4
  have H14 := Lib.hid h14
  clear ht ho4 hc4 h14 hp4
  go_wp2_with fail
  refine (int_any _ hp5).mono ?_
  rintro e w7 ht
  obtain ⟨y5, b5, rfl, h15, hc5, hp6, ho5⟩ := ht.one (fun _ => rfl) rfl
  have hgl5 := hp5.lt
  have hz7 := Nat.le_trans hz6 hc5.size
  have HO5 := Lib.hid ho5
  have HC5 := Lib.hid hc5
  have H15 := Lib.hid h15
  clear ht ho5 hc5 h15 hp5
  go_wp2_with fail
  refine (n_any _ hp6).mono ?_
  rintro e w8 ht
  obtain ⟨y6, b6, rfl, h16, hc6, hp7, ho6⟩ := ht.one (fun _ => rfl) rfl
  have hgl6 := hp6.lt
  have hz8 := Nat.le_trans hz7 hc6.size
  have HO6 := Lib.hid ho6
  have HC6 := Lib.hid hc6
  have H16 := Lib.hid h16
  clear ht ho6 hc6 h16 hp6
  go_wp2_with fail
  refine (pdigest_any _ hp7).mono ?_
  rintro e w9 ht
  obtain ⟨c7, b7, rfl, h17, hl7, hc7, hp8, ho7⟩ := ht.agg (fun _ => rfl)
  have hl7 : c7.length = 32 := hl7
  have hgl7 := hp7.lt
  have hz9 := Nat.le_trans hz8 hc7.size
  have HO7 := Lib.hid ho7
  have HC7 := Lib.hid hc7
  have H17 := Lib.hid h17
  have HL7 := Lib.hid hl7
  clear hl7
  clear ht ho7 hc7 h17 hp7
  go_wp2_with fail
  refine (int_any _ hp8).mono ?_
  rintro e w10 ht
  obtain ⟨y8, b8, rfl, h18, hc8, hp9, ho8⟩ := ht.one (fun _ => rfl) rfl
  have hgl8 := hp8.lt
  have hz10 := Nat.le_trans hz9 hc8.size
  have HO8 := Lib.hid ho8
  have HC8 := Lib.hid hc8
  have H18 := Lib.hid h18
  clear ht ho8 hc8 h18 hp8
  go_wp2_with fail
  refine (allFact_any _ hp9 (HRL.out _ (by simp))).mono ?_
  rintro e w11 ht
  obtain ⟨y9, b9, rfl, h19, hc9, hp10, ho9⟩ := ht.one (fun _ => rfl) rfl
  have hgl9 := hp9.lt
  have hz11 := Nat.le_trans hz10 hc9.size
  have HO9 := Lib.hid ho9
  have HC9 := Lib.hid hc9
  have H19 := Lib.hid h19
  clear ht ho9 hc9 h19 hp9
  have hbu := run_struct (P := Tryz.prog) (vs := [y0, y1, y2, y3, y4, y5, y6, .agg c7.toArray, y8, y9]) (cs := [[y0], [y1], [y2], [y3], [y4], [y5], [y6], c7, [y8], [y9]]) info_readTx places_readTx ⟨cells_one H10.out, cells_one H11.out, cells_one H12.out, cells_one H13.out, cells_one H14.out, cells_one H15.out, cells_one H16.out, rfl, cells_one H18.out, cells_one H19.out, trivial⟩ (by simp [PlaceOk, HL7.out]) (by simp [HL7.out]) #[(0, y0), (1, y1), (2, y2), (3, y3), (4, y4), (5, y5), (6, y6), (7, .agg c7.toArray), (8, y8), (9, y9)] rfl
  have hone : ∀ v ∈ [[y0], [y1], [y2], [y3], [y4], [y5], [y6], c7, [y8], [y9]].flatten, v.oneCell' = true := by
    intro v hv
    simp only [List.flatten_cons, List.flatten_nil, List.mem_append, List.mem_singleton, List.not_mem_nil, or_false] at hv
    rcases hv with rfl | rfl | rfl | rfl | rfl | rfl | rfl | hv | rfl | rfl
    · exact H10.out
    · exact H11.out
    · exact H12.out
    · exact H13.out
    · exact H14.out
    · exact H15.out
    · exact H16.out
    · exact H17.out v hv
    · exact H18.out
    · exact H19.out
  have HOUT := Lib.hid (show Fs.Out (.cons i64 (.cons u64 (.cons u64 (.cons u64 (.cons u64 (.cons i64 (.cons i64 (.cons .dig (.cons i64 (.cons (.list tFact) .nil)))))))))) w11 (Nw (w.heap.size + 1) w11) [r0, r1, r2, r3, r4, r5, r6, r7, r8, r9] [[y0], [y1], [y2], [y3], [y4], [y5], [y6], c7, [y8], [y9]].flatten bad b9 from by
    have := Fs.Out.step HO0.out (Fs.Out.step HO1.out (Fs.Out.step HO2.out (Fs.Out.step HO3.out (Fs.Out.step HO4.out (Fs.Out.step HO5.out (Fs.Out.step HO6.out (Fs.Out.step HO7.out (Fs.Out.step HO8.out (Fs.Out.step HO9.out (Fs.Out.nil_ w11 _ _) (Chg.refl _ _) hgl9 hz10) HC9.out hgl8 hz9) (HC8.out.trans HC9.out fun b h => .inl h) hgl7 hz8) ((HC7.out.trans HC8.out fun b h => .inl h).trans HC9.out fun b h => .inl h) hgl6 hz7) (((HC6.out.trans HC7.out fun b h => .inl h).trans HC8.out fun b h => .inl h).trans HC9.out fun b h => .inl h) hgl5 hz6) ((((HC5.out.trans HC6.out fun b h => .inl h).trans HC7.out fun b h => .inl h).trans HC8.out fun b h => .inl h).trans HC9.out fun b h => .inl h) hgl4 hz5) (((((HC4.out.trans HC5.out fun b h => .inl h).trans HC6.out fun b h => .inl h).trans HC7.out fun b h => .inl h).trans HC8.out fun b h => .inl h).trans HC9.out fun b h => .inl h) hgl3 hz4) ((((((HC3.out.trans HC4.out fun b h => .inl h).trans HC5.out fun b h => .inl h).trans HC6.out fun b h => .inl h).trans HC7.out fun b h => .inl h).trans HC8.out fun b h => .inl h).trans HC9.out fun b h => .inl h) hgl2 hz3) (((((((HC2.out.trans HC3.out fun b h => .inl h).trans HC4.out fun b h => .inl h).trans HC5.out fun b h => .inl h).trans HC6.out fun b h => .inl h).trans HC7.out fun b h => .inl h).trans HC8.out fun b h => .inl h).trans HC9.out fun b h => .inl h) hgl1 hz2) ((((((((HC1.out.trans HC2.out fun b h => .inl h).trans HC3.out fun b h => .inl h).trans HC4.out fun b h => .inl h).trans HC5.out fun b h => .inl h).trans HC6.out fun b h => .inl h).trans HC7.out fun b h => .inl h).trans HC8.out fun b h => .inl h).trans HC9.out fun b h => .inl h) hgl0 hz1
    simpa using this)
  have HCA := Lib.hid (show Chg (fun k => k = g) w1 w11 from (((((((((HC0.out.trans HC1.out fun b h => .inl h).trans HC2.out fun b h => .inl h).trans HC3.out fun b h => .inl h).trans HC4.out fun b h => .inl h).trans HC5.out fun b h => .inl h).trans HC6.out fun b h => .inl h).trans HC7.out fun b h => .inl h).trans HC8.out fun b h => .inl h).trans HC9.out fun b h => .inl h))
  have hcl : [[y0], [y1], [y2], [y3], [y4], [y5], [y6], c7, [y8], [y9]].flatten.length = 41 := by simp [HL7.out]
  obtain ⟨C, hC⟩ : ∃ C, C = [[y0], [y1], [y2], [y3], [y4], [y5], [y6], c7, [y8], [y9]].flatten := ⟨_, rfl⟩
  rw [← hC] at hbu hone hcl HOUT
  have HBU := Lib.hid hbu
  have HONE := Lib.hid hone
  have HCL := Lib.hid hcl
  have HI := Lib.hid (show (Tryz.prog.info? 27).map (·.size) = some C.length from by rw [hcl]; exact size_readTx)
  have HK2 := Lib.hid (HK.out.chg HCA.out (show ¬ w.heap.size = g from by omega))
  clear hbu hone hcl hC HK HO0 HC0 H10 HO1 HC1 H11 HO2 HC2 H12 HO3 HC3 H13 HO4 HC4 H14 HO5 HC5 H15 HO6 HC6 H16 HO7 HC7 H17 HO8 HC8 H18 HO9 HC9 H19 HL7
  have HP := Lib.hid hp10
  have hgX := hp10.lt
  clear hp10
  have hbu := HBU.out w11
  have HX := Lib.hid (HP.out.parts)
  go_wp2_with (first | (refine wpList_build_ rfl 27 _ rfl #[(0, y0), (1, y1), (2, y2), (3, y3), (4, y4), (5, y5), (6, y6), (7, .agg c7.toArray), (8, y8), (9, y9)] (by simp [Act.eval]) _ hbu ?_) | (refine wpList_store_blk (cs0 := ([.int .i64 0, .int .u64 0, .int .u64 0, .int .u64 0, .int .u64 0, .int .i64 0, .int .i64 0] ++ List.replicate 32 (.int .u8 0) ++ [.int .i64 0, .slice none 0 0] : List Value)) (cs := C) rfl 27 _ _ rfl (Blk.new w11 _ _) rfl rfl (by rw [HCL.out]; rfl) HI.out HONE.out ?_; intro wx hbx hcx; have HBX := Lib.hid hbx; have HCX := Lib.hid hcx; clear hbx hcx))
  obtain ⟨vy, ey, hblk, herr⟩ := HX.out
  have HCX' := Lib.hid (show Chg (fun _ => False) w11 wx from ((Chg.refl _ w11).alloc _).trans HCX.out fun b h => .inr (Nat.le_of_eq h.symm))
  have HGX := Lib.hid (hblk.chg HCX'.out id)
  have HKX := Lib.hid (HK2.out.chg HCX'.out id)
  have HE := Lib.hid herr
  clear hbu hblk herr HX HBU
  refine wp_region_hoist [0, 1, 2, 3, 4] [5] [6] (fun w' => Blk w' w11.heap.size 27 C.toArray ∧ Blk w' g 133 #[vy, ey])
    (by kernel_rfl) (by kernel_rfl) (by kernel_rfl) (by kernel_rfl) (by kernel_rfl) (by kernel_rfl) ⟨HBX.out.drew, HGX.out.drew⟩ ?_
  (refine HoistK.load (by rfl) (by kernel_rfl) 27 _ rfl w11.heap.size 0 rfl C _ (fun w' hw => hw.1.range) Tryz.underlying27 rfl HI.out ?_; simp only [Act.put, List.setIfInBounds_toArray, List.getElem_toArray, List.getElem_cons_zero, List.set_cons_succ, List.set_cons_zero])
  (refine HoistK.yes (by rfl) (by kernel_rfl) ⟨?_, fun w' hSw => ?_, ?_⟩; rotate_left; (· go_simp; try with_reducible rfl); simp only [Act.put, List.setIfInBounds_toArray, List.getElem_toArray, List.getElem_cons_succ, List.getElem_cons_zero, List.set_cons_succ, List.set_cons_zero])
  (refine HoistK.yes (by rfl) (by kernel_rfl) ⟨?_, fun w' hSw => ?_, ?_⟩; rotate_left; (· go_simp; try with_reducible rfl); simp only [Act.put, List.setIfInBounds_toArray, List.getElem_toArray, List.getElem_cons_succ, List.getElem_cons_zero, List.set_cons_succ, List.set_cons_zero])
  (refine HoistK.yes (by rfl) (by kernel_rfl) ⟨?_, fun w' hSw => ?_, ?_⟩; rotate_left; (· go_simp; try with_reducible rfl); simp only [Act.put, List.setIfInBounds_toArray, List.getElem_toArray, List.getElem_cons_succ, List.getElem_cons_zero, List.set_cons_succ, List.set_cons_zero])
  (refine HoistK.yes (by rfl) (by kernel_rfl) ⟨?_, fun w' hSw => ?_, ?_⟩; rotate_left; (· have hcc := hSw.2.cell; go_simp; try with_reducible rfl); simp only [Act.put, List.setIfInBounds_toArray, List.getElem_toArray, List.getElem_cons_succ, List.getElem_cons_zero, List.set_cons_succ, List.set_cons_zero])
  refine HoistK.nil_ ?_
  simp only [opsAt, List.filterMap_cons, List.filterMap_nil, List.getElem?_toArray, List.getElem?_cons_succ, List.getElem?_cons_zero]
  refine Effects.cons_ fun _ hQ1 => ?_
  go_wp2_with (refine wpList_store_blk (cs0 := ([.int .i64 0, .int .u64 0, .int .u64 0, .int .u64 0, .int .u64 0, .int .i64 0, .int .i64 0] ++ List.replicate 32 (.int .u8 0) ++ [.int .i64 0, .slice none 0 0] : List Value)) (cs := C) rfl 27 _ _ rfl HKX.out.drew rfl rfl (by rw [HCL.out]; rfl) HI.out HONE.out ?_; intro wy hby hcy; have HBY := Lib.hid hby; have HCY := Lib.hid hcy; clear hby hcy)
  refine hQ1 _ _ ⟨HBX.out.drew.chg HCY.out (fun h => by omega), HGX.out.drew.chg HCY.out (fun h => by omega)⟩ (Effects.nil_ fun _ hQ2 => ?_)
  go_wp2
  have hld := run_loadVar_mid (P := Tryz.prog) wy w.heap.size 0 27 C _ HBY.out.range Tryz.underlying27 rfl HI.out
  refine bodyPost_ret (v := .tuple #[.agg C.toArray, ey]) (by simp [results, Tryz.results50, asAddr, hld]) rfl ?_
  have hcf : Chg (fun b => b = w.heap.size) w11 wy := ((HCX'.out.mono fun _ h => h.elim).drew).trans HCY.out fun b h => .inl h
  exact ReadOut.mk (n := 10) HOUT.out HSS.out rfl HE.out (HB1.out.trans (HCA.out.below HB1.out.size fun b h => by omega)) hcf

end Go.Proofs.YtjjgmkfkmckkoabGreatDoor

/- Codec: all[Tx]. -/
namespace Go.Proofs.YtjjgmkfkmckkoabGreatDoor
open Go.RowKit Go.Maps
attribute [-simp] Tryz.isAgg24 Tryz.typeInfo24 Tryz.isAgg27 Tryz.typeInfo27

theorem size_allTx_any : (Tryz.prog.info? 27).map (·.size) = some 41 := by kernel_rfl
theorem sizes_allTx_any : (Tryz.prog.info? 27).map (fun i => (i.zero.map (fun z => z.cells.size), i.size)) = some (some 41, 41) := by kernel_rfl
theorem info_allTx_any : (Tryz.prog.info? 27).map (fun i => (i.zero, i.size, i.bytes)) = some (some (.agg (([.int .i64 0, .int .u64 0, .int .u64 0, .int .u64 0, .int .u64 0, .int .i64 0, .int .i64 0] ++ List.replicate 32 (.int .u8 0) ++ [.int .i64 0, .slice none 0 0] : List Value)).toArray), 41, 120) := by kernel_rfl
set_option maxHeartbeats 8000000 in
set_option maxRecDepth 100000 in
theorem allTx_any (w : World) {X : Nat → Prop} {E g : Nat} {sent : Value} {x : List UInt8} {rows : List (List UInt8)} {bad : Bool} (h : Pt w X E g sent (x :: rows) bad) (hxl : x.length ≤ 262144) :
    Calls Tryz.prog 74 #[.pointer (some ⟨g, 0, none⟩), .func (Fn.func 50) #[] #[]] w (Took (.list tTx) w X E g sent x rows bad) := by
  have hgx := h.2.2.1
  have hgw := h.lt
  have hEw := h.2.2.2.2.1
  have HGX := Lib.hid hgx
  have HX1 := Lib.hid (show ∀ b, X b → b < w.heap.size from h.2.2.2.1)
  have H := Lib.hid (next_any _ h)
  clear h hgx
  go_enter Tryz.func74, Tryz.ntmps74
  go_wp2_with fail
  refine H.out.mono ?_
  rintro e w1 ⟨v1, rfl, hb1, hc1, hp1⟩
  have HSP := Lib.hid (split_any w1 hb1 (by omega))
  have hz1 := hc1.size
  have HP1 := Lib.hid hp1
  have HC1 := Lib.hid hc1
  obtain ⟨A1, c1, rfl⟩ := hb1.form
  clear hb1 hp1 hc1 H
  go_wp2_with fail
  refine HSP.out.mono ?_
  rintro e w2 ⟨hb2, ⟨hno, rfl⟩ | ⟨v2, l, hsp, rfl, hbss⟩⟩
  · have HNO := Lib.hid hno; clear hno
    have hp2 := HP1.out.below hb2
    obtain ⟨⟨sa, rfl⟩, hgl⟩ := hp2.1
    have hgl : w2.cell? ⟨gF, 0, none⟩ = some _ := hgl
    unfold gF at hgl
    have hlx := hp2.2.2.2.1
    have hE2 := hp2.2.2.2.2.1
    have hal := (Below.refl w2.heap.size w2).alloc (Nat.le_refl _) (.cells #[.string ⟨#[97, 32, 108, 105, 115, 116]⟩, .iface 205 (.pointer (some sa))] 117)
    have HBAD := Lib.hid (bad_any _ (hp2.below hal) (Chain.fresh _ ⟨fun h => absurd (hlx _ h) (Nat.lt_irrefl _), hE2⟩))
    have HC2 := Lib.hid (HC1.out.trans (Chg.of_below hb2 fun k => k = g) fun b h => .inl h)
    clear hp2 hlx hal hE2 hb2 HP1 HC1 HSP
    go_wp2_with fail
    refine HBAD.out.mono ?_
    rintro e w3 ⟨rfl, hc3, hp3⟩
    have HP3 := Lib.hid hp3
    have HC3 := Lib.hid hc3
    clear hp3 hc3 HBAD
    go_wp2_with fail
    refine wp_loop_rounds 1 ?_
    rw [rounds_succ]
    go_wp2
    go_ret
    exact ⟨[.slice none 0 0], true, rfl, (HC2.out.alloc _).trans HC3.out fun b h => .inl h, HP3.out, SOut.noList HNO.out rfl⟩
  · have hrl : ∀ y ∈ l, y.length ≤ 262144 := fun y hy => Nat.le_trans (joinP_mem_le hsp y hy) hxl
    have hll : l.length ≤ 32768 := by
      have h1 := splitB_back hsp
      have h2 := joinP_count l
      rw [← h1, joinB_length] at hxl
      omega
    obtain ⟨A2, c2, rfl⟩ := hbss.form
    have HROWS := Lib.hid (((hbss.read fun y hy => by have := hrl y hy; omega).lt_ (T := fun b => w1.heap.size ≤ b) fun b h => h.elim id id).subs (T := fun b => b ≠ g) fun b hb _ => by have := hb.1; omega)
    have HP2 := Lib.hid (HP1.out.below hb2)
    have HC2 := Lib.hid (HC1.out.trans (Chg.of_below hb2 fun k => k = g) fun b h => .inl h)
    have HSPL := Lib.hid hsp
    have HRL := Lib.hid hrl
    have hwS : w.heap.size ≤ w2.heap.size := Nat.le_trans hz1 hb2.size
    clear hbss hsp hrl hb2 HP1 HC1 HSP hxl
    go_wp2_with fail
    go_loopw [7, 28] (fun o i wr => ∃ k : Nat, k ≤ l.length ∧ i = .int .i64 k ∧ AllI 27 41 tTx w w2 X E g sent rows bad l o k wr) (fun _ i _ => l.length - (intOf i).toNat)
    case atStart => exact ⟨0, Nat.zero_le _, rfl, AllI.start HP2.out⟩
    case round =>
      obtain ⟨k, hk, rfl, hI⟩ := hrel
      by_cases hlt : k < l.length
      · obtain ⟨css, bk, hown, hob, hlo, hpt, hch⟩ := hI
        obtain ⟨ba, oa, ua, rfl, hca, hua, _, hSb⟩ := (HROWS.out.chg hch (fun b hb h => hb h)).at_ hlt
        have htk : l.take (k + 1) = l.take k ++ [l[k]] := List.take_succ_eq_append_getElem hlt
        have hyl := HRL.out l[k] (List.getElem_mem hlt)
        obtain ⟨y, hy⟩ : ∃ y, y = l[k] := ⟨_, rfl⟩
        rw [← hy] at hua htk hyl
        have HR := Lib.hid (readTx_any wr hua hyl hpt.1)
        obtain ⟨Ay, cy, rfl⟩ := hua.form
        obtain ⟨Ao, co, rfl⟩ := hown.form
        have HOWN := Lib.hid hown
        have HOB := Lib.hid hob
        have HLO := Lib.hid hlo
        have HPT := Lib.hid hpt
        have HCH := Lib.hid hch
        have HTK := Lib.hid htk
        have H63 := Lib.hid (show k + 1 ≤ maxLen ∧ (k + 1) * 120 ≤ 140737488355328 from ⟨by simp only [maxLen]; omega, by omega⟩)
        have hzr := hch.size
        clear hown hob hlo hpt hch htk hy hua hyl
        go_wp2_with fail
        refine HR.out.mono ?_
        rintro e w3 hro
        obtain ⟨C, err, bd, rfl, h1, hl, hb3, he, ho⟩ := hro.agg (fun _ => rfl)
        have hl : C.length = 41 := hl
        have HL := Lib.hid hl
        have HI := Lib.hid (show (Tryz.prog.info? 27).map (·.size) = some C.length from by rw [hl]; exact size_allTx_any)
        have HI2 := Lib.hid (show (Tryz.prog.info? 27).map (fun i => (i.zero.map (fun z => z.cells.size), i.size)) = some (some C.length, C.length) from by rw [hl]; exact sizes_allTx_any)
        have H1 := Lib.hid h1
        clear h1 hl
        have HB3 := Lib.hid hb3
        have HP3 := Lib.hid (HPT.out.below hb3)
        have HO := Lib.hid (ho.or_ bk)
        clear hro hb3 ho HR
        rcases he with ⟨rfl, rfl⟩ | ⟨rfl, hcn⟩
        · skip
          go_wp2_with (first
            | (refine wpList_store_blk (cs0 := ([.int .i64 0, .int .u64 0, .int .u64 0, .int .u64 0, .int .u64 0, .int .i64 0, .int .i64 0] ++ List.replicate 32 (.int .u8 0) ++ [.int .i64 0, .slice none 0 0] : List Value)) (cs := C) rfl 27 _ _ rfl (Blk.new w3 _ _) rfl rfl (by rw [HL.out]; rfl) HI.out H1.out ?_; intro w4 hb4 hc4; have HB4 := Lib.hid hb4; have HC4 := Lib.hid (show Chg (fun _ => False) w3 w4 from ((Chg.refl _ w3).alloc _).trans hc4 fun b h => .inr (Nat.le_of_eq h.symm)); clear hb4 hc4; have HO2 := Lib.hid (show ∀ ob, Own (w4.alloc ob) 27 41 (.slice Ao k co) k css.flatten from fun ob => own_keep HOWN.out fun b hb => (by have h1 := own_lt HOWN.out hb; have h2 := HOB.out b hb; have h3 := HB3.out.size; exact (Below.heap_alloc w4 ob b (Nat.lt_of_lt_of_le (Nat.lt_of_lt_of_le h1 h3) HC4.out.size)).trans ((HC4.out.block b (Nat.lt_of_lt_of_le h1 h3) id).trans (HB3.out.block b h1)))); have HS2 := Lib.hid (Cs.of_new w4 27 (size := 41) 1 (cs := C) (by rw [HL.out]) (by simp only [maxLen]; decide)))
            | (refine wpList_load_blk' rfl 27 _ rfl HB4.out rfl Tryz.underlying27 rfl HI.out ?_)
            | (refine wpList_row1 rfl 35 27 _ rfl Tryz.underlying35 (.agg C.toArray) rfl C rfl HI2.out (by rw [HL.out]; decide) (by rw [HL.out]; decide) ?_)
            | (at_builtin; refine wpList_app _ rfl _ _ _ rfl Tryz.underlying35 info_allTx_any rfl (by decide) (HO2.out _) rfl HS2.out rfl H1.out H63.out.1 H63.out.2 ?_; intro v6 w6 ho6 hc6 hnil6 hat6; clear hnil6; have HO6 := Lib.hid ho6; clear ho6; have HC6 := Lib.hid hc6; clear hc6; have HAT6 := Lib.hid hat6; clear hat6))
          refine ⟨⟨k + 1, by omega, by push_cast; rfl, AllI.step hgw hwS HOWN.out HOB.out HLO.out HCH.out HB3.out (by have := HO.out; rw [Bool.or_false] at this; exact this) (HC4.out.mono (M' := fun b => b = g) fun _ h => h.elim) (HP3.out.chg HC4.out fun b h => h.elim) HTK.out HO6.out HC6.out HAT6.out⟩, ?_⟩
          simp only [intOf]; omega
        · skip
          obtain ⟨gw, rfl⟩ := hcn.form
          have HCN := Lib.hid hcn; clear hcn
          go_wp2_with (refine wpList_store_blk (cs0 := ([.int .i64 0, .int .u64 0, .int .u64 0, .int .u64 0, .int .u64 0, .int .i64 0, .int .i64 0] ++ List.replicate 32 (.int .u8 0) ++ [.int .i64 0, .slice none 0 0] : List Value)) (cs := C) rfl 27 _ _ rfl (Blk.new w3 _ _) rfl rfl (by rw [HL.out]; rfl) HI.out H1.out ?_; intro w4 hb4 hc4; have HB4 := Lib.hid hb4; have HC4 := Lib.hid (show Chg (fun _ => False) w3 w4 from ((Chg.refl _ w3).alloc _).trans hc4 fun b h => .inr (Nat.le_of_eq h.symm)); clear hb4 hc4)
          have hp4 := (HP3.out.chg HC4.out fun b h => h.elim)
          have hlx := hp4.2.2.2.1
          have hE4 := hp4.2.2.2.2.1
          have hz4 := HC4.out.size
          have hz3 := HB3.out.size
          have hal := (Below.refl w4.heap.size w4).alloc (Nat.le_refl _) (.cells #[.string ⟨#[105, 110, 32, 97, 32, 108, 105, 115, 116]⟩, .iface 113 (.pointer (some ⟨gw, 0, none⟩))] 117)
          have hcn4 := (HCN.out.to (w' := w4) (S' := fun b => ¬ (X b ∨ (Value.slice Ao k co).ownBlock = some b) ∧ E ≤ b) (fun b hb hlt => ⟨Nat.lt_of_lt_of_le hlt HC4.out.size, HC4.out.block b hlt id⟩) fun b hb hlt => ⟨fun h => h.elim (fun h => by have := HX1.out b h; omega) fun h => by have := own_lt HOWN.out h; omega, by omega⟩)
          have HBAD := Lib.hid (bad_any _ (hp4.below hal) (hcn4.freshMore _ ⟨fun h => absurd (hlx _ h) (Nat.lt_irrefl _), hE4⟩))
          clear hp4 hlx hal hcn4 hE4
          refine HBAD.out.mono ?_
          rintro e w5 ⟨rfl, hc5, hp5⟩
          have HP5 := Lib.hid hp5
          have HC35 := Lib.hid (show Chg (fun b => b = g) w3 w5 from ((HC4.out.mono (M' := fun b => b = g) fun _ h => h.elim).alloc _).trans hc5 fun b h => .inl h)
          have HB5 := Lib.hid ((HB4.out.alloc _).chg hc5 (fun h => by omega))
          clear hc5 hp5 HBAD
          have HO2 := Lib.hid (show ∀ ob, Own (w5.alloc ob) 27 41 (.slice Ao k co) k css.flatten from fun ob => own_keep HOWN.out fun b hb => (by have h1 := own_lt HOWN.out hb; have h2 := HOB.out b hb; have h3 := HB3.out.size; exact (Below.heap_alloc w5 ob b (Nat.lt_of_lt_of_le (Nat.lt_of_lt_of_le h1 h3) HC35.out.size)).trans ((HC35.out.block b (Nat.lt_of_lt_of_le h1 h3) (fun e => by omega)).trans (HB3.out.block b h1))))
          have HS2 := Lib.hid (Cs.of_new w5 27 (size := 41) 1 (cs := C) (by rw [HL.out]) (by simp only [maxLen]; decide))
          go_wp2_with (first
            | (refine wpList_load_blk' rfl 27 _ rfl HB5.out rfl Tryz.underlying27 rfl HI.out ?_)
            | (refine wpList_row1 rfl 35 27 _ rfl Tryz.underlying35 (.agg C.toArray) rfl C rfl HI2.out (by rw [HL.out]; decide) (by rw [HL.out]; decide) ?_)
            | (at_builtin; refine wpList_app _ rfl _ _ _ rfl Tryz.underlying35 info_allTx_any rfl (by decide) (HO2.out _) rfl HS2.out rfl H1.out H63.out.1 H63.out.2 ?_; intro v6 w6 ho6 hc6 hnil6 hat6; clear hnil6; have HO6 := Lib.hid ho6; clear ho6; have HC6 := Lib.hid hc6; clear hc6; have HAT6 := Lib.hid hat6; clear hat6))
          refine ⟨⟨k + 1, by omega, by push_cast; rfl, AllI.step hgw hwS HOWN.out HOB.out HLO.out HCH.out HB3.out (by have := HO.out; rw [Bool.or_true] at this; exact this) HC35.out HP5.out HTK.out HO6.out HC6.out HAT6.out⟩, ?_⟩
          simp only [intOf]; omega
      · have hk' : k = l.length := by omega
        subst hk'
        have HI := Lib.hid hI
        clear hI
        go_wp2_with fail
        go_ret
        exact HI.out.out rfl HSPL.out (fun _ => rfl) HGX.out HC2.out

end Go.Proofs.YtjjgmkfkmckkoabGreatDoor

/- Codec: one[Sig]. -/
namespace Go.Proofs.YtjjgmkfkmckkoabGreatDoor
open Go.RowKit Go.Maps
attribute [-simp] Tryz.isAgg24 Tryz.typeInfo24 Tryz.isAgg37 Tryz.typeInfo37

theorem size_oneSig_any : (Tryz.prog.info? 37).map (·.size) = some 33 := by kernel_rfl
set_option maxHeartbeats 4000000 in
set_option maxRecDepth 100000 in
theorem oneSig_any (w : World) {X : Nat → Prop} {E g : Nat} {sent : Value} {x : List UInt8} {rows : List (List UInt8)} {bad : Bool} (h : Pt w X E g sent (x :: rows) bad) (hxl : x.length ≤ 262144) :
    Calls Tryz.prog 94 #[.pointer (some ⟨g, 0, none⟩), .func (Fn.func 95) #[] #[]] w (Took tSig w X E g sent x rows bad) := by
  have hgx := h.2.2.1
  have hgw := h.lt
  have hEw := h.2.2.2.2.1
  have hp0 := h.more ((Below.refl w.heap.size w).alloc (Nat.le_refl _) (.cells (([.int .i64 0] ++ List.replicate 32 (.int .u8 0) : List Value)).toArray 37)) (fun b => b = w.heap.size) (fun b hb => ⟨Nat.le_of_eq hb.symm, by rw [hb]; simp⟩)
  have H := Lib.hid (next_any _ hp0)
  have HN := Lib.hid (Blk.new w 37 (([.int .i64 0] ++ List.replicate 32 (.int .u8 0) : List Value)).toArray)
  have HGX := Lib.hid hgx
  have HX1 := Lib.hid (show ∀ b, X b → b < w.heap.size from h.2.2.2.1)
  clear h hp0 hgx
  go_enter Tryz.func94, Tryz.ntmps94
  go_wp2_with fail
  refine H.out.mono ?_
  rintro e w1 ⟨v1, rfl, hb1, hc1, hp1⟩
  have HK := Lib.hid (HN.out.chg hc1 (fun h => by omega))
  have hz1 : w.heap.size + 1 ≤ w1.heap.size := by simpa using hc1.size
  have HR := Lib.hid (readSig_any w1 hb1 hxl hp1.1)
  have HC1 := Lib.hid (show Chg (fun k => k = g) w w1 from ((Chg.refl (fun k => k = g) w).alloc _).trans hc1 fun b h => .inl h)
  have HP1 := Lib.hid hp1
  obtain ⟨A1, c1, rfl⟩ := hb1.form
  clear hb1 hp1 hc1 H HN hxl
  go_wp2_with fail
  refine HR.out.mono ?_
  rintro e w2 hro
  obtain ⟨C, err, bd, rfl, h1, hl, hb2, he, ho⟩ := hro.agg (fun _ => rfl)
  have hl : C.length = 33 := hl
  have hz2 := Nat.le_trans hz1 hb2.size
  have HI := Lib.hid (show (Tryz.prog.info? 37).map (·.size) = some C.length from by rw [hl]; exact size_oneSig_any)
  have H1 := Lib.hid h1
  have HL := Lib.hid hl
  have HP2 := Lib.hid (HP1.out.below hb2)
  have HK2 := Lib.hid (HK.out.below hb2 HK.out.lt)
  have HC2 := Lib.hid (HC1.out.trans (Chg.of_below hb2 fun k => k = g) fun b h => .inl h)
  have HO := Lib.hid (ho.or_ bad)
  clear hro h1 hl hb2 ho HR HP1 HK HC1
  rcases he with ⟨rfl, rfl⟩ | ⟨rfl, hch⟩
  · go_wp2_with (first
      | (refine wpList_store_blk (cs0 := ([.int .i64 0] ++ List.replicate 32 (.int .u8 0) : List Value)) (cs := C) rfl 37 _ _ rfl (Blk.new w2 _ _) rfl rfl (by rw [HL.out]; rfl) HI.out H1.out ?_; intro w3 hb3 hc3; have HB3 := Lib.hid hb3
         have HC3 := Lib.hid (show Chg (fun _ => False) w2 w3 from ((Chg.refl _ w2).alloc _).trans hc3 fun b h => .inr (Nat.le_of_eq h.symm)); clear hb3 hc3
         have HK3 := Lib.hid (HK2.out.chg HC3.out id))
      | (refine wpList_load_blk' rfl 37 _ rfl HB3.out rfl Tryz.underlying37 rfl HI.out ?_)
      | (refine wpList_store_blk (cs0 := ([.int .i64 0] ++ List.replicate 32 (.int .u8 0) : List Value)) (cs := C) rfl 37 _ _ rfl HK3.out rfl rfl (by rw [HL.out]; rfl) HI.out H1.out ?_; intro w9 hb9 hc9; have HB9 := Lib.hid hb9; have HC9 := Lib.hid hc9; clear hb9 hc9))
    have hld := run_loadVar_mid (P := Tryz.prog) w9 w.heap.size 0 37 C _ HB9.out.range Tryz.underlying37 rfl HI.out
    refine bodyPost_ret (v := .agg C.toArray) (by simp [results, Tryz.results94, asAddr, hld, Act.put]) rfl ?_
    have hp9 := (HP2.out.chg HC3.out fun b h => h.elim).chg HC9.out fun b h => ⟨.inr h, fun e => by omega⟩
    have ho9 := HO.out.nw (w' := w9) (k' := w.heap.size) (fun b hb hlt => ⟨Nat.lt_of_lt_of_le hlt (Nat.le_trans HC3.out.size HC9.out.size), (HC9.out.block b (Nat.lt_of_lt_of_le hlt HC3.out.size) (fun e => by omega)).trans (HC3.out.block b hlt id)⟩) (by omega)
    rw [Bool.or_false] at ho9
    exact ⟨C, bad, rfl, (HC2.out.trans (HC3.out.mono (M' := fun k => k = g) fun _ h => h.elim) fun b h => .inl h).trans HC9.out fun b h => .inr (Nat.le_of_eq h.symm), hp9.less (fun b h => .inl h) HGX.out, ho9⟩
  · obtain ⟨gw, rfl⟩ := hch.form
    have HCH := Lib.hid hch; clear hch
    go_wp2_with (first
      | (refine wpList_store_blk (cs0 := ([.int .i64 0] ++ List.replicate 32 (.int .u8 0) : List Value)) (cs := C) rfl 37 _ _ rfl (Blk.new w2 _ _) rfl rfl (by rw [HL.out]; rfl) HI.out H1.out ?_; intro w3 hb3 hc3; have HB3 := Lib.hid hb3
         have HC3 := Lib.hid (show Chg (fun _ => False) w2 w3 from ((Chg.refl _ w2).alloc _).trans hc3 fun b h => .inr (Nat.le_of_eq h.symm)); clear hb3 hc3
         have HK3 := Lib.hid (HK2.out.chg HC3.out id)))
    have hp3 := (HP2.out.chg HC3.out fun b h => h.elim)
    have hlx := hp3.2.2.2.1
    have hz3 := Nat.le_trans hz2 HC3.out.size
    have hal := (Below.refl w3.heap.size w3).alloc (Nat.le_refl _) (.cells #[.string ⟨#[119, 105, 116, 104, 105, 110]⟩, .iface 113 (.pointer (some ⟨gw, 0, none⟩))] 117)
    have hch3 := (HCH.out.to (w' := w3) (S' := fun b => ¬ (X b ∨ b = w.heap.size) ∧ E ≤ b) (fun b hb hlt => ⟨Nat.lt_of_lt_of_le hlt HC3.out.size, HC3.out.block b hlt id⟩) fun b hb hlt => ⟨fun h => h.elim (fun h => by have := HP2.out.2.2.2.1 b (.inl h); have := HX1.out b h; omega) fun h => by omega, by omega⟩)
    have HBAD := Lib.hid (bad_any _ (hp3.below hal) (hch3.freshMore _ ⟨fun h => absurd (hlx _ h) (Nat.lt_irrefl _), by omega⟩))
    clear hp3 hlx hal hch3
    refine HBAD.out.mono ?_
    rintro e w4 ⟨rfl, hc4, hp4⟩
    have HC4 := Lib.hid hc4
    have HP4 := Lib.hid hp4
    have hgg : ¬ w.heap.size = g := by omega
    have HK4 := Lib.hid ((HK3.out.alloc _).chg hc4 (fun h => hgg h))
    have HB4 := Lib.hid ((HB3.out.alloc _).chg hc4 (fun h => by omega))
    clear hc4 hp4 HBAD
    go_wp2_with (first
      | (refine wpList_load_blk' rfl 37 _ rfl HB4.out rfl Tryz.underlying37 rfl HI.out ?_)
      | (refine wpList_store_blk (cs0 := ([.int .i64 0] ++ List.replicate 32 (.int .u8 0) : List Value)) (cs := C) rfl 37 _ _ rfl HK4.out rfl rfl (by rw [HL.out]; rfl) HI.out H1.out ?_; intro w9 hb9 hc9; have HB9 := Lib.hid hb9; have HC9 := Lib.hid hc9; clear hb9 hc9))
    have hld := run_loadVar_mid (P := Tryz.prog) w9 w.heap.size 0 37 C _ HB9.out.range Tryz.underlying37 rfl HI.out
    refine bodyPost_ret (v := .agg C.toArray) (by simp [results, Tryz.results94, asAddr, hld, Act.put]) rfl ?_
    have hc34 : Chg (fun k => k = g) w2 w4 := ((HC3.out.mono (M' := fun k => k = g) fun _ h => h.elim).alloc _).trans HC4.out fun b h => .inl h
    have hp9 := HP4.out.chg HC9.out fun b h => ⟨.inr h, fun e => by omega⟩
    have ho9 := HO.out.nw (w' := w9) (k' := w.heap.size) (fun b hb hlt => ⟨Nat.lt_of_lt_of_le hlt (Nat.le_trans hc34.size HC9.out.size), (HC9.out.block b (Nat.lt_of_lt_of_le hlt hc34.size) (fun e => by omega)).trans (hc34.block b hlt (fun e => by omega))⟩) (by omega)
    rw [Bool.or_true] at ho9
    exact ⟨C, true, rfl, (HC2.out.trans hc34 fun b h => .inl h).trans HC9.out fun b h => .inr (Nat.le_of_eq h.symm), hp9.less (fun b h => .inl h) HGX.out, ho9⟩

end Go.Proofs.YtjjgmkfkmckkoabGreatDoor

/- Codec: a block read. -/
namespace Go.Proofs.YtjjgmkfkmckkoabGreatDoor
open Go.RowKit Go.Maps
attribute [-simp] Tryz.isAgg24 Tryz.typeInfo24 Tryz.isAgg39 Tryz.typeInfo39

theorem info_readBlock : (Tryz.prog.info? 39).map (fun i => (i.zero.map (fun z => z.cells.size))) = some (some 173) := by kernel_rfl
theorem size_readBlock : (Tryz.prog.info? 39).map (·.size) = some 173 := by kernel_rfl
theorem places_readBlock : ((match Tryz.prog.underlying 39 with | some (.struct fields) => fields.toList.mapM (fun f => (Tryz.prog.info? f.type).map fun i => (f.offset, i.size)) | _ => none)) = some [(0, 101), (101, 37), (138, 1), (139, 1), (140, 33)] := by kernel_rfl
set_option maxHeartbeats 4000000 in
set_option maxRecDepth 100000 in
theorem readBlock_any (w : World) {S : Nat → Prop} {v sent : Value} {bs : List UInt8} (h : Bs w S v bs) (hlen : bs.length ≤ 262144) (hg : Gl w sent) :
    Calls Tryz.prog 59 #[v] w (ReadOut (.tup (.cons tHeader (.cons tQC (.cons (.list tCommit) (.cons (.list tTx) (.cons tSig .nil)))))) w sent bs) := by
  have hal := (Below.refl w.heap.size w).alloc (Nat.le_refl _) (.cells ((([.int .i64 0, .int .i64 0, .int .i64 0, .int .i64 0] ++ List.replicate 96 (.int .u8 0) ++ [.int .i64 0]) ++ ([.int .i64 0, .int .i64 0, .int .i64 0] ++ List.replicate 32 (.int .u8 0) ++ [.slice none 0 0, .slice none 0 0]) ++ [.slice none 0 0, .slice none 0 0] ++ ([.int .i64 0] ++ List.replicate 32 (.int .u8 0)) : List Value)).toArray 39)
  have HS := Lib.hid (psplit_any _ (h.below hal) (by omega) (hg.below hal) 5 (by omega) ⟨#[97, 32, 98, 108, 111, 99, 107]⟩)
  have HN := Lib.hid (Blk.new w 39 ((([.int .i64 0, .int .i64 0, .int .i64 0, .int .i64 0] ++ List.replicate 96 (.int .u8 0) ++ [.int .i64 0]) ++ ([.int .i64 0, .int .i64 0, .int .i64 0] ++ List.replicate 32 (.int .u8 0) ++ [.slice none 0 0, .slice none 0 0]) ++ [.slice none 0 0, .slice none 0 0] ++ ([.int .i64 0] ++ List.replicate 32 (.int .u8 0)) : List Value)).toArray)
  have HAL := Lib.hid hal
  obtain ⟨A, cap, rfl⟩ := h.form
  clear h hg hal
  go_enter Tryz.func59, Tryz.ntmps59
  go_wp2_with fail
  refine HS.out.mono ?_
  rintro e w1 ⟨g, rows, bad, rfl, hgw, hb1, hp, hn, hrl, hs⟩
  obtain ⟨r0, r1, r2, r3, r4, rfl⟩ : ∃ r0 r1 r2 r3 r4, rows = [r0, r1, r2, r3, r4] := by
    match rows, hn with
    | [r0, r1, r2, r3, r4], _ => exact ⟨r0, r1, r2, r3, r4, rfl⟩
  have HK := Lib.hid (HN.out.below hb1 (by simp))
  have hgw' : w.heap.size + 1 ≤ g := by simpa using hgw
  have hz1 : w.heap.size + 1 ≤ w1.heap.size := by simpa using hb1.size
  have HB1 := Lib.hid (HAL.out.trans (hb1.mono (by simp)))
  have HSS := Lib.hid hs
  have HRL := Lib.hid (show ∀ x ∈ [r0, r1, r2, r3, r4], x.length ≤ 262144 from fun x hx => Nat.le_trans (hrl x hx) hlen)
  have hE : Pt w1 (fun b => b = g) (w.heap.size + 1) g sent [r0, r1, r2, r3, r4] bad := by simpa using hp
  clear HS HN HAL hgw hb1 hs hn hp hrl hlen
  have hp0 := hE
  clear hE
  go_wp2_with fail
  refine (oneHeader_any _ hp0 (HRL.out _ (by simp))).mono ?_
  rintro e w2 ht
  obtain ⟨c0, b0, rfl, h10, hl0, hc0, hp1, ho0⟩ := ht.agg (fun _ => rfl)
  have hl0 : c0.length = 101 := hl0
  have hgl0 := hp0.lt
  have hz2 := Nat.le_trans hz1 hc0.size
  have HO0 := Lib.hid ho0
  have HC0 := Lib.hid hc0
  have H10 := Lib.hid h10
  have HL0 := Lib.hid hl0
  clear hl0
  clear ht ho0 hc0 h10 hp0
  go_wp2_with fail
  refine (oneQC_any _ hp1 (HRL.out _ (by simp))).mono ?_
  rintro e w3 ht
  obtain ⟨c1, b1, rfl, h11, hl1, hc1, hp2, ho1⟩ := ht.agg (fun _ => rfl)
  have hl1 : c1.length = 37 := hl1
  have hgl1 := hp1.lt
  have hz3 := Nat.le_trans hz2 hc1.size
  have HO1 := Lib.hid ho1
  have HC1 := Lib.hid hc1
  have H11 := Lib.hid h11
  have HL1 := Lib.hid hl1
  clear hl1
  clear ht ho1 hc1 h11 hp1
  go_wp2_with fail
  refine (allCommit_any _ hp2 (HRL.out _ (by simp))).mono ?_
  rintro e w4 ht
  obtain ⟨y2, b2, rfl, h12, hc2, hp3, ho2⟩ := ht.one (fun _ => rfl) rfl
  have hgl2 := hp2.lt
  have hz4 := Nat.le_trans hz3 hc2.size
  have HO2 := Lib.hid ho2
  have HC2 := Lib.hid hc2
  have H12 := Lib.hid h12
  clear ht ho2 hc2 h12 hp2
  go_wp2_with fail
  refine (allTx_any _ hp3 (HRL.out _ (by simp))).mono ?_
  rintro e w5 ht
  obtain ⟨y3, b3, rfl, h13, hc3, hp4, ho3⟩ := ht.one (fun _ => rfl) rfl
  have hgl3 := hp3.lt
  have hz5 := Nat.le_trans hz4 hc3.size
  have HO3 := Lib.hid ho3
  have HC3 := Lib.hid hc3
  have H13 := Lib.hid h13
  clear ht ho3 hc3 h13 hp3
  go_wp2_with fail
  refine (oneSig_any _ hp4 (HRL.out _ (by simp))).mono ?_
  rintro e w6 ht
  obtain ⟨c4, b4, rfl, h14, hl4, hc4, hp5, ho4⟩ := ht.agg (fun _ => rfl)
  have hl4 : c4.length = 33 := hl4
  have hgl4 := hp4.lt
  have hz6 := Nat.le_trans hz5 hc4.size
  have HO4 := Lib.hid ho4
  have HC4 := Lib.hid hc4
  have H14 := Lib.hid h14
  have HL4 := Lib.hid hl4
  clear hl4
  clear ht ho4 hc4 h14 hp4
  have hbu := run_struct (P := Tryz.prog) (vs := [.agg c0.toArray, .agg c1.toArray, y2, y3, .agg c4.toArray]) (cs := [c0, c1, [y2], [y3], c4]) info_readBlock places_readBlock ⟨rfl, rfl, cells_one H12.out, cells_one H13.out, rfl, trivial⟩ (by simp [PlaceOk, HL0.out, HL1.out, HL4.out]) (by simp [HL0.out, HL1.out, HL4.out]) #[(0, .agg c0.toArray), (1, .agg c1.toArray), (2, y2), (3, y3), (4, .agg c4.toArray)] rfl
  have hone : ∀ v ∈ [c0, c1, [y2], [y3], c4].flatten, v.oneCell' = true := by
    intro v hv
    simp only [List.flatten_cons, List.flatten_nil, List.mem_append, List.mem_singleton, List.not_mem_nil, or_false] at hv
    rcases hv with hv | hv | rfl | rfl | hv
    · exact H10.out v hv
    · exact H11.out v hv
    · exact H12.out
    · exact H13.out
    · exact H14.out v hv
  have HOUT := Lib.hid (show Fs.Out (.cons tHeader (.cons tQC (.cons (.list tCommit) (.cons (.list tTx) (.cons tSig .nil))))) w6 (Nw (w.heap.size + 1) w6) [r0, r1, r2, r3, r4] [c0, c1, [y2], [y3], c4].flatten bad b4 from by
    have := Fs.Out.step HO0.out (Fs.Out.step HO1.out (Fs.Out.step HO2.out (Fs.Out.step HO3.out (Fs.Out.step HO4.out (Fs.Out.nil_ w6 _ _) (Chg.refl _ _) hgl4 hz5) HC4.out hgl3 hz4) (HC3.out.trans HC4.out fun b h => .inl h) hgl2 hz3) ((HC2.out.trans HC3.out fun b h => .inl h).trans HC4.out fun b h => .inl h) hgl1 hz2) (((HC1.out.trans HC2.out fun b h => .inl h).trans HC3.out fun b h => .inl h).trans HC4.out fun b h => .inl h) hgl0 hz1
    simpa using this)
  have HCA := Lib.hid (show Chg (fun k => k = g) w1 w6 from ((((HC0.out.trans HC1.out fun b h => .inl h).trans HC2.out fun b h => .inl h).trans HC3.out fun b h => .inl h).trans HC4.out fun b h => .inl h))
  have hcl : [c0, c1, [y2], [y3], c4].flatten.length = 173 := by simp [HL0.out, HL1.out, HL4.out]
  obtain ⟨C, hC⟩ : ∃ C, C = [c0, c1, [y2], [y3], c4].flatten := ⟨_, rfl⟩
  rw [← hC] at hbu hone hcl HOUT
  have HBU := Lib.hid hbu
  have HONE := Lib.hid hone
  have HCL := Lib.hid hcl
  have HI := Lib.hid (show (Tryz.prog.info? 39).map (·.size) = some C.length from by rw [hcl]; exact size_readBlock)
  have HK2 := Lib.hid (HK.out.chg HCA.out (show ¬ w.heap.size = g from by omega))
  clear hbu hone hcl hC HK HO0 HC0 H10 HO1 HC1 H11 HO2 HC2 H12 HO3 HC3 H13 HO4 HC4 H14 HL0 HL1 HL4
  have HP := Lib.hid hp5
  have hgX := hp5.lt
  clear hp5
  have hbu := HBU.out w6
  have HX := Lib.hid (HP.out.parts)
  go_wp2_with (first | (refine wpList_build_ rfl 39 _ rfl #[(0, .agg c0.toArray), (1, .agg c1.toArray), (2, y2), (3, y3), (4, .agg c4.toArray)] (by simp [Act.eval]) _ hbu ?_) | (refine wpList_store_blk (cs0 := (([.int .i64 0, .int .i64 0, .int .i64 0, .int .i64 0] ++ List.replicate 96 (.int .u8 0) ++ [.int .i64 0]) ++ ([.int .i64 0, .int .i64 0, .int .i64 0] ++ List.replicate 32 (.int .u8 0) ++ [.slice none 0 0, .slice none 0 0]) ++ [.slice none 0 0, .slice none 0 0] ++ ([.int .i64 0] ++ List.replicate 32 (.int .u8 0)) : List Value)) (cs := C) rfl 39 _ _ rfl (Blk.new w6 _ _) rfl rfl (by rw [HCL.out]; rfl) HI.out HONE.out ?_; intro wx hbx hcx; have HBX := Lib.hid hbx; have HCX := Lib.hid hcx; clear hbx hcx))
  obtain ⟨vy, ey, hblk, herr⟩ := HX.out
  have HCX' := Lib.hid (show Chg (fun _ => False) w6 wx from ((Chg.refl _ w6).alloc _).trans HCX.out fun b h => .inr (Nat.le_of_eq h.symm))
  have HGX := Lib.hid (hblk.chg HCX'.out id)
  have HKX := Lib.hid (HK2.out.chg HCX'.out id)
  have HE := Lib.hid herr
  clear hbu hblk herr HX HBU
  refine wp_region_hoist [0, 1, 2, 3, 4] [5] [6] (fun w' => Blk w' w6.heap.size 39 C.toArray ∧ Blk w' g 133 #[vy, ey])
    (by kernel_rfl) (by kernel_rfl) (by kernel_rfl) (by kernel_rfl) (by kernel_rfl) (by kernel_rfl) ⟨HBX.out.drew, HGX.out.drew⟩ ?_
  (refine HoistK.load (by rfl) (by kernel_rfl) 39 _ rfl w6.heap.size 0 rfl C _ (fun w' hw => hw.1.range) Tryz.underlying39 rfl HI.out ?_; simp only [Act.put, List.setIfInBounds_toArray, List.getElem_toArray, List.getElem_cons_zero, List.set_cons_succ, List.set_cons_zero])
  (refine HoistK.yes (by rfl) (by kernel_rfl) ⟨?_, fun w' hSw => ?_, ?_⟩; rotate_left; (· go_simp; try with_reducible rfl); simp only [Act.put, List.setIfInBounds_toArray, List.getElem_toArray, List.getElem_cons_succ, List.getElem_cons_zero, List.set_cons_succ, List.set_cons_zero])
  (refine HoistK.yes (by rfl) (by kernel_rfl) ⟨?_, fun w' hSw => ?_, ?_⟩; rotate_left; (· go_simp; try with_reducible rfl); simp only [Act.put, List.setIfInBounds_toArray, List.getElem_toArray, List.getElem_cons_succ, List.getElem_cons_zero, List.set_cons_succ, List.set_cons_zero])
  (refine HoistK.yes (by rfl) (by kernel_rfl) ⟨?_, fun w' hSw => ?_, ?_⟩; rotate_left; (· go_simp; try with_reducible rfl); simp only [Act.put, List.setIfInBounds_toArray, List.getElem_toArray, List.getElem_cons_succ, List.getElem_cons_zero, List.set_cons_succ, List.set_cons_zero])
  (refine HoistK.yes (by rfl) (by kernel_rfl) ⟨?_, fun w' hSw => ?_, ?_⟩; rotate_left; (· have hcc := hSw.2.cell; go_simp; try with_reducible rfl); simp only [Act.put, List.setIfInBounds_toArray, List.getElem_toArray, List.getElem_cons_succ, List.getElem_cons_zero, List.set_cons_succ, List.set_cons_zero])
  refine HoistK.nil_ ?_
  simp only [opsAt, List.filterMap_cons, List.filterMap_nil, List.getElem?_toArray, List.getElem?_cons_succ, List.getElem?_cons_zero]
  refine Effects.cons_ fun _ hQ1 => ?_
  go_wp2_with (refine wpList_store_blk (cs0 := (([.int .i64 0, .int .i64 0, .int .i64 0, .int .i64 0] ++ List.replicate 96 (.int .u8 0) ++ [.int .i64 0]) ++ ([.int .i64 0, .int .i64 0, .int .i64 0] ++ List.replicate 32 (.int .u8 0) ++ [.slice none 0 0, .slice none 0 0]) ++ [.slice none 0 0, .slice none 0 0] ++ ([.int .i64 0] ++ List.replicate 32 (.int .u8 0)) : List Value)) (cs := C) rfl 39 _ _ rfl HKX.out.drew rfl rfl (by rw [HCL.out]; rfl) HI.out HONE.out ?_; intro wy hby hcy; have HBY := Lib.hid hby; have HCY := Lib.hid hcy; clear hby hcy)
  refine hQ1 _ _ ⟨HBX.out.drew.chg HCY.out (fun h => by omega), HGX.out.drew.chg HCY.out (fun h => by omega)⟩ (Effects.nil_ fun _ hQ2 => ?_)
  go_wp2
  have hld := run_loadVar_mid (P := Tryz.prog) wy w.heap.size 0 39 C _ HBY.out.range Tryz.underlying39 rfl HI.out
  refine bodyPost_ret (v := .tuple #[.agg C.toArray, ey]) (by simp [results, Tryz.results59, asAddr, hld]) rfl ?_
  have hcf : Chg (fun b => b = w.heap.size) w6 wy := ((HCX'.out.mono fun _ h => h.elim).drew).trans HCY.out fun b h => .inl h
  exact ReadOut.mk (n := 5) HOUT.out HSS.out rfl HE.out (HB1.out.trans (HCA.out.below HB1.out.size fun b h => by omega)) hcf

end Go.Proofs.YtjjgmkfkmckkoabGreatDoor

/- Codec: all[Block]. -/
namespace Go.Proofs.YtjjgmkfkmckkoabGreatDoor
open Go.RowKit Go.Maps
attribute [-simp] Tryz.isAgg24 Tryz.typeInfo24 Tryz.isAgg39 Tryz.typeInfo39

theorem size_allBlock_any : (Tryz.prog.info? 39).map (·.size) = some 173 := by kernel_rfl
theorem sizes_allBlock_any : (Tryz.prog.info? 39).map (fun i => (i.zero.map (fun z => z.cells.size), i.size)) = some (some 173, 173) := by kernel_rfl
theorem info_allBlock_any : (Tryz.prog.info? 39).map (fun i => (i.zero, i.size, i.bytes)) = some (some (.agg ((([.int .i64 0, .int .i64 0, .int .i64 0, .int .i64 0] ++ List.replicate 96 (.int .u8 0) ++ [.int .i64 0]) ++ ([.int .i64 0, .int .i64 0, .int .i64 0] ++ List.replicate 32 (.int .u8 0) ++ [.slice none 0 0, .slice none 0 0]) ++ [.slice none 0 0, .slice none 0 0] ++ ([.int .i64 0] ++ List.replicate 32 (.int .u8 0)) : List Value)).toArray), 173, 328) := by kernel_rfl
set_option maxHeartbeats 8000000 in
set_option maxRecDepth 100000 in
theorem allBlock_any (w : World) {X : Nat → Prop} {E g : Nat} {sent : Value} {x : List UInt8} {rows : List (List UInt8)} {bad : Bool} (h : Pt w X E g sent (x :: rows) bad) (hxl : x.length ≤ 262144) :
    Calls Tryz.prog 67 #[.pointer (some ⟨g, 0, none⟩), .func (Fn.func 59) #[] #[]] w (Took (.list tBlock) w X E g sent x rows bad) := by
  have hgx := h.2.2.1
  have hgw := h.lt
  have hEw := h.2.2.2.2.1
  have HGX := Lib.hid hgx
  have HX1 := Lib.hid (show ∀ b, X b → b < w.heap.size from h.2.2.2.1)
  have H := Lib.hid (next_any _ h)
  clear h hgx
  go_enter Tryz.func67, Tryz.ntmps67
  go_wp2_with fail
  refine H.out.mono ?_
  rintro e w1 ⟨v1, rfl, hb1, hc1, hp1⟩
  have HSP := Lib.hid (split_any w1 hb1 (by omega))
  have hz1 := hc1.size
  have HP1 := Lib.hid hp1
  have HC1 := Lib.hid hc1
  obtain ⟨A1, c1, rfl⟩ := hb1.form
  clear hb1 hp1 hc1 H
  go_wp2_with fail
  refine HSP.out.mono ?_
  rintro e w2 ⟨hb2, ⟨hno, rfl⟩ | ⟨v2, l, hsp, rfl, hbss⟩⟩
  · have HNO := Lib.hid hno; clear hno
    have hp2 := HP1.out.below hb2
    obtain ⟨⟨sa, rfl⟩, hgl⟩ := hp2.1
    have hgl : w2.cell? ⟨gF, 0, none⟩ = some _ := hgl
    unfold gF at hgl
    have hlx := hp2.2.2.2.1
    have hE2 := hp2.2.2.2.2.1
    have hal := (Below.refl w2.heap.size w2).alloc (Nat.le_refl _) (.cells #[.string ⟨#[97, 32, 108, 105, 115, 116]⟩, .iface 205 (.pointer (some sa))] 117)
    have HBAD := Lib.hid (bad_any _ (hp2.below hal) (Chain.fresh _ ⟨fun h => absurd (hlx _ h) (Nat.lt_irrefl _), hE2⟩))
    have HC2 := Lib.hid (HC1.out.trans (Chg.of_below hb2 fun k => k = g) fun b h => .inl h)
    clear hp2 hlx hal hE2 hb2 HP1 HC1 HSP
    go_wp2_with fail
    refine HBAD.out.mono ?_
    rintro e w3 ⟨rfl, hc3, hp3⟩
    have HP3 := Lib.hid hp3
    have HC3 := Lib.hid hc3
    clear hp3 hc3 HBAD
    go_wp2_with fail
    refine wp_loop_rounds 1 ?_
    rw [rounds_succ]
    go_wp2
    go_ret
    exact ⟨[.slice none 0 0], true, rfl, (HC2.out.alloc _).trans HC3.out fun b h => .inl h, HP3.out, SOut.noList HNO.out rfl⟩
  · have hrl : ∀ y ∈ l, y.length ≤ 262144 := fun y hy => Nat.le_trans (joinP_mem_le hsp y hy) hxl
    have hll : l.length ≤ 32768 := by
      have h1 := splitB_back hsp
      have h2 := joinP_count l
      rw [← h1, joinB_length] at hxl
      omega
    obtain ⟨A2, c2, rfl⟩ := hbss.form
    have HROWS := Lib.hid (((hbss.read fun y hy => by have := hrl y hy; omega).lt_ (T := fun b => w1.heap.size ≤ b) fun b h => h.elim id id).subs (T := fun b => b ≠ g) fun b hb _ => by have := hb.1; omega)
    have HP2 := Lib.hid (HP1.out.below hb2)
    have HC2 := Lib.hid (HC1.out.trans (Chg.of_below hb2 fun k => k = g) fun b h => .inl h)
    have HSPL := Lib.hid hsp
    have HRL := Lib.hid hrl
    have hwS : w.heap.size ≤ w2.heap.size := Nat.le_trans hz1 hb2.size
    clear hbss hsp hrl hb2 HP1 HC1 HSP hxl
    go_wp2_with fail
    go_loopw [7, 28] (fun o i wr => ∃ k : Nat, k ≤ l.length ∧ i = .int .i64 k ∧ AllI 39 173 tBlock w w2 X E g sent rows bad l o k wr) (fun _ i _ => l.length - (intOf i).toNat)
    case atStart => exact ⟨0, Nat.zero_le _, rfl, AllI.start HP2.out⟩
    case round =>
      obtain ⟨k, hk, rfl, hI⟩ := hrel
      by_cases hlt : k < l.length
      · obtain ⟨css, bk, hown, hob, hlo, hpt, hch⟩ := hI
        obtain ⟨ba, oa, ua, rfl, hca, hua, _, hSb⟩ := (HROWS.out.chg hch (fun b hb h => hb h)).at_ hlt
        have htk : l.take (k + 1) = l.take k ++ [l[k]] := List.take_succ_eq_append_getElem hlt
        have hyl := HRL.out l[k] (List.getElem_mem hlt)
        obtain ⟨y, hy⟩ : ∃ y, y = l[k] := ⟨_, rfl⟩
        rw [← hy] at hua htk hyl
        have HR := Lib.hid (readBlock_any wr hua hyl hpt.1)
        obtain ⟨Ay, cy, rfl⟩ := hua.form
        obtain ⟨Ao, co, rfl⟩ := hown.form
        have HOWN := Lib.hid hown
        have HOB := Lib.hid hob
        have HLO := Lib.hid hlo
        have HPT := Lib.hid hpt
        have HCH := Lib.hid hch
        have HTK := Lib.hid htk
        have H63 := Lib.hid (show k + 1 ≤ maxLen ∧ (k + 1) * 328 ≤ 140737488355328 from ⟨by simp only [maxLen]; omega, by omega⟩)
        have hzr := hch.size
        clear hown hob hlo hpt hch htk hy hua hyl
        go_wp2_with fail
        refine HR.out.mono ?_
        rintro e w3 hro
        obtain ⟨C, err, bd, rfl, h1, hl, hb3, he, ho⟩ := hro.agg (fun _ => rfl)
        have hl : C.length = 173 := hl
        have HL := Lib.hid hl
        have HI := Lib.hid (show (Tryz.prog.info? 39).map (·.size) = some C.length from by rw [hl]; exact size_allBlock_any)
        have HI2 := Lib.hid (show (Tryz.prog.info? 39).map (fun i => (i.zero.map (fun z => z.cells.size), i.size)) = some (some C.length, C.length) from by rw [hl]; exact sizes_allBlock_any)
        have H1 := Lib.hid h1
        clear h1 hl
        have HB3 := Lib.hid hb3
        have HP3 := Lib.hid (HPT.out.below hb3)
        have HO := Lib.hid (ho.or_ bk)
        clear hro hb3 ho HR
        rcases he with ⟨rfl, rfl⟩ | ⟨rfl, hcn⟩
        · skip
          go_wp2_with (first
            | (refine wpList_store_blk (cs0 := (([.int .i64 0, .int .i64 0, .int .i64 0, .int .i64 0] ++ List.replicate 96 (.int .u8 0) ++ [.int .i64 0]) ++ ([.int .i64 0, .int .i64 0, .int .i64 0] ++ List.replicate 32 (.int .u8 0) ++ [.slice none 0 0, .slice none 0 0]) ++ [.slice none 0 0, .slice none 0 0] ++ ([.int .i64 0] ++ List.replicate 32 (.int .u8 0)) : List Value)) (cs := C) rfl 39 _ _ rfl (Blk.new w3 _ _) rfl rfl (by rw [HL.out]; rfl) HI.out H1.out ?_; intro w4 hb4 hc4; have HB4 := Lib.hid hb4; have HC4 := Lib.hid (show Chg (fun _ => False) w3 w4 from ((Chg.refl _ w3).alloc _).trans hc4 fun b h => .inr (Nat.le_of_eq h.symm)); clear hb4 hc4; have HO2 := Lib.hid (show ∀ ob, Own (w4.alloc ob) 39 173 (.slice Ao k co) k css.flatten from fun ob => own_keep HOWN.out fun b hb => (by have h1 := own_lt HOWN.out hb; have h2 := HOB.out b hb; have h3 := HB3.out.size; exact (Below.heap_alloc w4 ob b (Nat.lt_of_lt_of_le (Nat.lt_of_lt_of_le h1 h3) HC4.out.size)).trans ((HC4.out.block b (Nat.lt_of_lt_of_le h1 h3) id).trans (HB3.out.block b h1)))); have HS2 := Lib.hid (Cs.of_new w4 39 (size := 173) 1 (cs := C) (by rw [HL.out]) (by simp only [maxLen]; decide)))
            | (refine wpList_load_blk' rfl 39 _ rfl HB4.out rfl Tryz.underlying39 rfl HI.out ?_)
            | (refine wpList_row1 rfl 44 39 _ rfl Tryz.underlying44 (.agg C.toArray) rfl C rfl HI2.out (by rw [HL.out]; decide) (by rw [HL.out]; decide) ?_)
            | (at_builtin; refine wpList_app _ rfl _ _ _ rfl Tryz.underlying44 info_allBlock_any rfl (by decide) (HO2.out _) rfl HS2.out rfl H1.out H63.out.1 H63.out.2 ?_; intro v6 w6 ho6 hc6 hnil6 hat6; clear hnil6; have HO6 := Lib.hid ho6; clear ho6; have HC6 := Lib.hid hc6; clear hc6; have HAT6 := Lib.hid hat6; clear hat6))
          refine ⟨⟨k + 1, by omega, by push_cast; rfl, AllI.step hgw hwS HOWN.out HOB.out HLO.out HCH.out HB3.out (by have := HO.out; rw [Bool.or_false] at this; exact this) (HC4.out.mono (M' := fun b => b = g) fun _ h => h.elim) (HP3.out.chg HC4.out fun b h => h.elim) HTK.out HO6.out HC6.out HAT6.out⟩, ?_⟩
          simp only [intOf]; omega
        · skip
          obtain ⟨gw, rfl⟩ := hcn.form
          have HCN := Lib.hid hcn; clear hcn
          go_wp2_with (refine wpList_store_blk (cs0 := (([.int .i64 0, .int .i64 0, .int .i64 0, .int .i64 0] ++ List.replicate 96 (.int .u8 0) ++ [.int .i64 0]) ++ ([.int .i64 0, .int .i64 0, .int .i64 0] ++ List.replicate 32 (.int .u8 0) ++ [.slice none 0 0, .slice none 0 0]) ++ [.slice none 0 0, .slice none 0 0] ++ ([.int .i64 0] ++ List.replicate 32 (.int .u8 0)) : List Value)) (cs := C) rfl 39 _ _ rfl (Blk.new w3 _ _) rfl rfl (by rw [HL.out]; rfl) HI.out H1.out ?_; intro w4 hb4 hc4; have HB4 := Lib.hid hb4; have HC4 := Lib.hid (show Chg (fun _ => False) w3 w4 from ((Chg.refl _ w3).alloc _).trans hc4 fun b h => .inr (Nat.le_of_eq h.symm)); clear hb4 hc4)
          have hp4 := (HP3.out.chg HC4.out fun b h => h.elim)
          have hlx := hp4.2.2.2.1
          have hE4 := hp4.2.2.2.2.1
          have hz4 := HC4.out.size
          have hz3 := HB3.out.size
          have hal := (Below.refl w4.heap.size w4).alloc (Nat.le_refl _) (.cells #[.string ⟨#[105, 110, 32, 97, 32, 108, 105, 115, 116]⟩, .iface 113 (.pointer (some ⟨gw, 0, none⟩))] 117)
          have hcn4 := (HCN.out.to (w' := w4) (S' := fun b => ¬ (X b ∨ (Value.slice Ao k co).ownBlock = some b) ∧ E ≤ b) (fun b hb hlt => ⟨Nat.lt_of_lt_of_le hlt HC4.out.size, HC4.out.block b hlt id⟩) fun b hb hlt => ⟨fun h => h.elim (fun h => by have := HX1.out b h; omega) fun h => by have := own_lt HOWN.out h; omega, by omega⟩)
          have HBAD := Lib.hid (bad_any _ (hp4.below hal) (hcn4.freshMore _ ⟨fun h => absurd (hlx _ h) (Nat.lt_irrefl _), hE4⟩))
          clear hp4 hlx hal hcn4 hE4
          refine HBAD.out.mono ?_
          rintro e w5 ⟨rfl, hc5, hp5⟩
          have HP5 := Lib.hid hp5
          have HC35 := Lib.hid (show Chg (fun b => b = g) w3 w5 from ((HC4.out.mono (M' := fun b => b = g) fun _ h => h.elim).alloc _).trans hc5 fun b h => .inl h)
          have HB5 := Lib.hid ((HB4.out.alloc _).chg hc5 (fun h => by omega))
          clear hc5 hp5 HBAD
          have HO2 := Lib.hid (show ∀ ob, Own (w5.alloc ob) 39 173 (.slice Ao k co) k css.flatten from fun ob => own_keep HOWN.out fun b hb => (by have h1 := own_lt HOWN.out hb; have h2 := HOB.out b hb; have h3 := HB3.out.size; exact (Below.heap_alloc w5 ob b (Nat.lt_of_lt_of_le (Nat.lt_of_lt_of_le h1 h3) HC35.out.size)).trans ((HC35.out.block b (Nat.lt_of_lt_of_le h1 h3) (fun e => by omega)).trans (HB3.out.block b h1))))
          have HS2 := Lib.hid (Cs.of_new w5 39 (size := 173) 1 (cs := C) (by rw [HL.out]) (by simp only [maxLen]; decide))
          go_wp2_with (first
            | (refine wpList_load_blk' rfl 39 _ rfl HB5.out rfl Tryz.underlying39 rfl HI.out ?_)
            | (refine wpList_row1 rfl 44 39 _ rfl Tryz.underlying44 (.agg C.toArray) rfl C rfl HI2.out (by rw [HL.out]; decide) (by rw [HL.out]; decide) ?_)
            | (at_builtin; refine wpList_app _ rfl _ _ _ rfl Tryz.underlying44 info_allBlock_any rfl (by decide) (HO2.out _) rfl HS2.out rfl H1.out H63.out.1 H63.out.2 ?_; intro v6 w6 ho6 hc6 hnil6 hat6; clear hnil6; have HO6 := Lib.hid ho6; clear ho6; have HC6 := Lib.hid hc6; clear hc6; have HAT6 := Lib.hid hat6; clear hat6))
          refine ⟨⟨k + 1, by omega, by push_cast; rfl, AllI.step hgw hwS HOWN.out HOB.out HLO.out HCH.out HB3.out (by have := HO.out; rw [Bool.or_true] at this; exact this) HC35.out HP5.out HTK.out HO6.out HC6.out HAT6.out⟩, ?_⟩
          simp only [intOf]; omega
      · have hk' : k = l.length := by omega
        subst hk'
        have HI := Lib.hid hI
        clear hI
        go_wp2_with fail
        go_ret
        exact HI.out.out rfl HSPL.out (fun _ => rfl) HGX.out HC2.out

end Go.Proofs.YtjjgmkfkmckkoabGreatDoor

/- Codec: a vote read. -/
namespace Go.Proofs.YtjjgmkfkmckkoabGreatDoor
open Go.RowKit Go.Maps
attribute [-simp] Tryz.isAgg24 Tryz.typeInfo24 Tryz.isAgg87 Tryz.typeInfo87

theorem info_readVote : (Tryz.prog.info? 87).map (fun i => (i.zero.map (fun z => z.cells.size))) = some (some 69) := by kernel_rfl
theorem size_readVote : (Tryz.prog.info? 87).map (·.size) = some 69 := by kernel_rfl
theorem places_readVote : ((match Tryz.prog.underlying 87 with | some (.struct fields) => fields.toList.mapM (fun f => (Tryz.prog.info? f.type).map fun i => (f.offset, i.size)) | _ => none)) = some [(0, 1), (1, 1), (2, 1), (3, 32), (35, 1), (36, 33)] := by kernel_rfl
set_option maxHeartbeats 4000000 in
set_option maxRecDepth 100000 in
theorem readVote_any (w : World) {S : Nat → Prop} {v sent : Value} {bs : List UInt8} (h : Bs w S v bs) (hlen : bs.length ≤ 262144) (hg : Gl w sent) :
    Calls Tryz.prog 69 #[v] w (ReadOut (.tup (.cons i64 (.cons i64 (.cons i64 (.cons .dig (.cons i64 (.cons tSig .nil))))))) w sent bs) := by
  have hal := (Below.refl w.heap.size w).alloc (Nat.le_refl _) (.cells (([.int .i64 0, .int .i64 0, .int .i64 0] ++ List.replicate 32 (.int .u8 0) ++ [.int .i64 0] ++ ([.int .i64 0] ++ List.replicate 32 (.int .u8 0)) : List Value)).toArray 87)
  have HS := Lib.hid (psplit_any _ (h.below hal) (by omega) (hg.below hal) 6 (by omega) ⟨#[97, 32, 118, 111, 116, 101]⟩)
  have HN := Lib.hid (Blk.new w 87 (([.int .i64 0, .int .i64 0, .int .i64 0] ++ List.replicate 32 (.int .u8 0) ++ [.int .i64 0] ++ ([.int .i64 0] ++ List.replicate 32 (.int .u8 0)) : List Value)).toArray)
  have HAL := Lib.hid hal
  obtain ⟨A, cap, rfl⟩ := h.form
  clear h hg hal
  go_enter Tryz.func69, Tryz.ntmps69
  go_wp2_with fail
  refine HS.out.mono ?_
  rintro e w1 ⟨g, rows, bad, rfl, hgw, hb1, hp, hn, hrl, hs⟩
  obtain ⟨r0, r1, r2, r3, r4, r5, rfl⟩ : ∃ r0 r1 r2 r3 r4 r5, rows = [r0, r1, r2, r3, r4, r5] := by
    match rows, hn with
    | [r0, r1, r2, r3, r4, r5], _ => exact ⟨r0, r1, r2, r3, r4, r5, rfl⟩
  have HK := Lib.hid (HN.out.below hb1 (by simp))
  have hgw' : w.heap.size + 1 ≤ g := by simpa using hgw
  have hz1 : w.heap.size + 1 ≤ w1.heap.size := by simpa using hb1.size
  have HB1 := Lib.hid (HAL.out.trans (hb1.mono (by simp)))
  have HSS := Lib.hid hs
  have HRL := Lib.hid (show ∀ x ∈ [r0, r1, r2, r3, r4, r5], x.length ≤ 262144 from fun x hx => Nat.le_trans (hrl x hx) hlen)
  have hE : Pt w1 (fun b => b = g) (w.heap.size + 1) g sent [r0, r1, r2, r3, r4, r5] bad := by simpa using hp
  clear HS HN HAL hgw hb1 hs hn hp hrl hlen
  have hp0 := hE
  clear hE
  go_wp2_with fail
  refine (int_any _ hp0).mono ?_
  rintro e w2 ht
  obtain ⟨y0, b0, rfl, h10, hc0, hp1, ho0⟩ := ht.one (fun _ => rfl) rfl
  have hgl0 := hp0.lt
  have hz2 := Nat.le_trans hz1 hc0.size
  have HO0 := Lib.hid ho0
  have HC0 := Lib.hid hc0
  have H10 := Lib.hid h10
  clear ht ho0 hc0 h10 hp0
  go_wp2_with fail
  refine (int_any _ hp1).mono ?_
  rintro e w3 ht
  obtain ⟨y1, b1, rfl, h11, hc1, hp2, ho1⟩ := ht.one (fun _ => rfl) rfl
  have hgl1 := hp1.lt
  have hz3 := Nat.le_trans hz2 hc1.size
  have HO1 := Lib.hid ho1
  have HC1 := Lib.hid hc1
  have H11 := Lib.hid h11
  clear ht ho1 hc1 h11 hp1
  go_wp2_with fail
  refine (n_any _ hp2).mono ?_
  rintro e w4 ht
  obtain ⟨y2, b2, rfl, h12, hc2, hp3, ho2⟩ := ht.one (fun _ => rfl) rfl
  have hgl2 := hp2.lt
  have hz4 := Nat.le_trans hz3 hc2.size
  have HO2 := Lib.hid ho2
  have HC2 := Lib.hid hc2
  have H12 := Lib.hid h12
  clear ht ho2 hc2 h12 hp2
  go_wp2_with fail
  refine (pdigest_any _ hp3).mono ?_
  rintro e w5 ht
  obtain ⟨c3, b3, rfl, h13, hl3, hc3, hp4, ho3⟩ := ht.agg (fun _ => rfl)
  have hl3 : c3.length = 32 := hl3
  have hgl3 := hp3.lt
  have hz5 := Nat.le_trans hz4 hc3.size
  have HO3 := Lib.hid ho3
  have HC3 := Lib.hid hc3
  have H13 := Lib.hid h13
  have HL3 := Lib.hid hl3
  clear hl3
  clear ht ho3 hc3 h13 hp3
  go_wp2_with fail
  refine (int_any _ hp4).mono ?_
  rintro e w6 ht
  obtain ⟨y4, b4, rfl, h14, hc4, hp5, ho4⟩ := ht.one (fun _ => rfl) rfl
  have hgl4 := hp4.lt
  have hz6 := Nat.le_trans hz5 hc4.size
  have HO4 := Lib.hid ho4
  have HC4 := Lib.hid hc4
  have H14 := Lib.hid h14
  clear ht ho4 hc4 h14 hp4
  go_wp2_with fail
  refine (oneSig_any _ hp5 (HRL.out _ (by simp))).mono ?_
  rintro e w7 ht
  obtain ⟨c5, b5, rfl, h15, hl5, hc5, hp6, ho5⟩ := ht.agg (fun _ => rfl)
  have hl5 : c5.length = 33 := hl5
  have hgl5 := hp5.lt
  have hz7 := Nat.le_trans hz6 hc5.size
  have HO5 := Lib.hid ho5
  have HC5 := Lib.hid hc5
  have H15 := Lib.hid h15
  have HL5 := Lib.hid hl5
  clear hl5
  clear ht ho5 hc5 h15 hp5
  have hbu := run_struct (P := Tryz.prog) (vs := [y0, y1, y2, .agg c3.toArray, y4, .agg c5.toArray]) (cs := [[y0], [y1], [y2], c3, [y4], c5]) info_readVote places_readVote ⟨cells_one H10.out, cells_one H11.out, cells_one H12.out, rfl, cells_one H14.out, rfl, trivial⟩ (by simp [PlaceOk, HL3.out, HL5.out]) (by simp [HL3.out, HL5.out]) #[(0, y0), (1, y1), (2, y2), (3, .agg c3.toArray), (4, y4), (5, .agg c5.toArray)] rfl
  have hone : ∀ v ∈ [[y0], [y1], [y2], c3, [y4], c5].flatten, v.oneCell' = true := by
    intro v hv
    simp only [List.flatten_cons, List.flatten_nil, List.mem_append, List.mem_singleton, List.not_mem_nil, or_false] at hv
    rcases hv with rfl | rfl | rfl | hv | rfl | hv
    · exact H10.out
    · exact H11.out
    · exact H12.out
    · exact H13.out v hv
    · exact H14.out
    · exact H15.out v hv
  have HOUT := Lib.hid (show Fs.Out (.cons i64 (.cons i64 (.cons i64 (.cons .dig (.cons i64 (.cons tSig .nil)))))) w7 (Nw (w.heap.size + 1) w7) [r0, r1, r2, r3, r4, r5] [[y0], [y1], [y2], c3, [y4], c5].flatten bad b5 from by
    have := Fs.Out.step HO0.out (Fs.Out.step HO1.out (Fs.Out.step HO2.out (Fs.Out.step HO3.out (Fs.Out.step HO4.out (Fs.Out.step HO5.out (Fs.Out.nil_ w7 _ _) (Chg.refl _ _) hgl5 hz6) HC5.out hgl4 hz5) (HC4.out.trans HC5.out fun b h => .inl h) hgl3 hz4) ((HC3.out.trans HC4.out fun b h => .inl h).trans HC5.out fun b h => .inl h) hgl2 hz3) (((HC2.out.trans HC3.out fun b h => .inl h).trans HC4.out fun b h => .inl h).trans HC5.out fun b h => .inl h) hgl1 hz2) ((((HC1.out.trans HC2.out fun b h => .inl h).trans HC3.out fun b h => .inl h).trans HC4.out fun b h => .inl h).trans HC5.out fun b h => .inl h) hgl0 hz1
    simpa using this)
  have HCA := Lib.hid (show Chg (fun k => k = g) w1 w7 from (((((HC0.out.trans HC1.out fun b h => .inl h).trans HC2.out fun b h => .inl h).trans HC3.out fun b h => .inl h).trans HC4.out fun b h => .inl h).trans HC5.out fun b h => .inl h))
  have hcl : [[y0], [y1], [y2], c3, [y4], c5].flatten.length = 69 := by simp [HL3.out, HL5.out]
  obtain ⟨C, hC⟩ : ∃ C, C = [[y0], [y1], [y2], c3, [y4], c5].flatten := ⟨_, rfl⟩
  rw [← hC] at hbu hone hcl HOUT
  have HBU := Lib.hid hbu
  have HONE := Lib.hid hone
  have HCL := Lib.hid hcl
  have HI := Lib.hid (show (Tryz.prog.info? 87).map (·.size) = some C.length from by rw [hcl]; exact size_readVote)
  have HK2 := Lib.hid (HK.out.chg HCA.out (show ¬ w.heap.size = g from by omega))
  clear hbu hone hcl hC HK HO0 HC0 H10 HO1 HC1 H11 HO2 HC2 H12 HO3 HC3 H13 HO4 HC4 H14 HO5 HC5 H15 HL3 HL5
  have HP := Lib.hid hp6
  have hgX := hp6.lt
  clear hp6
  have hbu := HBU.out w7
  have HX := Lib.hid (HP.out.parts)
  go_wp2_with (first | (refine wpList_build_ rfl 87 _ rfl #[(0, y0), (1, y1), (2, y2), (3, .agg c3.toArray), (4, y4), (5, .agg c5.toArray)] (by simp [Act.eval]) _ hbu ?_) | (refine wpList_store_blk (cs0 := ([.int .i64 0, .int .i64 0, .int .i64 0] ++ List.replicate 32 (.int .u8 0) ++ [.int .i64 0] ++ ([.int .i64 0] ++ List.replicate 32 (.int .u8 0)) : List Value)) (cs := C) rfl 87 _ _ rfl (Blk.new w7 _ _) rfl rfl (by rw [HCL.out]; rfl) HI.out HONE.out ?_; intro wx hbx hcx; have HBX := Lib.hid hbx; have HCX := Lib.hid hcx; clear hbx hcx))
  obtain ⟨vy, ey, hblk, herr⟩ := HX.out
  have HCX' := Lib.hid (show Chg (fun _ => False) w7 wx from ((Chg.refl _ w7).alloc _).trans HCX.out fun b h => .inr (Nat.le_of_eq h.symm))
  have HGX := Lib.hid (hblk.chg HCX'.out id)
  have HKX := Lib.hid (HK2.out.chg HCX'.out id)
  have HE := Lib.hid herr
  clear hbu hblk herr HX HBU
  refine wp_region_hoist [0, 1, 2, 3, 4] [5] [6] (fun w' => Blk w' w7.heap.size 87 C.toArray ∧ Blk w' g 133 #[vy, ey])
    (by kernel_rfl) (by kernel_rfl) (by kernel_rfl) (by kernel_rfl) (by kernel_rfl) (by kernel_rfl) ⟨HBX.out.drew, HGX.out.drew⟩ ?_
  (refine HoistK.load (by rfl) (by kernel_rfl) 87 _ rfl w7.heap.size 0 rfl C _ (fun w' hw => hw.1.range) Tryz.underlying87 rfl HI.out ?_; simp only [Act.put, List.setIfInBounds_toArray, List.getElem_toArray, List.getElem_cons_zero, List.set_cons_succ, List.set_cons_zero])
  (refine HoistK.yes (by rfl) (by kernel_rfl) ⟨?_, fun w' hSw => ?_, ?_⟩; rotate_left; (· go_simp; try with_reducible rfl); simp only [Act.put, List.setIfInBounds_toArray, List.getElem_toArray, List.getElem_cons_succ, List.getElem_cons_zero, List.set_cons_succ, List.set_cons_zero])
  (refine HoistK.yes (by rfl) (by kernel_rfl) ⟨?_, fun w' hSw => ?_, ?_⟩; rotate_left; (· go_simp; try with_reducible rfl); simp only [Act.put, List.setIfInBounds_toArray, List.getElem_toArray, List.getElem_cons_succ, List.getElem_cons_zero, List.set_cons_succ, List.set_cons_zero])
  (refine HoistK.yes (by rfl) (by kernel_rfl) ⟨?_, fun w' hSw => ?_, ?_⟩; rotate_left; (· go_simp; try with_reducible rfl); simp only [Act.put, List.setIfInBounds_toArray, List.getElem_toArray, List.getElem_cons_succ, List.getElem_cons_zero, List.set_cons_succ, List.set_cons_zero])
  (refine HoistK.yes (by rfl) (by kernel_rfl) ⟨?_, fun w' hSw => ?_, ?_⟩; rotate_left; (· have hcc := hSw.2.cell; go_simp; try with_reducible rfl); simp only [Act.put, List.setIfInBounds_toArray, List.getElem_toArray, List.getElem_cons_succ, List.getElem_cons_zero, List.set_cons_succ, List.set_cons_zero])
  refine HoistK.nil_ ?_
  simp only [opsAt, List.filterMap_cons, List.filterMap_nil, List.getElem?_toArray, List.getElem?_cons_succ, List.getElem?_cons_zero]
  refine Effects.cons_ fun _ hQ1 => ?_
  go_wp2_with (refine wpList_store_blk (cs0 := ([.int .i64 0, .int .i64 0, .int .i64 0] ++ List.replicate 32 (.int .u8 0) ++ [.int .i64 0] ++ ([.int .i64 0] ++ List.replicate 32 (.int .u8 0)) : List Value)) (cs := C) rfl 87 _ _ rfl HKX.out.drew rfl rfl (by rw [HCL.out]; rfl) HI.out HONE.out ?_; intro wy hby hcy; have HBY := Lib.hid hby; have HCY := Lib.hid hcy; clear hby hcy)
  refine hQ1 _ _ ⟨HBX.out.drew.chg HCY.out (fun h => by omega), HGX.out.drew.chg HCY.out (fun h => by omega)⟩ (Effects.nil_ fun _ hQ2 => ?_)
  go_wp2
  have hld := run_loadVar_mid (P := Tryz.prog) wy w.heap.size 0 87 C _ HBY.out.range Tryz.underlying87 rfl HI.out
  refine bodyPost_ret (v := .tuple #[.agg C.toArray, ey]) (by simp [results, Tryz.results69, asAddr, hld]) rfl ?_
  have hcf : Chg (fun b => b = w.heap.size) w7 wy := ((HCX'.out.mono fun _ h => h.elim).drew).trans HCY.out fun b h => .inl h
  exact ReadOut.mk (n := 6) HOUT.out HSS.out rfl HE.out (HB1.out.trans (HCA.out.below HB1.out.size fun b h => by omega)) hcf

end Go.Proofs.YtjjgmkfkmckkoabGreatDoor

/- Codec: all[Vote]. -/
namespace Go.Proofs.YtjjgmkfkmckkoabGreatDoor
open Go.RowKit Go.Maps
attribute [-simp] Tryz.isAgg24 Tryz.typeInfo24 Tryz.isAgg87 Tryz.typeInfo87

theorem size_allVote_any : (Tryz.prog.info? 87).map (·.size) = some 69 := by kernel_rfl
theorem sizes_allVote_any : (Tryz.prog.info? 87).map (fun i => (i.zero.map (fun z => z.cells.size), i.size)) = some (some 69, 69) := by kernel_rfl
theorem info_allVote_any : (Tryz.prog.info? 87).map (fun i => (i.zero, i.size, i.bytes)) = some (some (.agg (([.int .i64 0, .int .i64 0, .int .i64 0] ++ List.replicate 32 (.int .u8 0) ++ [.int .i64 0] ++ ([.int .i64 0] ++ List.replicate 32 (.int .u8 0)) : List Value)).toArray), 69, 104) := by kernel_rfl
set_option maxHeartbeats 8000000 in
set_option maxRecDepth 100000 in
theorem allVote_any (w : World) {X : Nat → Prop} {E g : Nat} {sent : Value} {x : List UInt8} {rows : List (List UInt8)} {bad : Bool} (h : Pt w X E g sent (x :: rows) bad) (hxl : x.length ≤ 262144) :
    Calls Tryz.prog 68 #[.pointer (some ⟨g, 0, none⟩), .func (Fn.func 69) #[] #[]] w (Took (.list tVote) w X E g sent x rows bad) := by
  have hgx := h.2.2.1
  have hgw := h.lt
  have hEw := h.2.2.2.2.1
  have HGX := Lib.hid hgx
  have HX1 := Lib.hid (show ∀ b, X b → b < w.heap.size from h.2.2.2.1)
  have H := Lib.hid (next_any _ h)
  clear h hgx
  go_enter Tryz.func68, Tryz.ntmps68
  go_wp2_with fail
  refine H.out.mono ?_
  rintro e w1 ⟨v1, rfl, hb1, hc1, hp1⟩
  have HSP := Lib.hid (split_any w1 hb1 (by omega))
  have hz1 := hc1.size
  have HP1 := Lib.hid hp1
  have HC1 := Lib.hid hc1
  obtain ⟨A1, c1, rfl⟩ := hb1.form
  clear hb1 hp1 hc1 H
  go_wp2_with fail
  refine HSP.out.mono ?_
  rintro e w2 ⟨hb2, ⟨hno, rfl⟩ | ⟨v2, l, hsp, rfl, hbss⟩⟩
  · have HNO := Lib.hid hno; clear hno
    have hp2 := HP1.out.below hb2
    obtain ⟨⟨sa, rfl⟩, hgl⟩ := hp2.1
    have hgl : w2.cell? ⟨gF, 0, none⟩ = some _ := hgl
    unfold gF at hgl
    have hlx := hp2.2.2.2.1
    have hE2 := hp2.2.2.2.2.1
    have hal := (Below.refl w2.heap.size w2).alloc (Nat.le_refl _) (.cells #[.string ⟨#[97, 32, 108, 105, 115, 116]⟩, .iface 205 (.pointer (some sa))] 117)
    have HBAD := Lib.hid (bad_any _ (hp2.below hal) (Chain.fresh _ ⟨fun h => absurd (hlx _ h) (Nat.lt_irrefl _), hE2⟩))
    have HC2 := Lib.hid (HC1.out.trans (Chg.of_below hb2 fun k => k = g) fun b h => .inl h)
    clear hp2 hlx hal hE2 hb2 HP1 HC1 HSP
    go_wp2_with fail
    refine HBAD.out.mono ?_
    rintro e w3 ⟨rfl, hc3, hp3⟩
    have HP3 := Lib.hid hp3
    have HC3 := Lib.hid hc3
    clear hp3 hc3 HBAD
    go_wp2_with fail
    refine wp_loop_rounds 1 ?_
    rw [rounds_succ]
    go_wp2
    go_ret
    exact ⟨[.slice none 0 0], true, rfl, (HC2.out.alloc _).trans HC3.out fun b h => .inl h, HP3.out, SOut.noList HNO.out rfl⟩
  · have hrl : ∀ y ∈ l, y.length ≤ 262144 := fun y hy => Nat.le_trans (joinP_mem_le hsp y hy) hxl
    have hll : l.length ≤ 32768 := by
      have h1 := splitB_back hsp
      have h2 := joinP_count l
      rw [← h1, joinB_length] at hxl
      omega
    obtain ⟨A2, c2, rfl⟩ := hbss.form
    have HROWS := Lib.hid (((hbss.read fun y hy => by have := hrl y hy; omega).lt_ (T := fun b => w1.heap.size ≤ b) fun b h => h.elim id id).subs (T := fun b => b ≠ g) fun b hb _ => by have := hb.1; omega)
    have HP2 := Lib.hid (HP1.out.below hb2)
    have HC2 := Lib.hid (HC1.out.trans (Chg.of_below hb2 fun k => k = g) fun b h => .inl h)
    have HSPL := Lib.hid hsp
    have HRL := Lib.hid hrl
    have hwS : w.heap.size ≤ w2.heap.size := Nat.le_trans hz1 hb2.size
    clear hbss hsp hrl hb2 HP1 HC1 HSP hxl
    go_wp2_with fail
    go_loopw [7, 28] (fun o i wr => ∃ k : Nat, k ≤ l.length ∧ i = .int .i64 k ∧ AllI 87 69 tVote w w2 X E g sent rows bad l o k wr) (fun _ i _ => l.length - (intOf i).toNat)
    case atStart => exact ⟨0, Nat.zero_le _, rfl, AllI.start HP2.out⟩
    case round =>
      obtain ⟨k, hk, rfl, hI⟩ := hrel
      by_cases hlt : k < l.length
      · obtain ⟨css, bk, hown, hob, hlo, hpt, hch⟩ := hI
        obtain ⟨ba, oa, ua, rfl, hca, hua, _, hSb⟩ := (HROWS.out.chg hch (fun b hb h => hb h)).at_ hlt
        have htk : l.take (k + 1) = l.take k ++ [l[k]] := List.take_succ_eq_append_getElem hlt
        have hyl := HRL.out l[k] (List.getElem_mem hlt)
        obtain ⟨y, hy⟩ : ∃ y, y = l[k] := ⟨_, rfl⟩
        rw [← hy] at hua htk hyl
        have HR := Lib.hid (readVote_any wr hua hyl hpt.1)
        obtain ⟨Ay, cy, rfl⟩ := hua.form
        obtain ⟨Ao, co, rfl⟩ := hown.form
        have HOWN := Lib.hid hown
        have HOB := Lib.hid hob
        have HLO := Lib.hid hlo
        have HPT := Lib.hid hpt
        have HCH := Lib.hid hch
        have HTK := Lib.hid htk
        have H63 := Lib.hid (show k + 1 ≤ maxLen ∧ (k + 1) * 104 ≤ 140737488355328 from ⟨by simp only [maxLen]; omega, by omega⟩)
        have hzr := hch.size
        clear hown hob hlo hpt hch htk hy hua hyl
        go_wp2_with fail
        refine HR.out.mono ?_
        rintro e w3 hro
        obtain ⟨C, err, bd, rfl, h1, hl, hb3, he, ho⟩ := hro.agg (fun _ => rfl)
        have hl : C.length = 69 := hl
        have HL := Lib.hid hl
        have HI := Lib.hid (show (Tryz.prog.info? 87).map (·.size) = some C.length from by rw [hl]; exact size_allVote_any)
        have HI2 := Lib.hid (show (Tryz.prog.info? 87).map (fun i => (i.zero.map (fun z => z.cells.size), i.size)) = some (some C.length, C.length) from by rw [hl]; exact sizes_allVote_any)
        have H1 := Lib.hid h1
        clear h1 hl
        have HB3 := Lib.hid hb3
        have HP3 := Lib.hid (HPT.out.below hb3)
        have HO := Lib.hid (ho.or_ bk)
        clear hro hb3 ho HR
        rcases he with ⟨rfl, rfl⟩ | ⟨rfl, hcn⟩
        · skip
          go_wp2_with (first
            | (refine wpList_store_blk (cs0 := ([.int .i64 0, .int .i64 0, .int .i64 0] ++ List.replicate 32 (.int .u8 0) ++ [.int .i64 0] ++ ([.int .i64 0] ++ List.replicate 32 (.int .u8 0)) : List Value)) (cs := C) rfl 87 _ _ rfl (Blk.new w3 _ _) rfl rfl (by rw [HL.out]; rfl) HI.out H1.out ?_; intro w4 hb4 hc4; have HB4 := Lib.hid hb4; have HC4 := Lib.hid (show Chg (fun _ => False) w3 w4 from ((Chg.refl _ w3).alloc _).trans hc4 fun b h => .inr (Nat.le_of_eq h.symm)); clear hb4 hc4; have HO2 := Lib.hid (show ∀ ob, Own (w4.alloc ob) 87 69 (.slice Ao k co) k css.flatten from fun ob => own_keep HOWN.out fun b hb => (by have h1 := own_lt HOWN.out hb; have h2 := HOB.out b hb; have h3 := HB3.out.size; exact (Below.heap_alloc w4 ob b (Nat.lt_of_lt_of_le (Nat.lt_of_lt_of_le h1 h3) HC4.out.size)).trans ((HC4.out.block b (Nat.lt_of_lt_of_le h1 h3) id).trans (HB3.out.block b h1)))); have HS2 := Lib.hid (Cs.of_new w4 87 (size := 69) 1 (cs := C) (by rw [HL.out]) (by simp only [maxLen]; decide)))
            | (refine wpList_load_blk' rfl 87 _ rfl HB4.out rfl Tryz.underlying87 rfl HI.out ?_)
            | (refine wpList_row1 rfl 45 87 _ rfl Tryz.underlying45 (.agg C.toArray) rfl C rfl HI2.out (by rw [HL.out]; decide) (by rw [HL.out]; decide) ?_)
            | (at_builtin; refine wpList_app _ rfl _ _ _ rfl Tryz.underlying45 info_allVote_any rfl (by decide) (HO2.out _) rfl HS2.out rfl H1.out H63.out.1 H63.out.2 ?_; intro v6 w6 ho6 hc6 hnil6 hat6; clear hnil6; have HO6 := Lib.hid ho6; clear ho6; have HC6 := Lib.hid hc6; clear hc6; have HAT6 := Lib.hid hat6; clear hat6))
          refine ⟨⟨k + 1, by omega, by push_cast; rfl, AllI.step hgw hwS HOWN.out HOB.out HLO.out HCH.out HB3.out (by have := HO.out; rw [Bool.or_false] at this; exact this) (HC4.out.mono (M' := fun b => b = g) fun _ h => h.elim) (HP3.out.chg HC4.out fun b h => h.elim) HTK.out HO6.out HC6.out HAT6.out⟩, ?_⟩
          simp only [intOf]; omega
        · skip
          obtain ⟨gw, rfl⟩ := hcn.form
          have HCN := Lib.hid hcn; clear hcn
          go_wp2_with (refine wpList_store_blk (cs0 := ([.int .i64 0, .int .i64 0, .int .i64 0] ++ List.replicate 32 (.int .u8 0) ++ [.int .i64 0] ++ ([.int .i64 0] ++ List.replicate 32 (.int .u8 0)) : List Value)) (cs := C) rfl 87 _ _ rfl (Blk.new w3 _ _) rfl rfl (by rw [HL.out]; rfl) HI.out H1.out ?_; intro w4 hb4 hc4; have HB4 := Lib.hid hb4; have HC4 := Lib.hid (show Chg (fun _ => False) w3 w4 from ((Chg.refl _ w3).alloc _).trans hc4 fun b h => .inr (Nat.le_of_eq h.symm)); clear hb4 hc4)
          have hp4 := (HP3.out.chg HC4.out fun b h => h.elim)
          have hlx := hp4.2.2.2.1
          have hE4 := hp4.2.2.2.2.1
          have hz4 := HC4.out.size
          have hz3 := HB3.out.size
          have hal := (Below.refl w4.heap.size w4).alloc (Nat.le_refl _) (.cells #[.string ⟨#[105, 110, 32, 97, 32, 108, 105, 115, 116]⟩, .iface 113 (.pointer (some ⟨gw, 0, none⟩))] 117)
          have hcn4 := (HCN.out.to (w' := w4) (S' := fun b => ¬ (X b ∨ (Value.slice Ao k co).ownBlock = some b) ∧ E ≤ b) (fun b hb hlt => ⟨Nat.lt_of_lt_of_le hlt HC4.out.size, HC4.out.block b hlt id⟩) fun b hb hlt => ⟨fun h => h.elim (fun h => by have := HX1.out b h; omega) fun h => by have := own_lt HOWN.out h; omega, by omega⟩)
          have HBAD := Lib.hid (bad_any _ (hp4.below hal) (hcn4.freshMore _ ⟨fun h => absurd (hlx _ h) (Nat.lt_irrefl _), hE4⟩))
          clear hp4 hlx hal hcn4 hE4
          refine HBAD.out.mono ?_
          rintro e w5 ⟨rfl, hc5, hp5⟩
          have HP5 := Lib.hid hp5
          have HC35 := Lib.hid (show Chg (fun b => b = g) w3 w5 from ((HC4.out.mono (M' := fun b => b = g) fun _ h => h.elim).alloc _).trans hc5 fun b h => .inl h)
          have HB5 := Lib.hid ((HB4.out.alloc _).chg hc5 (fun h => by omega))
          clear hc5 hp5 HBAD
          have HO2 := Lib.hid (show ∀ ob, Own (w5.alloc ob) 87 69 (.slice Ao k co) k css.flatten from fun ob => own_keep HOWN.out fun b hb => (by have h1 := own_lt HOWN.out hb; have h2 := HOB.out b hb; have h3 := HB3.out.size; exact (Below.heap_alloc w5 ob b (Nat.lt_of_lt_of_le (Nat.lt_of_lt_of_le h1 h3) HC35.out.size)).trans ((HC35.out.block b (Nat.lt_of_lt_of_le h1 h3) (fun e => by omega)).trans (HB3.out.block b h1))))
          have HS2 := Lib.hid (Cs.of_new w5 87 (size := 69) 1 (cs := C) (by rw [HL.out]) (by simp only [maxLen]; decide))
          go_wp2_with (first
            | (refine wpList_load_blk' rfl 87 _ rfl HB5.out rfl Tryz.underlying87 rfl HI.out ?_)
            | (refine wpList_row1 rfl 45 87 _ rfl Tryz.underlying45 (.agg C.toArray) rfl C rfl HI2.out (by rw [HL.out]; decide) (by rw [HL.out]; decide) ?_)
            | (at_builtin; refine wpList_app _ rfl _ _ _ rfl Tryz.underlying45 info_allVote_any rfl (by decide) (HO2.out _) rfl HS2.out rfl H1.out H63.out.1 H63.out.2 ?_; intro v6 w6 ho6 hc6 hnil6 hat6; clear hnil6; have HO6 := Lib.hid ho6; clear ho6; have HC6 := Lib.hid hc6; clear hc6; have HAT6 := Lib.hid hat6; clear hat6))
          refine ⟨⟨k + 1, by omega, by push_cast; rfl, AllI.step hgw hwS HOWN.out HOB.out HLO.out HCH.out HB3.out (by have := HO.out; rw [Bool.or_true] at this; exact this) HC35.out HP5.out HTK.out HO6.out HC6.out HAT6.out⟩, ?_⟩
          simp only [intOf]; omega
      · have hk' : k = l.length := by omega
        subst hk'
        have HI := Lib.hid hI
        clear hI
        go_wp2_with fail
        go_ret
        exact HI.out.out rfl HSPL.out (fun _ => rfl) HGX.out HC2.out

end Go.Proofs.YtjjgmkfkmckkoabGreatDoor

/- Codec: a timeout read. -/
namespace Go.Proofs.YtjjgmkfkmckkoabGreatDoor
open Go.RowKit Go.Maps
attribute [-simp] Tryz.isAgg24 Tryz.typeInfo24 Tryz.isAgg91 Tryz.typeInfo91

theorem info_readTimeout : (Tryz.prog.info? 91).map (fun i => (i.zero.map (fun z => z.cells.size))) = some (some 74) := by kernel_rfl
theorem size_readTimeout : (Tryz.prog.info? 91).map (·.size) = some 74 := by kernel_rfl
theorem places_readTimeout : ((match Tryz.prog.underlying 91 with | some (.struct fields) => fields.toList.mapM (fun f => (Tryz.prog.info? f.type).map fun i => (f.offset, i.size)) | _ => none)) = some [(0, 1), (1, 1), (2, 1), (3, 37), (40, 1), (41, 33)] := by kernel_rfl
set_option maxHeartbeats 4000000 in
set_option maxRecDepth 100000 in
theorem readTimeout_any (w : World) {S : Nat → Prop} {v sent : Value} {bs : List UInt8} (h : Bs w S v bs) (hlen : bs.length ≤ 262144) (hg : Gl w sent) :
    Calls Tryz.prog 71 #[v] w (ReadOut (.tup (.cons i64 (.cons i64 (.cons i64 (.cons tQC (.cons i64 (.cons tSig .nil))))))) w sent bs) := by
  have hal := (Below.refl w.heap.size w).alloc (Nat.le_refl _) (.cells (([.int .i64 0, .int .i64 0, .int .i64 0] ++ ([.int .i64 0, .int .i64 0, .int .i64 0] ++ List.replicate 32 (.int .u8 0) ++ [.slice none 0 0, .slice none 0 0]) ++ [.int .i64 0] ++ ([.int .i64 0] ++ List.replicate 32 (.int .u8 0)) : List Value)).toArray 91)
  have HS := Lib.hid (psplit_any _ (h.below hal) (by omega) (hg.below hal) 6 (by omega) ⟨#[97, 32, 116, 105, 109, 101, 111, 117, 116]⟩)
  have HN := Lib.hid (Blk.new w 91 (([.int .i64 0, .int .i64 0, .int .i64 0] ++ ([.int .i64 0, .int .i64 0, .int .i64 0] ++ List.replicate 32 (.int .u8 0) ++ [.slice none 0 0, .slice none 0 0]) ++ [.int .i64 0] ++ ([.int .i64 0] ++ List.replicate 32 (.int .u8 0)) : List Value)).toArray)
  have HAL := Lib.hid hal
  obtain ⟨A, cap, rfl⟩ := h.form
  clear h hg hal
  go_enter Tryz.func71, Tryz.ntmps71
  go_wp2_with fail
  refine HS.out.mono ?_
  rintro e w1 ⟨g, rows, bad, rfl, hgw, hb1, hp, hn, hrl, hs⟩
  obtain ⟨r0, r1, r2, r3, r4, r5, rfl⟩ : ∃ r0 r1 r2 r3 r4 r5, rows = [r0, r1, r2, r3, r4, r5] := by
    match rows, hn with
    | [r0, r1, r2, r3, r4, r5], _ => exact ⟨r0, r1, r2, r3, r4, r5, rfl⟩
  have HK := Lib.hid (HN.out.below hb1 (by simp))
  have hgw' : w.heap.size + 1 ≤ g := by simpa using hgw
  have hz1 : w.heap.size + 1 ≤ w1.heap.size := by simpa using hb1.size
  have HB1 := Lib.hid (HAL.out.trans (hb1.mono (by simp)))
  have HSS := Lib.hid hs
  have HRL := Lib.hid (show ∀ x ∈ [r0, r1, r2, r3, r4, r5], x.length ≤ 262144 from fun x hx => Nat.le_trans (hrl x hx) hlen)
  have hE : Pt w1 (fun b => b = g) (w.heap.size + 1) g sent [r0, r1, r2, r3, r4, r5] bad := by simpa using hp
  clear HS HN HAL hgw hb1 hs hn hp hrl hlen
  have hp0 := hE
  clear hE
  go_wp2_with fail
  refine (int_any _ hp0).mono ?_
  rintro e w2 ht
  obtain ⟨y0, b0, rfl, h10, hc0, hp1, ho0⟩ := ht.one (fun _ => rfl) rfl
  have hgl0 := hp0.lt
  have hz2 := Nat.le_trans hz1 hc0.size
  have HO0 := Lib.hid ho0
  have HC0 := Lib.hid hc0
  have H10 := Lib.hid h10
  clear ht ho0 hc0 h10 hp0
  go_wp2_with fail
  refine (int_any _ hp1).mono ?_
  rintro e w3 ht
  obtain ⟨y1, b1, rfl, h11, hc1, hp2, ho1⟩ := ht.one (fun _ => rfl) rfl
  have hgl1 := hp1.lt
  have hz3 := Nat.le_trans hz2 hc1.size
  have HO1 := Lib.hid ho1
  have HC1 := Lib.hid hc1
  have H11 := Lib.hid h11
  clear ht ho1 hc1 h11 hp1
  go_wp2_with fail
  refine (n_any _ hp2).mono ?_
  rintro e w4 ht
  obtain ⟨y2, b2, rfl, h12, hc2, hp3, ho2⟩ := ht.one (fun _ => rfl) rfl
  have hgl2 := hp2.lt
  have hz4 := Nat.le_trans hz3 hc2.size
  have HO2 := Lib.hid ho2
  have HC2 := Lib.hid hc2
  have H12 := Lib.hid h12
  clear ht ho2 hc2 h12 hp2
  go_wp2_with fail
  refine (oneQC_any _ hp3 (HRL.out _ (by simp))).mono ?_
  rintro e w5 ht
  obtain ⟨c3, b3, rfl, h13, hl3, hc3, hp4, ho3⟩ := ht.agg (fun _ => rfl)
  have hl3 : c3.length = 37 := hl3
  have hgl3 := hp3.lt
  have hz5 := Nat.le_trans hz4 hc3.size
  have HO3 := Lib.hid ho3
  have HC3 := Lib.hid hc3
  have H13 := Lib.hid h13
  have HL3 := Lib.hid hl3
  clear hl3
  clear ht ho3 hc3 h13 hp3
  go_wp2_with fail
  refine (int_any _ hp4).mono ?_
  rintro e w6 ht
  obtain ⟨y4, b4, rfl, h14, hc4, hp5, ho4⟩ := ht.one (fun _ => rfl) rfl
  have hgl4 := hp4.lt
  have hz6 := Nat.le_trans hz5 hc4.size
  have HO4 := Lib.hid ho4
  have HC4 := Lib.hid hc4
  have H14 := Lib.hid h14
  clear ht ho4 hc4 h14 hp4
  go_wp2_with fail
  refine (oneSig_any _ hp5 (HRL.out _ (by simp))).mono ?_
  rintro e w7 ht
  obtain ⟨c5, b5, rfl, h15, hl5, hc5, hp6, ho5⟩ := ht.agg (fun _ => rfl)
  have hl5 : c5.length = 33 := hl5
  have hgl5 := hp5.lt
  have hz7 := Nat.le_trans hz6 hc5.size
  have HO5 := Lib.hid ho5
  have HC5 := Lib.hid hc5
  have H15 := Lib.hid h15
  have HL5 := Lib.hid hl5
  clear hl5
  clear ht ho5 hc5 h15 hp5
  have hbu := run_struct (P := Tryz.prog) (vs := [y0, y1, y2, .agg c3.toArray, y4, .agg c5.toArray]) (cs := [[y0], [y1], [y2], c3, [y4], c5]) info_readTimeout places_readTimeout ⟨cells_one H10.out, cells_one H11.out, cells_one H12.out, rfl, cells_one H14.out, rfl, trivial⟩ (by simp [PlaceOk, HL3.out, HL5.out]) (by simp [HL3.out, HL5.out]) #[(0, y0), (1, y1), (2, y2), (3, .agg c3.toArray), (4, y4), (5, .agg c5.toArray)] rfl
  have hone : ∀ v ∈ [[y0], [y1], [y2], c3, [y4], c5].flatten, v.oneCell' = true := by
    intro v hv
    simp only [List.flatten_cons, List.flatten_nil, List.mem_append, List.mem_singleton, List.not_mem_nil, or_false] at hv
    rcases hv with rfl | rfl | rfl | hv | rfl | hv
    · exact H10.out
    · exact H11.out
    · exact H12.out
    · exact H13.out v hv
    · exact H14.out
    · exact H15.out v hv
  have HOUT := Lib.hid (show Fs.Out (.cons i64 (.cons i64 (.cons i64 (.cons tQC (.cons i64 (.cons tSig .nil)))))) w7 (Nw (w.heap.size + 1) w7) [r0, r1, r2, r3, r4, r5] [[y0], [y1], [y2], c3, [y4], c5].flatten bad b5 from by
    have := Fs.Out.step HO0.out (Fs.Out.step HO1.out (Fs.Out.step HO2.out (Fs.Out.step HO3.out (Fs.Out.step HO4.out (Fs.Out.step HO5.out (Fs.Out.nil_ w7 _ _) (Chg.refl _ _) hgl5 hz6) HC5.out hgl4 hz5) (HC4.out.trans HC5.out fun b h => .inl h) hgl3 hz4) ((HC3.out.trans HC4.out fun b h => .inl h).trans HC5.out fun b h => .inl h) hgl2 hz3) (((HC2.out.trans HC3.out fun b h => .inl h).trans HC4.out fun b h => .inl h).trans HC5.out fun b h => .inl h) hgl1 hz2) ((((HC1.out.trans HC2.out fun b h => .inl h).trans HC3.out fun b h => .inl h).trans HC4.out fun b h => .inl h).trans HC5.out fun b h => .inl h) hgl0 hz1
    simpa using this)
  have HCA := Lib.hid (show Chg (fun k => k = g) w1 w7 from (((((HC0.out.trans HC1.out fun b h => .inl h).trans HC2.out fun b h => .inl h).trans HC3.out fun b h => .inl h).trans HC4.out fun b h => .inl h).trans HC5.out fun b h => .inl h))
  have hcl : [[y0], [y1], [y2], c3, [y4], c5].flatten.length = 74 := by simp [HL3.out, HL5.out]
  obtain ⟨C, hC⟩ : ∃ C, C = [[y0], [y1], [y2], c3, [y4], c5].flatten := ⟨_, rfl⟩
  rw [← hC] at hbu hone hcl HOUT
  have HBU := Lib.hid hbu
  have HONE := Lib.hid hone
  have HCL := Lib.hid hcl
  have HI := Lib.hid (show (Tryz.prog.info? 91).map (·.size) = some C.length from by rw [hcl]; exact size_readTimeout)
  have HK2 := Lib.hid (HK.out.chg HCA.out (show ¬ w.heap.size = g from by omega))
  clear hbu hone hcl hC HK HO0 HC0 H10 HO1 HC1 H11 HO2 HC2 H12 HO3 HC3 H13 HO4 HC4 H14 HO5 HC5 H15 HL3 HL5
  have HP := Lib.hid hp6
  have hgX := hp6.lt
  clear hp6
  have hbu := HBU.out w7
  have HX := Lib.hid (HP.out.parts)
  go_wp2_with (first | (refine wpList_build_ rfl 91 _ rfl #[(0, y0), (1, y1), (2, y2), (3, .agg c3.toArray), (4, y4), (5, .agg c5.toArray)] (by simp [Act.eval]) _ hbu ?_) | (refine wpList_store_blk (cs0 := ([.int .i64 0, .int .i64 0, .int .i64 0] ++ ([.int .i64 0, .int .i64 0, .int .i64 0] ++ List.replicate 32 (.int .u8 0) ++ [.slice none 0 0, .slice none 0 0]) ++ [.int .i64 0] ++ ([.int .i64 0] ++ List.replicate 32 (.int .u8 0)) : List Value)) (cs := C) rfl 91 _ _ rfl (Blk.new w7 _ _) rfl rfl (by rw [HCL.out]; rfl) HI.out HONE.out ?_; intro wx hbx hcx; have HBX := Lib.hid hbx; have HCX := Lib.hid hcx; clear hbx hcx))
  obtain ⟨vy, ey, hblk, herr⟩ := HX.out
  have HCX' := Lib.hid (show Chg (fun _ => False) w7 wx from ((Chg.refl _ w7).alloc _).trans HCX.out fun b h => .inr (Nat.le_of_eq h.symm))
  have HGX := Lib.hid (hblk.chg HCX'.out id)
  have HKX := Lib.hid (HK2.out.chg HCX'.out id)
  have HE := Lib.hid herr
  clear hbu hblk herr HX HBU
  refine wp_region_hoist [0, 1, 2, 3, 4] [5] [6] (fun w' => Blk w' w7.heap.size 91 C.toArray ∧ Blk w' g 133 #[vy, ey])
    (by kernel_rfl) (by kernel_rfl) (by kernel_rfl) (by kernel_rfl) (by kernel_rfl) (by kernel_rfl) ⟨HBX.out.drew, HGX.out.drew⟩ ?_
  (refine HoistK.load (by rfl) (by kernel_rfl) 91 _ rfl w7.heap.size 0 rfl C _ (fun w' hw => hw.1.range) Tryz.underlying91 rfl HI.out ?_; simp only [Act.put, List.setIfInBounds_toArray, List.getElem_toArray, List.getElem_cons_zero, List.set_cons_succ, List.set_cons_zero])
  (refine HoistK.yes (by rfl) (by kernel_rfl) ⟨?_, fun w' hSw => ?_, ?_⟩; rotate_left; (· go_simp; try with_reducible rfl); simp only [Act.put, List.setIfInBounds_toArray, List.getElem_toArray, List.getElem_cons_succ, List.getElem_cons_zero, List.set_cons_succ, List.set_cons_zero])
  (refine HoistK.yes (by rfl) (by kernel_rfl) ⟨?_, fun w' hSw => ?_, ?_⟩; rotate_left; (· go_simp; try with_reducible rfl); simp only [Act.put, List.setIfInBounds_toArray, List.getElem_toArray, List.getElem_cons_succ, List.getElem_cons_zero, List.set_cons_succ, List.set_cons_zero])
  (refine HoistK.yes (by rfl) (by kernel_rfl) ⟨?_, fun w' hSw => ?_, ?_⟩; rotate_left; (· go_simp; try with_reducible rfl); simp only [Act.put, List.setIfInBounds_toArray, List.getElem_toArray, List.getElem_cons_succ, List.getElem_cons_zero, List.set_cons_succ, List.set_cons_zero])
  (refine HoistK.yes (by rfl) (by kernel_rfl) ⟨?_, fun w' hSw => ?_, ?_⟩; rotate_left; (· have hcc := hSw.2.cell; go_simp; try with_reducible rfl); simp only [Act.put, List.setIfInBounds_toArray, List.getElem_toArray, List.getElem_cons_succ, List.getElem_cons_zero, List.set_cons_succ, List.set_cons_zero])
  refine HoistK.nil_ ?_
  simp only [opsAt, List.filterMap_cons, List.filterMap_nil, List.getElem?_toArray, List.getElem?_cons_succ, List.getElem?_cons_zero]
  refine Effects.cons_ fun _ hQ1 => ?_
  go_wp2_with (refine wpList_store_blk (cs0 := ([.int .i64 0, .int .i64 0, .int .i64 0] ++ ([.int .i64 0, .int .i64 0, .int .i64 0] ++ List.replicate 32 (.int .u8 0) ++ [.slice none 0 0, .slice none 0 0]) ++ [.int .i64 0] ++ ([.int .i64 0] ++ List.replicate 32 (.int .u8 0)) : List Value)) (cs := C) rfl 91 _ _ rfl HKX.out.drew rfl rfl (by rw [HCL.out]; rfl) HI.out HONE.out ?_; intro wy hby hcy; have HBY := Lib.hid hby; have HCY := Lib.hid hcy; clear hby hcy)
  refine hQ1 _ _ ⟨HBX.out.drew.chg HCY.out (fun h => by omega), HGX.out.drew.chg HCY.out (fun h => by omega)⟩ (Effects.nil_ fun _ hQ2 => ?_)
  go_wp2
  have hld := run_loadVar_mid (P := Tryz.prog) wy w.heap.size 0 91 C _ HBY.out.range Tryz.underlying91 rfl HI.out
  refine bodyPost_ret (v := .tuple #[.agg C.toArray, ey]) (by simp [results, Tryz.results71, asAddr, hld]) rfl ?_
  have hcf : Chg (fun b => b = w.heap.size) w7 wy := ((HCX'.out.mono fun _ h => h.elim).drew).trans HCY.out fun b h => .inl h
  exact ReadOut.mk (n := 6) HOUT.out HSS.out rfl HE.out (HB1.out.trans (HCA.out.below HB1.out.size fun b h => by omega)) hcf

end Go.Proofs.YtjjgmkfkmckkoabGreatDoor

/- Codec: all[Timeout]. -/
namespace Go.Proofs.YtjjgmkfkmckkoabGreatDoor
open Go.RowKit Go.Maps
attribute [-simp] Tryz.isAgg24 Tryz.typeInfo24 Tryz.isAgg91 Tryz.typeInfo91

theorem size_allTimeout_any : (Tryz.prog.info? 91).map (·.size) = some 74 := by kernel_rfl
theorem sizes_allTimeout_any : (Tryz.prog.info? 91).map (fun i => (i.zero.map (fun z => z.cells.size), i.size)) = some (some 74, 74) := by kernel_rfl
theorem info_allTimeout_any : (Tryz.prog.info? 91).map (fun i => (i.zero, i.size, i.bytes)) = some (some (.agg (([.int .i64 0, .int .i64 0, .int .i64 0] ++ ([.int .i64 0, .int .i64 0, .int .i64 0] ++ List.replicate 32 (.int .u8 0) ++ [.slice none 0 0, .slice none 0 0]) ++ [.int .i64 0] ++ ([.int .i64 0] ++ List.replicate 32 (.int .u8 0)) : List Value)).toArray), 74, 176) := by kernel_rfl
set_option maxHeartbeats 8000000 in
set_option maxRecDepth 100000 in
theorem allTimeout_any (w : World) {X : Nat → Prop} {E g : Nat} {sent : Value} {x : List UInt8} {rows : List (List UInt8)} {bad : Bool} (h : Pt w X E g sent (x :: rows) bad) (hxl : x.length ≤ 262144) :
    Calls Tryz.prog 70 #[.pointer (some ⟨g, 0, none⟩), .func (Fn.func 71) #[] #[]] w (Took (.list tTimeout) w X E g sent x rows bad) := by
  have hgx := h.2.2.1
  have hgw := h.lt
  have hEw := h.2.2.2.2.1
  have HGX := Lib.hid hgx
  have HX1 := Lib.hid (show ∀ b, X b → b < w.heap.size from h.2.2.2.1)
  have H := Lib.hid (next_any _ h)
  clear h hgx
  go_enter Tryz.func70, Tryz.ntmps70
  go_wp2_with fail
  refine H.out.mono ?_
  rintro e w1 ⟨v1, rfl, hb1, hc1, hp1⟩
  have HSP := Lib.hid (split_any w1 hb1 (by omega))
  have hz1 := hc1.size
  have HP1 := Lib.hid hp1
  have HC1 := Lib.hid hc1
  obtain ⟨A1, c1, rfl⟩ := hb1.form
  clear hb1 hp1 hc1 H
  go_wp2_with fail
  refine HSP.out.mono ?_
  rintro e w2 ⟨hb2, ⟨hno, rfl⟩ | ⟨v2, l, hsp, rfl, hbss⟩⟩
  · have HNO := Lib.hid hno; clear hno
    have hp2 := HP1.out.below hb2
    obtain ⟨⟨sa, rfl⟩, hgl⟩ := hp2.1
    have hgl : w2.cell? ⟨gF, 0, none⟩ = some _ := hgl
    unfold gF at hgl
    have hlx := hp2.2.2.2.1
    have hE2 := hp2.2.2.2.2.1
    have hal := (Below.refl w2.heap.size w2).alloc (Nat.le_refl _) (.cells #[.string ⟨#[97, 32, 108, 105, 115, 116]⟩, .iface 205 (.pointer (some sa))] 117)
    have HBAD := Lib.hid (bad_any _ (hp2.below hal) (Chain.fresh _ ⟨fun h => absurd (hlx _ h) (Nat.lt_irrefl _), hE2⟩))
    have HC2 := Lib.hid (HC1.out.trans (Chg.of_below hb2 fun k => k = g) fun b h => .inl h)
    clear hp2 hlx hal hE2 hb2 HP1 HC1 HSP
    go_wp2_with fail
    refine HBAD.out.mono ?_
    rintro e w3 ⟨rfl, hc3, hp3⟩
    have HP3 := Lib.hid hp3
    have HC3 := Lib.hid hc3
    clear hp3 hc3 HBAD
    go_wp2_with fail
    refine wp_loop_rounds 1 ?_
    rw [rounds_succ]
    go_wp2
    go_ret
    exact ⟨[.slice none 0 0], true, rfl, (HC2.out.alloc _).trans HC3.out fun b h => .inl h, HP3.out, SOut.noList HNO.out rfl⟩
  · have hrl : ∀ y ∈ l, y.length ≤ 262144 := fun y hy => Nat.le_trans (joinP_mem_le hsp y hy) hxl
    have hll : l.length ≤ 32768 := by
      have h1 := splitB_back hsp
      have h2 := joinP_count l
      rw [← h1, joinB_length] at hxl
      omega
    obtain ⟨A2, c2, rfl⟩ := hbss.form
    have HROWS := Lib.hid (((hbss.read fun y hy => by have := hrl y hy; omega).lt_ (T := fun b => w1.heap.size ≤ b) fun b h => h.elim id id).subs (T := fun b => b ≠ g) fun b hb _ => by have := hb.1; omega)
    have HP2 := Lib.hid (HP1.out.below hb2)
    have HC2 := Lib.hid (HC1.out.trans (Chg.of_below hb2 fun k => k = g) fun b h => .inl h)
    have HSPL := Lib.hid hsp
    have HRL := Lib.hid hrl
    have hwS : w.heap.size ≤ w2.heap.size := Nat.le_trans hz1 hb2.size
    clear hbss hsp hrl hb2 HP1 HC1 HSP hxl
    go_wp2_with fail
    go_loopw [7, 28] (fun o i wr => ∃ k : Nat, k ≤ l.length ∧ i = .int .i64 k ∧ AllI 91 74 tTimeout w w2 X E g sent rows bad l o k wr) (fun _ i _ => l.length - (intOf i).toNat)
    case atStart => exact ⟨0, Nat.zero_le _, rfl, AllI.start HP2.out⟩
    case round =>
      obtain ⟨k, hk, rfl, hI⟩ := hrel
      by_cases hlt : k < l.length
      · obtain ⟨css, bk, hown, hob, hlo, hpt, hch⟩ := hI
        obtain ⟨ba, oa, ua, rfl, hca, hua, _, hSb⟩ := (HROWS.out.chg hch (fun b hb h => hb h)).at_ hlt
        have htk : l.take (k + 1) = l.take k ++ [l[k]] := List.take_succ_eq_append_getElem hlt
        have hyl := HRL.out l[k] (List.getElem_mem hlt)
        obtain ⟨y, hy⟩ : ∃ y, y = l[k] := ⟨_, rfl⟩
        rw [← hy] at hua htk hyl
        have HR := Lib.hid (readTimeout_any wr hua hyl hpt.1)
        obtain ⟨Ay, cy, rfl⟩ := hua.form
        obtain ⟨Ao, co, rfl⟩ := hown.form
        have HOWN := Lib.hid hown
        have HOB := Lib.hid hob
        have HLO := Lib.hid hlo
        have HPT := Lib.hid hpt
        have HCH := Lib.hid hch
        have HTK := Lib.hid htk
        have H63 := Lib.hid (show k + 1 ≤ maxLen ∧ (k + 1) * 176 ≤ 140737488355328 from ⟨by simp only [maxLen]; omega, by omega⟩)
        have hzr := hch.size
        clear hown hob hlo hpt hch htk hy hua hyl
        go_wp2_with fail
        refine HR.out.mono ?_
        rintro e w3 hro
        obtain ⟨C, err, bd, rfl, h1, hl, hb3, he, ho⟩ := hro.agg (fun _ => rfl)
        have hl : C.length = 74 := hl
        have HL := Lib.hid hl
        have HI := Lib.hid (show (Tryz.prog.info? 91).map (·.size) = some C.length from by rw [hl]; exact size_allTimeout_any)
        have HI2 := Lib.hid (show (Tryz.prog.info? 91).map (fun i => (i.zero.map (fun z => z.cells.size), i.size)) = some (some C.length, C.length) from by rw [hl]; exact sizes_allTimeout_any)
        have H1 := Lib.hid h1
        clear h1 hl
        have HB3 := Lib.hid hb3
        have HP3 := Lib.hid (HPT.out.below hb3)
        have HO := Lib.hid (ho.or_ bk)
        clear hro hb3 ho HR
        rcases he with ⟨rfl, rfl⟩ | ⟨rfl, hcn⟩
        · skip
          go_wp2_with (first
            | (refine wpList_store_blk (cs0 := ([.int .i64 0, .int .i64 0, .int .i64 0] ++ ([.int .i64 0, .int .i64 0, .int .i64 0] ++ List.replicate 32 (.int .u8 0) ++ [.slice none 0 0, .slice none 0 0]) ++ [.int .i64 0] ++ ([.int .i64 0] ++ List.replicate 32 (.int .u8 0)) : List Value)) (cs := C) rfl 91 _ _ rfl (Blk.new w3 _ _) rfl rfl (by rw [HL.out]; rfl) HI.out H1.out ?_; intro w4 hb4 hc4; have HB4 := Lib.hid hb4; have HC4 := Lib.hid (show Chg (fun _ => False) w3 w4 from ((Chg.refl _ w3).alloc _).trans hc4 fun b h => .inr (Nat.le_of_eq h.symm)); clear hb4 hc4; have HO2 := Lib.hid (show ∀ ob, Own (w4.alloc ob) 91 74 (.slice Ao k co) k css.flatten from fun ob => own_keep HOWN.out fun b hb => (by have h1 := own_lt HOWN.out hb; have h2 := HOB.out b hb; have h3 := HB3.out.size; exact (Below.heap_alloc w4 ob b (Nat.lt_of_lt_of_le (Nat.lt_of_lt_of_le h1 h3) HC4.out.size)).trans ((HC4.out.block b (Nat.lt_of_lt_of_le h1 h3) id).trans (HB3.out.block b h1)))); have HS2 := Lib.hid (Cs.of_new w4 91 (size := 74) 1 (cs := C) (by rw [HL.out]) (by simp only [maxLen]; decide)))
            | (refine wpList_load_blk' rfl 91 _ rfl HB4.out rfl Tryz.underlying91 rfl HI.out ?_)
            | (refine wpList_row1 rfl 46 91 _ rfl Tryz.underlying46 (.agg C.toArray) rfl C rfl HI2.out (by rw [HL.out]; decide) (by rw [HL.out]; decide) ?_)
            | (at_builtin; refine wpList_app _ rfl _ _ _ rfl Tryz.underlying46 info_allTimeout_any rfl (by decide) (HO2.out _) rfl HS2.out rfl H1.out H63.out.1 H63.out.2 ?_; intro v6 w6 ho6 hc6 hnil6 hat6; clear hnil6; have HO6 := Lib.hid ho6; clear ho6; have HC6 := Lib.hid hc6; clear hc6; have HAT6 := Lib.hid hat6; clear hat6))
          refine ⟨⟨k + 1, by omega, by push_cast; rfl, AllI.step hgw hwS HOWN.out HOB.out HLO.out HCH.out HB3.out (by have := HO.out; rw [Bool.or_false] at this; exact this) (HC4.out.mono (M' := fun b => b = g) fun _ h => h.elim) (HP3.out.chg HC4.out fun b h => h.elim) HTK.out HO6.out HC6.out HAT6.out⟩, ?_⟩
          simp only [intOf]; omega
        · skip
          obtain ⟨gw, rfl⟩ := hcn.form
          have HCN := Lib.hid hcn; clear hcn
          go_wp2_with (refine wpList_store_blk (cs0 := ([.int .i64 0, .int .i64 0, .int .i64 0] ++ ([.int .i64 0, .int .i64 0, .int .i64 0] ++ List.replicate 32 (.int .u8 0) ++ [.slice none 0 0, .slice none 0 0]) ++ [.int .i64 0] ++ ([.int .i64 0] ++ List.replicate 32 (.int .u8 0)) : List Value)) (cs := C) rfl 91 _ _ rfl (Blk.new w3 _ _) rfl rfl (by rw [HL.out]; rfl) HI.out H1.out ?_; intro w4 hb4 hc4; have HB4 := Lib.hid hb4; have HC4 := Lib.hid (show Chg (fun _ => False) w3 w4 from ((Chg.refl _ w3).alloc _).trans hc4 fun b h => .inr (Nat.le_of_eq h.symm)); clear hb4 hc4)
          have hp4 := (HP3.out.chg HC4.out fun b h => h.elim)
          have hlx := hp4.2.2.2.1
          have hE4 := hp4.2.2.2.2.1
          have hz4 := HC4.out.size
          have hz3 := HB3.out.size
          have hal := (Below.refl w4.heap.size w4).alloc (Nat.le_refl _) (.cells #[.string ⟨#[105, 110, 32, 97, 32, 108, 105, 115, 116]⟩, .iface 113 (.pointer (some ⟨gw, 0, none⟩))] 117)
          have hcn4 := (HCN.out.to (w' := w4) (S' := fun b => ¬ (X b ∨ (Value.slice Ao k co).ownBlock = some b) ∧ E ≤ b) (fun b hb hlt => ⟨Nat.lt_of_lt_of_le hlt HC4.out.size, HC4.out.block b hlt id⟩) fun b hb hlt => ⟨fun h => h.elim (fun h => by have := HX1.out b h; omega) fun h => by have := own_lt HOWN.out h; omega, by omega⟩)
          have HBAD := Lib.hid (bad_any _ (hp4.below hal) (hcn4.freshMore _ ⟨fun h => absurd (hlx _ h) (Nat.lt_irrefl _), hE4⟩))
          clear hp4 hlx hal hcn4 hE4
          refine HBAD.out.mono ?_
          rintro e w5 ⟨rfl, hc5, hp5⟩
          have HP5 := Lib.hid hp5
          have HC35 := Lib.hid (show Chg (fun b => b = g) w3 w5 from ((HC4.out.mono (M' := fun b => b = g) fun _ h => h.elim).alloc _).trans hc5 fun b h => .inl h)
          have HB5 := Lib.hid ((HB4.out.alloc _).chg hc5 (fun h => by omega))
          clear hc5 hp5 HBAD
          have HO2 := Lib.hid (show ∀ ob, Own (w5.alloc ob) 91 74 (.slice Ao k co) k css.flatten from fun ob => own_keep HOWN.out fun b hb => (by have h1 := own_lt HOWN.out hb; have h2 := HOB.out b hb; have h3 := HB3.out.size; exact (Below.heap_alloc w5 ob b (Nat.lt_of_lt_of_le (Nat.lt_of_lt_of_le h1 h3) HC35.out.size)).trans ((HC35.out.block b (Nat.lt_of_lt_of_le h1 h3) (fun e => by omega)).trans (HB3.out.block b h1))))
          have HS2 := Lib.hid (Cs.of_new w5 91 (size := 74) 1 (cs := C) (by rw [HL.out]) (by simp only [maxLen]; decide))
          go_wp2_with (first
            | (refine wpList_load_blk' rfl 91 _ rfl HB5.out rfl Tryz.underlying91 rfl HI.out ?_)
            | (refine wpList_row1 rfl 46 91 _ rfl Tryz.underlying46 (.agg C.toArray) rfl C rfl HI2.out (by rw [HL.out]; decide) (by rw [HL.out]; decide) ?_)
            | (at_builtin; refine wpList_app _ rfl _ _ _ rfl Tryz.underlying46 info_allTimeout_any rfl (by decide) (HO2.out _) rfl HS2.out rfl H1.out H63.out.1 H63.out.2 ?_; intro v6 w6 ho6 hc6 hnil6 hat6; clear hnil6; have HO6 := Lib.hid ho6; clear ho6; have HC6 := Lib.hid hc6; clear hc6; have HAT6 := Lib.hid hat6; clear hat6))
          refine ⟨⟨k + 1, by omega, by push_cast; rfl, AllI.step hgw hwS HOWN.out HOB.out HLO.out HCH.out HB3.out (by have := HO.out; rw [Bool.or_true] at this; exact this) HC35.out HP5.out HTK.out HO6.out HC6.out HAT6.out⟩, ?_⟩
          simp only [intOf]; omega
      · have hk' : k = l.length := by omega
        subst hk'
        have HI := Lib.hid hI
        clear hI
        go_wp2_with fail
        go_ret
        exact HI.out.out rfl HSPL.out (fun _ => rfl) HGX.out HC2.out

end Go.Proofs.YtjjgmkfkmckkoabGreatDoor

/- Codec: a message read. -/
namespace Go.Proofs.YtjjgmkfkmckkoabGreatDoor
open Go.RowKit Go.Maps
attribute [-simp] Tryz.isAgg24 Tryz.typeInfo24 Tryz.isAgg48 Tryz.typeInfo48

theorem info_readMessage : (Tryz.prog.info? 48).map (fun i => (i.zero.map (fun z => z.cells.size))) = some (some 40) := by kernel_rfl
theorem size_readMessage : (Tryz.prog.info? 48).map (·.size) = some 40 := by kernel_rfl
theorem places_readMessage : ((match Tryz.prog.underlying 48 with | some (.struct fields) => fields.toList.mapM (fun f => (Tryz.prog.info? f.type).map fun i => (f.offset, i.size)) | _ => none)) = some [(0, 1), (1, 1), (2, 1), (3, 32), (35, 1), (36, 1), (37, 1), (38, 1), (39, 1)] := by kernel_rfl
set_option maxHeartbeats 4000000 in
set_option maxRecDepth 100000 in
theorem readMessage_any (w : World) {S : Nat → Prop} {v sent : Value} {bs : List UInt8} (h : Bs w S v bs) (hlen : bs.length ≤ 262144) (hg : Gl w sent) :
    Calls Tryz.prog 24 #[v] w (ReadOut (.tup (.cons i64 (.cons i64 (.cons i64 (.cons .dig (.cons (.list tBlock) (.cons (.list tVote) (.cons (.list tTimeout) (.cons (.list tCommit) (.cons (.list tTx) .nil)))))))))) w sent bs) := by
  have hal := (Below.refl w.heap.size w).alloc (Nat.le_refl _) (.cells (([.int .i64 0, .int .i64 0, .int .i64 0] ++ List.replicate 32 (.int .u8 0) ++ [.slice none 0 0, .slice none 0 0, .slice none 0 0, .slice none 0 0, .slice none 0 0] : List Value)).toArray 48)
  have HS := Lib.hid (psplit_any _ (h.below hal) (by omega) (hg.below hal) 9 (by omega) ⟨#[97, 32, 109, 101, 115, 115, 97, 103, 101]⟩)
  have HN := Lib.hid (Blk.new w 48 (([.int .i64 0, .int .i64 0, .int .i64 0] ++ List.replicate 32 (.int .u8 0) ++ [.slice none 0 0, .slice none 0 0, .slice none 0 0, .slice none 0 0, .slice none 0 0] : List Value)).toArray)
  have HAL := Lib.hid hal
  obtain ⟨A, cap, rfl⟩ := h.form
  clear h hg hal
  go_enter Tryz.func24, Tryz.ntmps24
  go_wp2_with fail
  refine HS.out.mono ?_
  rintro e w1 ⟨g, rows, bad, rfl, hgw, hb1, hp, hn, hrl, hs⟩
  obtain ⟨r0, r1, r2, r3, r4, r5, r6, r7, r8, rfl⟩ : ∃ r0 r1 r2 r3 r4 r5 r6 r7 r8, rows = [r0, r1, r2, r3, r4, r5, r6, r7, r8] := by
    match rows, hn with
    | [r0, r1, r2, r3, r4, r5, r6, r7, r8], _ => exact ⟨r0, r1, r2, r3, r4, r5, r6, r7, r8, rfl⟩
  have HK := Lib.hid (HN.out.below hb1 (by simp))
  have hgw' : w.heap.size + 1 ≤ g := by simpa using hgw
  have hz1 : w.heap.size + 1 ≤ w1.heap.size := by simpa using hb1.size
  have HB1 := Lib.hid (HAL.out.trans (hb1.mono (by simp)))
  have HSS := Lib.hid hs
  have HRL := Lib.hid (show ∀ x ∈ [r0, r1, r2, r3, r4, r5, r6, r7, r8], x.length ≤ 262144 from fun x hx => Nat.le_trans (hrl x hx) hlen)
  have hE : Pt w1 (fun b => b = g) (w.heap.size + 1) g sent [r0, r1, r2, r3, r4, r5, r6, r7, r8] bad := by simpa using hp
  clear HS HN HAL hgw hb1 hs hn hp hrl hlen
  have hp0 := hE
  clear hE
  go_wp2_with fail
  refine (int_any _ hp0).mono ?_
  rintro e w2 ht
  obtain ⟨y0, b0, rfl, h10, hc0, hp1, ho0⟩ := ht.one (fun _ => rfl) rfl
  have hgl0 := hp0.lt
  have hz2 := Nat.le_trans hz1 hc0.size
  have HO0 := Lib.hid ho0
  have HC0 := Lib.hid hc0
  have H10 := Lib.hid h10
  clear ht ho0 hc0 h10 hp0
  go_wp2_with fail
  refine (int_any _ hp1).mono ?_
  rintro e w3 ht
  obtain ⟨y1, b1, rfl, h11, hc1, hp2, ho1⟩ := ht.one (fun _ => rfl) rfl
  have hgl1 := hp1.lt
  have hz3 := Nat.le_trans hz2 hc1.size
  have HO1 := Lib.hid ho1
  have HC1 := Lib.hid hc1
  have H11 := Lib.hid h11
  clear ht ho1 hc1 h11 hp1
  go_wp2_with fail
  refine (n_any _ hp2).mono ?_
  rintro e w4 ht
  obtain ⟨y2, b2, rfl, h12, hc2, hp3, ho2⟩ := ht.one (fun _ => rfl) rfl
  have hgl2 := hp2.lt
  have hz4 := Nat.le_trans hz3 hc2.size
  have HO2 := Lib.hid ho2
  have HC2 := Lib.hid hc2
  have H12 := Lib.hid h12
  clear ht ho2 hc2 h12 hp2
  go_wp2_with fail
  refine (pdigest_any _ hp3).mono ?_
  rintro e w5 ht
  obtain ⟨c3, b3, rfl, h13, hl3, hc3, hp4, ho3⟩ := ht.agg (fun _ => rfl)
  have hl3 : c3.length = 32 := hl3
  have hgl3 := hp3.lt
  have hz5 := Nat.le_trans hz4 hc3.size
  have HO3 := Lib.hid ho3
  have HC3 := Lib.hid hc3
  have H13 := Lib.hid h13
  have HL3 := Lib.hid hl3
  clear hl3
  clear ht ho3 hc3 h13 hp3
  go_wp2_with fail
  refine (allBlock_any _ hp4 (HRL.out _ (by simp))).mono ?_
  rintro e w6 ht
  obtain ⟨y4, b4, rfl, h14, hc4, hp5, ho4⟩ := ht.one (fun _ => rfl) rfl
  have hgl4 := hp4.lt
  have hz6 := Nat.le_trans hz5 hc4.size
  have HO4 := Lib.hid ho4
  have HC4 := Lib.hid hc4
  have H14 := Lib.hid h14
  clear ht ho4 hc4 h14 hp4
  go_wp2_with fail
  refine (allVote_any _ hp5 (HRL.out _ (by simp))).mono ?_
  rintro e w7 ht
  obtain ⟨y5, b5, rfl, h15, hc5, hp6, ho5⟩ := ht.one (fun _ => rfl) rfl
  have hgl5 := hp5.lt
  have hz7 := Nat.le_trans hz6 hc5.size
  have HO5 := Lib.hid ho5
  have HC5 := Lib.hid hc5
  have H15 := Lib.hid h15
  clear ht ho5 hc5 h15 hp5
  go_wp2_with fail
  refine (allTimeout_any _ hp6 (HRL.out _ (by simp))).mono ?_
  rintro e w8 ht
  obtain ⟨y6, b6, rfl, h16, hc6, hp7, ho6⟩ := ht.one (fun _ => rfl) rfl
  have hgl6 := hp6.lt
  have hz8 := Nat.le_trans hz7 hc6.size
  have HO6 := Lib.hid ho6
  have HC6 := Lib.hid hc6
  have H16 := Lib.hid h16
  clear ht ho6 hc6 h16 hp6
  go_wp2_with fail
  refine (allCommit_any _ hp7 (HRL.out _ (by simp))).mono ?_
  rintro e w9 ht
  obtain ⟨y7, b7, rfl, h17, hc7, hp8, ho7⟩ := ht.one (fun _ => rfl) rfl
  have hgl7 := hp7.lt
  have hz9 := Nat.le_trans hz8 hc7.size
  have HO7 := Lib.hid ho7
  have HC7 := Lib.hid hc7
  have H17 := Lib.hid h17
  clear ht ho7 hc7 h17 hp7
  go_wp2_with fail
  refine (allTx_any _ hp8 (HRL.out _ (by simp))).mono ?_
  rintro e w10 ht
  obtain ⟨y8, b8, rfl, h18, hc8, hp9, ho8⟩ := ht.one (fun _ => rfl) rfl
  have hgl8 := hp8.lt
  have hz10 := Nat.le_trans hz9 hc8.size
  have HO8 := Lib.hid ho8
  have HC8 := Lib.hid hc8
  have H18 := Lib.hid h18
  clear ht ho8 hc8 h18 hp8
  have hbu := run_struct (P := Tryz.prog) (vs := [y0, y1, y2, .agg c3.toArray, y4, y5, y6, y7, y8]) (cs := [[y0], [y1], [y2], c3, [y4], [y5], [y6], [y7], [y8]]) info_readMessage places_readMessage ⟨cells_one H10.out, cells_one H11.out, cells_one H12.out, rfl, cells_one H14.out, cells_one H15.out, cells_one H16.out, cells_one H17.out, cells_one H18.out, trivial⟩ (by simp [PlaceOk, HL3.out]) (by simp [HL3.out]) #[(0, y0), (1, y1), (2, y2), (3, .agg c3.toArray), (4, y4), (5, y5), (6, y6), (7, y7), (8, y8)] rfl
  have hone : ∀ v ∈ [[y0], [y1], [y2], c3, [y4], [y5], [y6], [y7], [y8]].flatten, v.oneCell' = true := by
    intro v hv
    simp only [List.flatten_cons, List.flatten_nil, List.mem_append, List.mem_singleton, List.not_mem_nil, or_false] at hv
    rcases hv with rfl | rfl | rfl | hv | rfl | rfl | rfl | rfl | rfl
    · exact H10.out
    · exact H11.out
    · exact H12.out
    · exact H13.out v hv
    · exact H14.out
    · exact H15.out
    · exact H16.out
    · exact H17.out
    · exact H18.out
  have HOUT := Lib.hid (show Fs.Out (.cons i64 (.cons i64 (.cons i64 (.cons .dig (.cons (.list tBlock) (.cons (.list tVote) (.cons (.list tTimeout) (.cons (.list tCommit) (.cons (.list tTx) .nil))))))))) w10 (Nw (w.heap.size + 1) w10) [r0, r1, r2, r3, r4, r5, r6, r7, r8] [[y0], [y1], [y2], c3, [y4], [y5], [y6], [y7], [y8]].flatten bad b8 from by
    have := Fs.Out.step HO0.out (Fs.Out.step HO1.out (Fs.Out.step HO2.out (Fs.Out.step HO3.out (Fs.Out.step HO4.out (Fs.Out.step HO5.out (Fs.Out.step HO6.out (Fs.Out.step HO7.out (Fs.Out.step HO8.out (Fs.Out.nil_ w10 _ _) (Chg.refl _ _) hgl8 hz9) HC8.out hgl7 hz8) (HC7.out.trans HC8.out fun b h => .inl h) hgl6 hz7) ((HC6.out.trans HC7.out fun b h => .inl h).trans HC8.out fun b h => .inl h) hgl5 hz6) (((HC5.out.trans HC6.out fun b h => .inl h).trans HC7.out fun b h => .inl h).trans HC8.out fun b h => .inl h) hgl4 hz5) ((((HC4.out.trans HC5.out fun b h => .inl h).trans HC6.out fun b h => .inl h).trans HC7.out fun b h => .inl h).trans HC8.out fun b h => .inl h) hgl3 hz4) (((((HC3.out.trans HC4.out fun b h => .inl h).trans HC5.out fun b h => .inl h).trans HC6.out fun b h => .inl h).trans HC7.out fun b h => .inl h).trans HC8.out fun b h => .inl h) hgl2 hz3) ((((((HC2.out.trans HC3.out fun b h => .inl h).trans HC4.out fun b h => .inl h).trans HC5.out fun b h => .inl h).trans HC6.out fun b h => .inl h).trans HC7.out fun b h => .inl h).trans HC8.out fun b h => .inl h) hgl1 hz2) (((((((HC1.out.trans HC2.out fun b h => .inl h).trans HC3.out fun b h => .inl h).trans HC4.out fun b h => .inl h).trans HC5.out fun b h => .inl h).trans HC6.out fun b h => .inl h).trans HC7.out fun b h => .inl h).trans HC8.out fun b h => .inl h) hgl0 hz1
    simpa using this)
  have HCA := Lib.hid (show Chg (fun k => k = g) w1 w10 from ((((((((HC0.out.trans HC1.out fun b h => .inl h).trans HC2.out fun b h => .inl h).trans HC3.out fun b h => .inl h).trans HC4.out fun b h => .inl h).trans HC5.out fun b h => .inl h).trans HC6.out fun b h => .inl h).trans HC7.out fun b h => .inl h).trans HC8.out fun b h => .inl h))
  have hcl : [[y0], [y1], [y2], c3, [y4], [y5], [y6], [y7], [y8]].flatten.length = 40 := by simp [HL3.out]
  obtain ⟨C, hC⟩ : ∃ C, C = [[y0], [y1], [y2], c3, [y4], [y5], [y6], [y7], [y8]].flatten := ⟨_, rfl⟩
  rw [← hC] at hbu hone hcl HOUT
  have HBU := Lib.hid hbu
  have HONE := Lib.hid hone
  have HCL := Lib.hid hcl
  have HI := Lib.hid (show (Tryz.prog.info? 48).map (·.size) = some C.length from by rw [hcl]; exact size_readMessage)
  have HK2 := Lib.hid (HK.out.chg HCA.out (show ¬ w.heap.size = g from by omega))
  clear hbu hone hcl hC HK HO0 HC0 H10 HO1 HC1 H11 HO2 HC2 H12 HO3 HC3 H13 HO4 HC4 H14 HO5 HC5 H15 HO6 HC6 H16 HO7 HC7 H17 HO8 HC8 H18 HL3
  have HP := Lib.hid hp9
  have hgX := hp9.lt
  clear hp9
  have hbu := HBU.out w10
  have HX := Lib.hid (HP.out.parts)
  go_wp2_with (first | (refine wpList_build_ rfl 48 _ rfl #[(0, y0), (1, y1), (2, y2), (3, .agg c3.toArray), (4, y4), (5, y5), (6, y6), (7, y7), (8, y8)] (by simp [Act.eval]) _ hbu ?_) | (refine wpList_store_blk (cs0 := ([.int .i64 0, .int .i64 0, .int .i64 0] ++ List.replicate 32 (.int .u8 0) ++ [.slice none 0 0, .slice none 0 0, .slice none 0 0, .slice none 0 0, .slice none 0 0] : List Value)) (cs := C) rfl 48 _ _ rfl (Blk.new w10 _ _) rfl rfl (by rw [HCL.out]; rfl) HI.out HONE.out ?_; intro wx hbx hcx; have HBX := Lib.hid hbx; have HCX := Lib.hid hcx; clear hbx hcx))
  obtain ⟨vy, ey, hblk, herr⟩ := HX.out
  have HCX' := Lib.hid (show Chg (fun _ => False) w10 wx from ((Chg.refl _ w10).alloc _).trans HCX.out fun b h => .inr (Nat.le_of_eq h.symm))
  have HGX := Lib.hid (hblk.chg HCX'.out id)
  have HKX := Lib.hid (HK2.out.chg HCX'.out id)
  have HE := Lib.hid herr
  clear hbu hblk herr HX HBU
  refine wp_region_hoist [0, 1, 2, 3, 4] [5] [6] (fun w' => Blk w' w10.heap.size 48 C.toArray ∧ Blk w' g 133 #[vy, ey])
    (by kernel_rfl) (by kernel_rfl) (by kernel_rfl) (by kernel_rfl) (by kernel_rfl) (by kernel_rfl) ⟨HBX.out.drew, HGX.out.drew⟩ ?_
  (refine HoistK.load (by rfl) (by kernel_rfl) 48 _ rfl w10.heap.size 0 rfl C _ (fun w' hw => hw.1.range) Tryz.underlying48 rfl HI.out ?_; simp only [Act.put, List.setIfInBounds_toArray, List.getElem_toArray, List.getElem_cons_zero, List.set_cons_succ, List.set_cons_zero])
  (refine HoistK.yes (by rfl) (by kernel_rfl) ⟨?_, fun w' hSw => ?_, ?_⟩; rotate_left; (· go_simp; try with_reducible rfl); simp only [Act.put, List.setIfInBounds_toArray, List.getElem_toArray, List.getElem_cons_succ, List.getElem_cons_zero, List.set_cons_succ, List.set_cons_zero])
  (refine HoistK.yes (by rfl) (by kernel_rfl) ⟨?_, fun w' hSw => ?_, ?_⟩; rotate_left; (· go_simp; try with_reducible rfl); simp only [Act.put, List.setIfInBounds_toArray, List.getElem_toArray, List.getElem_cons_succ, List.getElem_cons_zero, List.set_cons_succ, List.set_cons_zero])
  (refine HoistK.yes (by rfl) (by kernel_rfl) ⟨?_, fun w' hSw => ?_, ?_⟩; rotate_left; (· go_simp; try with_reducible rfl); simp only [Act.put, List.setIfInBounds_toArray, List.getElem_toArray, List.getElem_cons_succ, List.getElem_cons_zero, List.set_cons_succ, List.set_cons_zero])
  (refine HoistK.yes (by rfl) (by kernel_rfl) ⟨?_, fun w' hSw => ?_, ?_⟩; rotate_left; (· have hcc := hSw.2.cell; go_simp; try with_reducible rfl); simp only [Act.put, List.setIfInBounds_toArray, List.getElem_toArray, List.getElem_cons_succ, List.getElem_cons_zero, List.set_cons_succ, List.set_cons_zero])
  refine HoistK.nil_ ?_
  simp only [opsAt, List.filterMap_cons, List.filterMap_nil, List.getElem?_toArray, List.getElem?_cons_succ, List.getElem?_cons_zero]
  refine Effects.cons_ fun _ hQ1 => ?_
  go_wp2_with (refine wpList_store_blk (cs0 := ([.int .i64 0, .int .i64 0, .int .i64 0] ++ List.replicate 32 (.int .u8 0) ++ [.slice none 0 0, .slice none 0 0, .slice none 0 0, .slice none 0 0, .slice none 0 0] : List Value)) (cs := C) rfl 48 _ _ rfl HKX.out.drew rfl rfl (by rw [HCL.out]; rfl) HI.out HONE.out ?_; intro wy hby hcy; have HBY := Lib.hid hby; have HCY := Lib.hid hcy; clear hby hcy)
  refine hQ1 _ _ ⟨HBX.out.drew.chg HCY.out (fun h => by omega), HGX.out.drew.chg HCY.out (fun h => by omega)⟩ (Effects.nil_ fun _ hQ2 => ?_)
  go_wp2
  have hld := run_loadVar_mid (P := Tryz.prog) wy w.heap.size 0 48 C _ HBY.out.range Tryz.underlying48 rfl HI.out
  refine bodyPost_ret (v := .tuple #[.agg C.toArray, ey]) (by simp [results, Tryz.results24, asAddr, hld]) rfl ?_
  have hcf : Chg (fun b => b = w.heap.size) w10 wy := ((HCX'.out.mono fun _ h => h.elim).drew).trans HCY.out fun b h => .inl h
  exact ReadOut.mk (n := 9) HOUT.out HSS.out rfl HE.out (HB1.out.trans (HCA.out.below HB1.out.size fun b h => by omega)) hcf

end Go.Proofs.YtjjgmkfkmckkoabGreatDoor

/- Codec: face[Message], ReadMessage. -/
namespace Go.Proofs.YtjjgmkfkmckkoabGreatDoor
open Go.RowKit Go.Maps
attribute [-simp] Tryz.isAgg24 Tryz.typeInfo24 Tryz.isAgg48 Tryz.typeInfo48

def zFMessage : List Value := ([.int .i64 0, .int .i64 0, .int .i64 0] ++ List.replicate 32 (.int .u8 0) ++ [.slice none 0 0, .slice none 0 0, .slice none 0 0, .slice none 0 0, .slice none 0 0] : List Value)
set_option maxRecDepth 100000 in
theorem one_faceMessage : ∀ v ∈ zFMessage, v.oneCell' = true := by decide
set_option maxRecDepth 100000 in
theorem len_faceMessage : zFMessage.length = 40 := by decide
theorem size_faceMessage : (Tryz.prog.info? 48).map (·.size) = some zFMessage.length := by kernel_rfl
set_option maxHeartbeats 8000000 in
set_option maxRecDepth 100000 in
theorem faceMessage_any (w : World) {S : Nat → Prop} {v sent : Value} {bs : List UInt8} (h : Bs w S v bs) (hp : Pk w sent) :
    Calls Tryz.prog 23 #[v, .func (Fn.func 24) #[] #[]] w (FaceOutN tMessage zFMessage w bs) := by
  obtain ⟨A, cap, rfl⟩ := h.form
  have hal1 := (Below.refl w.heap.size w).alloc (Nat.le_refl _) (.cells (zFMessage).toArray 48)
  have hal2 := hal1.alloc (by simp) (.cells (zFMessage).toArray 48)
  have hr0 := (Blk.new w 48 (zFMessage).toArray).alloc (.cells (zFMessage).toArray 48)
  have hz0 := Blk.new (w.alloc (.cells (zFMessage).toArray 48)) 48 (zFMessage).toArray
  rw [show (w.alloc (.cells (zFMessage).toArray 48)).heap.size = w.heap.size + 1 by simp] at hz0
  by_cases hbig : 262144 < bs.length
  · obtain ⟨sb, hsb⟩ : ∃ sb, w.cell? ⟨0, 0, none⟩ = some (.iface 205 (.pointer (some sb))) := by
      obtain ⟨_, _, b, _, _, _, _, _, _, _, _, h, _⟩ := hp
      exact ⟨b, h⟩
    have hgb : ∀ {W : World}, Below w.heap.size w W → W.cell? ⟨0, 0, none⟩ = some (.iface 205 (.pointer (some sb))) := fun hb => cell_low hsb hb
    clear h
    go_enter Tryz.func23, Tryz.ntmps23
    go_wp2_with fail
    have hb := hal2.drew
    have hr : Blk _ _ _ _ := hr0.drew
    have hz : Blk _ _ _ _ := hz0.drew
    clear hal1 hal2 hz0 hsb
    refine wp_region_hoist [0, 1, 2] [3, 4, 5] [6, 7] (fun w' => Blk w' (w.heap.size + 1) 48 (zFMessage).toArray ∧ w'.cell? ⟨0, 0, none⟩ = some (.iface 205 (.pointer (some sb)))) (by kernel_rfl) (by kernel_rfl) (by kernel_rfl) (by kernel_rfl) (by kernel_rfl) (by kernel_rfl) ⟨hz, hgb hb⟩ ?_
    (refine HoistK.load (by rfl) (by kernel_rfl) 48 _ rfl (w.heap.size + 1) 0 rfl zFMessage _ (fun w' hw => hw.1.range) Tryz.underlying48 rfl size_faceMessage ?_; simp only [Act.put, List.setIfInBounds_toArray, List.getElem_toArray, List.getElem_cons_zero, List.set_cons_succ, List.set_cons_zero])
    (refine HoistK.yes (by rfl) (by kernel_rfl) ⟨?_, fun w' hSw => ?_, ?_⟩; rotate_left; (· have hcc := hSw.2; go_simp; try with_reducible rfl); simp only [Act.put, List.setIfInBounds_toArray, List.getElem_toArray, List.getElem_cons_succ, List.getElem_cons_zero, List.set_cons_succ, List.set_cons_zero])
    (refine HoistK.yes (by rfl) (by kernel_rfl) ⟨?_, fun w' hSw => ?_, ?_⟩; rotate_left; (· go_simp; try with_reducible rfl); simp only [Act.put, List.setIfInBounds_toArray, List.getElem_toArray, List.getElem_cons_succ, List.getElem_cons_zero, List.set_cons_succ, List.set_cons_zero])
    refine HoistK.nil_ ?_
    simp only [opsAt, List.filterMap_cons, List.filterMap_nil, List.getElem?_toArray, List.getElem?_cons_succ, List.getElem?_cons_zero]
    refine Effects.world (F := fun W => Below w.heap.size w W ∧ Blk W w.heap.size 48 (zFMessage).toArray ∧ Blk W (w.heap.size + 1) 48 (zFMessage).toArray) (fun W hF => ?_) ⟨hb, hr, hz⟩
    clear hb hr hz hr0
    obtain ⟨hb, hr, hz⟩ := hF
    refine Effects.cons_ fun _ hQ => ?_
    have hzl := hz.lt
    go_wp2_with fail
    have hk := Blk.new W 117 #[.string ⟨#[97, 108, 108]⟩, .iface 205 (.pointer (some sb))]
    replace hb := hb.alloc hb.size (.cells #[.string ⟨#[97, 108, 108]⟩, .iface 205 (.pointer (some sb))] 117)
    replace hr := hr.alloc (.cells #[.string ⟨#[97, 108, 108]⟩, .iface 205 (.pointer (some sb))] 117)
    replace hz := hz.alloc (.cells #[.string ⟨#[97, 108, 108]⟩, .iface 205 (.pointer (some sb))] 117)
    obtain ⟨gg, hgg⟩ : ∃ gg, gg = W.heap.size := ⟨_, rfl⟩
    have hgn : gg ≠ w.heap.size := by omega
    rw [← hgg] at hk ⊢
    have HGG := Lib.hid hgg; clear hgg
    generalize W.alloc (.cells #[.string ⟨#[97, 108, 108]⟩, .iface 205 (.pointer (some sb))] 117) = W1 at *
    refine hQ _ _ ⟨hz, hgb hb⟩ (Effects.cons_ fun _ hQ => ?_)
    go_wp2_with fail
    refine hQ _ _ ⟨hz, hgb hb⟩ (Effects.cons_ fun _ hQ => ?_)
    go_wp2_with fail
    refine (told_any (r := true) _ (hp.below hb) ⟨gg, 1, _, rfl, .more hk .last, hgb hb⟩).mono ?_
    rintro e W2 ⟨rfl, hb2⟩
    replace hb := hb.trans (hb2.mono hb.size)
    replace hr := hr.below hb2 hr.lt
    replace hz := hz.below hb2 hz.lt
    replace hk := hk.below hb2 hk.lt
    go_wp2_with fail
    refine hQ _ _ ⟨hz, hgb hb⟩ (Effects.nil_ fun _ hQ => ?_)
    refine wpList_store_blk (cs0 := zFMessage) (cs := zFMessage) rfl 48 _ _ rfl hr rfl rfl rfl size_faceMessage one_faceMessage ?_
    intro W3 hr3 hc3
    go_wp2_with fail
    replace hb := hb.trans (hc3.below hb.size fun b h => Nat.le_of_eq h.symm)
    have hld := run_loadVar_mid (P := Tryz.prog) _ w.heap.size 0 48 zFMessage _ hr3.range Tryz.underlying48 rfl size_faceMessage
    exact bodyPost_ret (v := .tuple #[.agg (zFMessage).toArray, .int .i64 4]) (by simp [results, Tryz.results23, asAddr, hld]) rfl ⟨hb, _, 4, rfl, len_faceMessage, one_faceMessage, .inl ⟨hbig, rfl, rfl⟩⟩
  · have hlen : bs.length ≤ 262144 := by omega
    have HR := Lib.hid (readMessage_any _ (h.below hal2) hlen (hp.1.below hal2))
    have HA := Lib.hid hal2
    have HR0 := Lib.hid hr0
    have HZ0 := Lib.hid hz0
    clear h hal1 hal2 hr0 hz0
    go_enter Tryz.func23, Tryz.ntmps23
    go_wp2_with fail
    refine HR.out.mono ?_
    rintro e w2 hro
    obtain ⟨C, err, bd, rfl, h1, hl, hb2, he, ho⟩ := hro.agg (fun _ => rfl)
    have hl : C.length = 40 := hl
    have HL := Lib.hid hl
    have HI := Lib.hid (show (Tryz.prog.info? 48).map (·.size) = some C.length from by rw [hl]; rw [size_faceMessage, len_faceMessage])
    have H1 := Lib.hid h1
    have HK := Lib.hid (HR0.out.below hb2 HR0.out.lt)
    have HZ := Lib.hid (HZ0.out.below hb2 HZ0.out.lt)
    have hz2 : w.heap.size + 2 ≤ w2.heap.size := by have := hb2.size; simpa using this
    have HB2 := Lib.hid (HA.out.trans (hb2.mono HA.out.size))
    have HO := Lib.hid (show SOut tMessage w2 (Nw (w.heap.size + 2) w2) bs C false bd from ho.nw (fun b _ hlt => ⟨hlt, rfl⟩) (by simp))
    have he := he.to (w' := w2) (S' := fun b => w.heap.size + 2 ≤ b) (fun b _ hlt => ⟨hlt, rfl⟩) fun b hb _ => by simpa using hb
    clear hro h1 hl hb2 ho HR HA HR0 HZ0
    rcases he with ⟨rfl, rfl⟩ | ⟨rfl, hch⟩
    · go_wp2_with (first
        | (refine wpList_store_blk (cs0 := zFMessage) (cs := C) rfl 48 _ _ rfl (Blk.new w2 _ _) rfl rfl (by rw [HL.out]; exact len_faceMessage) HI.out H1.out ?_; intro w3 hb3 hc3; have HB3 := Lib.hid hb3
           have HC3 := Lib.hid (show Chg (fun _ => False) w2 w3 from ((Chg.refl _ w2).alloc _).trans hc3 fun b h => .inr (Nat.le_of_eq h.symm)); clear hb3 hc3
           have HK3 := Lib.hid (HK.out.chg HC3.out id))
        | (refine wpList_load_blk' rfl 48 _ rfl HB3.out rfl Tryz.underlying48 rfl HI.out ?_)
        | (refine wpList_store_blk (cs0 := zFMessage) (cs := C) rfl 48 _ _ rfl HK3.out rfl rfl (by rw [HL.out]; exact len_faceMessage) HI.out H1.out ?_; intro w9 hb9 hc9; have HB9 := Lib.hid hb9; have HC9 := Lib.hid hc9; clear hb9 hc9))
      have hld := run_loadVar_mid (P := Tryz.prog) w9 w.heap.size 0 48 C _ HB9.out.range Tryz.underlying48 rfl HI.out
      refine bodyPost_ret (v := .tuple #[.agg C.toArray, .int .i64 0]) (by simp [results, Tryz.results23, asAddr, hld]) rfl ?_
      obtain ⟨o1, o2, o3⟩ := HO.out
      have hc29 : Chg (fun b => b = w.heap.size) w2 w9 := (HC3.out.mono (M' := fun b => b = w.heap.size) fun _ h => h.elim).trans HC9.out fun b h => .inl h
      refine ⟨HB2.out.trans (hc29.below HB2.out.size fun b h => Nat.le_of_eq h.symm), C, 0, rfl, o1, o2, .inr ⟨hlen, .inl ?_⟩⟩
      rcases o3 with ⟨x, e1, _, e3⟩ | ⟨_, e2⟩
      · exact ⟨x, e1, rfl, Sh.rep_to (fun b hb hlt => ⟨Nat.lt_of_lt_of_le hlt hc29.size, hc29.block b hlt fun e => by have := hb.1; omega⟩) (fun b hb hlt => hb.to (by omega) (hc29.block b hlt fun e => by have := hb.1; omega)) _ _ _ e3⟩
      · cases e2
    · obtain ⟨gw, rfl⟩ := hch.form
      have HCH := Lib.hid hch; clear hch
      have hno : Sh.dec tMessage bs = none := by
        obtain ⟨_, _, o3⟩ := HO.out
        rcases o3 with ⟨x, _, e2, _⟩ | ⟨e1, _⟩
        · cases e2
        · exact e1
      have HNO := Lib.hid hno; clear hno
      go_wp2_with (refine wpList_store_blk (cs0 := zFMessage) (cs := C) rfl 48 _ _ rfl (Blk.new w2 _ _) rfl rfl (by rw [HL.out]; exact len_faceMessage) HI.out H1.out ?_; intro w3 hb3 hc3; have HC3 := Lib.hid (show Chg (fun _ => False) w2 w3 from ((Chg.refl _ w2).alloc _).trans hc3 fun b h => .inr (Nat.le_of_eq h.symm)); clear hb3 hc3)
      have hr : Blk _ _ _ _ := (HK.out.chg HC3.out id).drew
      have hz : Blk _ _ _ _ := (HZ.out.chg HC3.out id).drew
      have hb := (HB2.out.trans (HC3.out.below HB2.out.size fun b h => h.elim)).drew
      have hch3 := HCH.out.to (w' := w3.drew) (S' := fun b => w.heap.size + 2 ≤ b) (fun b hb hlt => ⟨Nat.lt_of_lt_of_le hlt HC3.out.size, HC3.out.block b hlt id⟩) fun b hb _ => hb
      have hz3 : w.heap.size + 2 ≤ w3.drew.heap.size := Nat.le_trans hz2 HC3.out.size
      refine wp_region_hoist [0, 1] [2] [3, 4] (fun w' => Blk w' (w.heap.size + 1) 48 (zFMessage).toArray) (by kernel_rfl) (by kernel_rfl) (by kernel_rfl) (by kernel_rfl) (by kernel_rfl) (by kernel_rfl) hz ?_
      (refine HoistK.load (by rfl) (by kernel_rfl) 48 _ rfl (w.heap.size + 1) 0 rfl zFMessage _ (fun w' hw => hw.range) Tryz.underlying48 rfl size_faceMessage ?_; simp only [Act.put, List.setIfInBounds_toArray, List.getElem_toArray, List.getElem_cons_zero, List.set_cons_succ, List.set_cons_zero])
      (refine HoistK.yes (by rfl) (by kernel_rfl) ⟨?_, fun w' hSw => ?_, ?_⟩; rotate_left; (· go_simp; try with_reducible rfl); simp only [Act.put, List.setIfInBounds_toArray, List.getElem_toArray, List.getElem_cons_succ, List.getElem_cons_zero, List.set_cons_succ, List.set_cons_zero])
      refine HoistK.nil_ ?_
      simp only [opsAt, List.filterMap_cons, List.filterMap_nil, List.getElem?_toArray, List.getElem?_cons_succ, List.getElem?_cons_zero]
      refine Effects.world (F := fun W => Below w.heap.size w W ∧ Blk W w.heap.size 48 (zFMessage).toArray ∧ Blk W (w.heap.size + 1) 48 (zFMessage).toArray ∧ Chain W (fun b => w.heap.size + 2 ≤ b) sent (.iface 113 (.pointer (some ⟨gw, 0, none⟩)))) (fun W hF => ?_) ⟨hb, hr, hz, hch3⟩
      clear hb hr hz hch3 hz3
      obtain ⟨hb, hr, hz, hch⟩ := hF
      refine Effects.cons_ fun _ hQ => ?_
      go_wp2_with fail
      refine (told_any (r := false) _ (hp.below hb) (Wr.of_chain hch)).mono ?_
      rintro e W2 ⟨rfl, hb2⟩
      replace hb := hb.trans (hb2.mono hb.size)
      replace hr := hr.below hb2 hr.lt
      replace hz := hz.below hb2 hz.lt
      go_wp2_with fail
      refine hQ _ _ hz (Effects.nil_ fun _ hQ => ?_)
      refine wpList_store_blk (cs0 := zFMessage) (cs := zFMessage) rfl 48 _ _ rfl hr rfl rfl rfl size_faceMessage one_faceMessage ?_
      intro W3 hr3 hc3
      go_wp2_with fail
      replace hb := hb.trans (hc3.below hb.size fun b h => Nat.le_of_eq h.symm)
      have hld := run_loadVar_mid (P := Tryz.prog) _ w.heap.size 0 48 zFMessage _ hr3.range Tryz.underlying48 rfl size_faceMessage
      exact bodyPost_ret (v := .tuple #[.agg (zFMessage).toArray, .int .i64 5]) (by simp [results, Tryz.results23, asAddr, hld]) rfl ⟨hb, _, 5, rfl, len_faceMessage, one_faceMessage, .inr ⟨hlen, .inr ⟨HNO.out, rfl, rfl⟩⟩⟩

set_option maxHeartbeats 4000000 in
set_option maxRecDepth 100000 in
theorem ReadMessage_anyN (w : World) {S : Nat → Prop} {v sent : Value} {bs : List UInt8} (h : Bs w S v bs) (hp : Pk w sent) :
    Calls Tryz.prog 10 #[v] w (FaceOutN tMessage zFMessage w bs) := by
  have hal1 := (Below.refl w.heap.size w).alloc (Nat.le_refl _) (.cells (zFMessage).toArray 48)
  have HF := Lib.hid (faceMessage_any _ (h.below hal1) (hp.below hal1))
  have HR := Lib.hid (Blk.new w 48 (zFMessage).toArray)
  have HA := Lib.hid hal1
  obtain ⟨A, cap, rfl⟩ := h.form
  clear h hp hal1
  go_enter Tryz.func10, Tryz.ntmps10
  go_wp2_with fail
  refine HF.out.mono ?_
  rintro e w1 ⟨hb, C, n, rfl, hl, h1, hn⟩
  have hl : C.length = 40 := hl
  have HL := Lib.hid hl
  have HI := Lib.hid (show (Tryz.prog.info? 48).map (·.size) = some C.length from by rw [hl]; rw [size_faceMessage, len_faceMessage])
  have H1 := Lib.hid h1
  have hlz : (zFMessage).length = C.length := by rw [hl, len_faceMessage]
  have HLZ := Lib.hid hlz
  have HK := Lib.hid (HR.out.below hb (by simp))
  have HB := Lib.hid hb
  have HN := Lib.hid hn
  have hz1 : w.heap.size + 1 ≤ w1.heap.size := by have := hb.size; simpa using this
  clear hl h1 hlz hb hn HF HR
  go_wp2_with (refine wpList_store_blk (cs0 := zFMessage) (cs := C) rfl 48 _ _ rfl HK.out rfl rfl HLZ.out HI.out H1.out ?_; intro w9 hb9 hc9; have HB9 := Lib.hid hb9; have HC9 := Lib.hid hc9; clear hb9 hc9)
  have hld := run_loadVar_mid (P := Tryz.prog) w9 w.heap.size 0 48 C _ HB9.out.range Tryz.underlying48 rfl HI.out
  refine bodyPost_ret (v := .tuple #[.agg C.toArray, .int .i64 n]) (by simp [results, Tryz.results10, asAddr, hld]) rfl ?_
  have hbw := HA.out.trans (HB.out.mono HA.out.size)
  refine ⟨hbw.trans (HC9.out.below hbw.size fun b h => Nat.le_of_eq h.symm), C, n, rfl, HL.out, H1.out, HN.out.imp id fun ⟨q1, q2⟩ => ⟨q1, q2.imp (fun ⟨x, e1, e2, e3⟩ => ⟨x, e1, e2, ?_⟩) id⟩⟩
  exact Sh.rep_to (fun b hb hlt => ⟨Nat.lt_of_lt_of_le hlt HC9.out.size, HC9.out.block b hlt fun e => by have hb := hb.1; simp at hb; omega⟩) (fun b hb hlt => hb.to (by simp) (HC9.out.block b hlt fun e => by have hb := hb.1; simp at hb; omega)) _ _ _ e3
theorem ReadMessage_any (w : World) {S : Nat → Prop} {v sent : Value} {bs : List UInt8} (h : Bs w S v bs) (hp : Pk w sent) :
    Calls Tryz.prog 10 #[v] w (FaceOut tMessage w bs) :=
  (ReadMessage_anyN w h hp).mono fun _ _ h => h.weak

end Go.Proofs.YtjjgmkfkmckkoabGreatDoor

/- Codec: face[Fact], ReadFact. -/
namespace Go.Proofs.YtjjgmkfkmckkoabGreatDoor
open Go.RowKit Go.Maps
attribute [-simp] Tryz.isAgg24 Tryz.typeInfo24 Tryz.isAgg58 Tryz.typeInfo58

def zFFact : List Value := ([.slice none 0 0] ++ ([.int .i64 0, .int .i64 0, .int .i64 0] ++ List.replicate 32 (.int .u8 0) ++ [.slice none 0 0, .slice none 0 0]) ++ List.replicate 32 (.int .u8 0) ++ [.slice none 0 0, .bool false, .slice none 0 0] : List Value)
set_option maxRecDepth 100000 in
theorem one_faceFact : ∀ v ∈ zFFact, v.oneCell' = true := by decide
set_option maxRecDepth 100000 in
theorem len_faceFact : zFFact.length = 73 := by decide
theorem size_faceFact : (Tryz.prog.info? 58).map (·.size) = some zFFact.length := by kernel_rfl
set_option maxHeartbeats 8000000 in
set_option maxRecDepth 100000 in
theorem faceFact_any (w : World) {S : Nat → Prop} {v sent : Value} {bs : List UInt8} (h : Bs w S v bs) (hp : Pk w sent) :
    Calls Tryz.prog 25 #[v, .func (Fn.func 26) #[] #[]] w (FaceOutN tFact zFFact w bs) := by
  obtain ⟨A, cap, rfl⟩ := h.form
  have hal1 := (Below.refl w.heap.size w).alloc (Nat.le_refl _) (.cells (zFFact).toArray 58)
  have hal2 := hal1.alloc (by simp) (.cells (zFFact).toArray 58)
  have hr0 := (Blk.new w 58 (zFFact).toArray).alloc (.cells (zFFact).toArray 58)
  have hz0 := Blk.new (w.alloc (.cells (zFFact).toArray 58)) 58 (zFFact).toArray
  rw [show (w.alloc (.cells (zFFact).toArray 58)).heap.size = w.heap.size + 1 by simp] at hz0
  by_cases hbig : 262144 < bs.length
  · obtain ⟨sb, hsb⟩ : ∃ sb, w.cell? ⟨0, 0, none⟩ = some (.iface 205 (.pointer (some sb))) := by
      obtain ⟨_, _, b, _, _, _, _, _, _, _, _, h, _⟩ := hp
      exact ⟨b, h⟩
    have hgb : ∀ {W : World}, Below w.heap.size w W → W.cell? ⟨0, 0, none⟩ = some (.iface 205 (.pointer (some sb))) := fun hb => cell_low hsb hb
    clear h
    go_enter Tryz.func25, Tryz.ntmps25
    go_wp2_with fail
    have hb := hal2.drew
    have hr : Blk _ _ _ _ := hr0.drew
    have hz : Blk _ _ _ _ := hz0.drew
    clear hal1 hal2 hz0 hsb
    refine wp_region_hoist [0, 1, 2] [3, 4, 5] [6, 7] (fun w' => Blk w' (w.heap.size + 1) 58 (zFFact).toArray ∧ w'.cell? ⟨0, 0, none⟩ = some (.iface 205 (.pointer (some sb)))) (by kernel_rfl) (by kernel_rfl) (by kernel_rfl) (by kernel_rfl) (by kernel_rfl) (by kernel_rfl) ⟨hz, hgb hb⟩ ?_
    (refine HoistK.load (by rfl) (by kernel_rfl) 58 _ rfl (w.heap.size + 1) 0 rfl zFFact _ (fun w' hw => hw.1.range) Tryz.underlying58 rfl size_faceFact ?_; simp only [Act.put, List.setIfInBounds_toArray, List.getElem_toArray, List.getElem_cons_zero, List.set_cons_succ, List.set_cons_zero])
    (refine HoistK.yes (by rfl) (by kernel_rfl) ⟨?_, fun w' hSw => ?_, ?_⟩; rotate_left; (· have hcc := hSw.2; go_simp; try with_reducible rfl); simp only [Act.put, List.setIfInBounds_toArray, List.getElem_toArray, List.getElem_cons_succ, List.getElem_cons_zero, List.set_cons_succ, List.set_cons_zero])
    (refine HoistK.yes (by rfl) (by kernel_rfl) ⟨?_, fun w' hSw => ?_, ?_⟩; rotate_left; (· go_simp; try with_reducible rfl); simp only [Act.put, List.setIfInBounds_toArray, List.getElem_toArray, List.getElem_cons_succ, List.getElem_cons_zero, List.set_cons_succ, List.set_cons_zero])
    refine HoistK.nil_ ?_
    simp only [opsAt, List.filterMap_cons, List.filterMap_nil, List.getElem?_toArray, List.getElem?_cons_succ, List.getElem?_cons_zero]
    refine Effects.world (F := fun W => Below w.heap.size w W ∧ Blk W w.heap.size 58 (zFFact).toArray ∧ Blk W (w.heap.size + 1) 58 (zFFact).toArray) (fun W hF => ?_) ⟨hb, hr, hz⟩
    clear hb hr hz hr0
    obtain ⟨hb, hr, hz⟩ := hF
    refine Effects.cons_ fun _ hQ => ?_
    have hzl := hz.lt
    go_wp2_with fail
    have hk := Blk.new W 117 #[.string ⟨#[97, 108, 108]⟩, .iface 205 (.pointer (some sb))]
    replace hb := hb.alloc hb.size (.cells #[.string ⟨#[97, 108, 108]⟩, .iface 205 (.pointer (some sb))] 117)
    replace hr := hr.alloc (.cells #[.string ⟨#[97, 108, 108]⟩, .iface 205 (.pointer (some sb))] 117)
    replace hz := hz.alloc (.cells #[.string ⟨#[97, 108, 108]⟩, .iface 205 (.pointer (some sb))] 117)
    obtain ⟨gg, hgg⟩ : ∃ gg, gg = W.heap.size := ⟨_, rfl⟩
    have hgn : gg ≠ w.heap.size := by omega
    rw [← hgg] at hk ⊢
    have HGG := Lib.hid hgg; clear hgg
    generalize W.alloc (.cells #[.string ⟨#[97, 108, 108]⟩, .iface 205 (.pointer (some sb))] 117) = W1 at *
    refine hQ _ _ ⟨hz, hgb hb⟩ (Effects.cons_ fun _ hQ => ?_)
    go_wp2_with fail
    refine hQ _ _ ⟨hz, hgb hb⟩ (Effects.cons_ fun _ hQ => ?_)
    go_wp2_with fail
    refine (told_any (r := true) _ (hp.below hb) ⟨gg, 1, _, rfl, .more hk .last, hgb hb⟩).mono ?_
    rintro e W2 ⟨rfl, hb2⟩
    replace hb := hb.trans (hb2.mono hb.size)
    replace hr := hr.below hb2 hr.lt
    replace hz := hz.below hb2 hz.lt
    replace hk := hk.below hb2 hk.lt
    go_wp2_with fail
    refine hQ _ _ ⟨hz, hgb hb⟩ (Effects.nil_ fun _ hQ => ?_)
    refine wpList_store_blk (cs0 := zFFact) (cs := zFFact) rfl 58 _ _ rfl hr rfl rfl rfl size_faceFact one_faceFact ?_
    intro W3 hr3 hc3
    go_wp2_with fail
    replace hb := hb.trans (hc3.below hb.size fun b h => Nat.le_of_eq h.symm)
    have hld := run_loadVar_mid (P := Tryz.prog) _ w.heap.size 0 58 zFFact _ hr3.range Tryz.underlying58 rfl size_faceFact
    exact bodyPost_ret (v := .tuple #[.agg (zFFact).toArray, .int .i64 4]) (by simp [results, Tryz.results25, asAddr, hld]) rfl ⟨hb, _, 4, rfl, len_faceFact, one_faceFact, .inl ⟨hbig, rfl, rfl⟩⟩
  · have hlen : bs.length ≤ 262144 := by omega
    have HR := Lib.hid (readFact_any _ (h.below hal2) hlen (hp.1.below hal2))
    have HA := Lib.hid hal2
    have HR0 := Lib.hid hr0
    have HZ0 := Lib.hid hz0
    clear h hal1 hal2 hr0 hz0
    go_enter Tryz.func25, Tryz.ntmps25
    go_wp2_with fail
    refine HR.out.mono ?_
    rintro e w2 hro
    obtain ⟨C, err, bd, rfl, h1, hl, hb2, he, ho⟩ := hro.agg (fun _ => rfl)
    have hl : C.length = 73 := hl
    have HL := Lib.hid hl
    have HI := Lib.hid (show (Tryz.prog.info? 58).map (·.size) = some C.length from by rw [hl]; rw [size_faceFact, len_faceFact])
    have H1 := Lib.hid h1
    have HK := Lib.hid (HR0.out.below hb2 HR0.out.lt)
    have HZ := Lib.hid (HZ0.out.below hb2 HZ0.out.lt)
    have hz2 : w.heap.size + 2 ≤ w2.heap.size := by have := hb2.size; simpa using this
    have HB2 := Lib.hid (HA.out.trans (hb2.mono HA.out.size))
    have HO := Lib.hid (show SOut tFact w2 (Nw (w.heap.size + 2) w2) bs C false bd from ho.nw (fun b _ hlt => ⟨hlt, rfl⟩) (by simp))
    have he := he.to (w' := w2) (S' := fun b => w.heap.size + 2 ≤ b) (fun b _ hlt => ⟨hlt, rfl⟩) fun b hb _ => by simpa using hb
    clear hro h1 hl hb2 ho HR HA HR0 HZ0
    rcases he with ⟨rfl, rfl⟩ | ⟨rfl, hch⟩
    · go_wp2_with (first
        | (refine wpList_store_blk (cs0 := zFFact) (cs := C) rfl 58 _ _ rfl (Blk.new w2 _ _) rfl rfl (by rw [HL.out]; exact len_faceFact) HI.out H1.out ?_; intro w3 hb3 hc3; have HB3 := Lib.hid hb3
           have HC3 := Lib.hid (show Chg (fun _ => False) w2 w3 from ((Chg.refl _ w2).alloc _).trans hc3 fun b h => .inr (Nat.le_of_eq h.symm)); clear hb3 hc3
           have HK3 := Lib.hid (HK.out.chg HC3.out id))
        | (refine wpList_load_blk' rfl 58 _ rfl HB3.out rfl Tryz.underlying58 rfl HI.out ?_)
        | (refine wpList_store_blk (cs0 := zFFact) (cs := C) rfl 58 _ _ rfl HK3.out rfl rfl (by rw [HL.out]; exact len_faceFact) HI.out H1.out ?_; intro w9 hb9 hc9; have HB9 := Lib.hid hb9; have HC9 := Lib.hid hc9; clear hb9 hc9))
      have hld := run_loadVar_mid (P := Tryz.prog) w9 w.heap.size 0 58 C _ HB9.out.range Tryz.underlying58 rfl HI.out
      refine bodyPost_ret (v := .tuple #[.agg C.toArray, .int .i64 0]) (by simp [results, Tryz.results25, asAddr, hld]) rfl ?_
      obtain ⟨o1, o2, o3⟩ := HO.out
      have hc29 : Chg (fun b => b = w.heap.size) w2 w9 := (HC3.out.mono (M' := fun b => b = w.heap.size) fun _ h => h.elim).trans HC9.out fun b h => .inl h
      refine ⟨HB2.out.trans (hc29.below HB2.out.size fun b h => Nat.le_of_eq h.symm), C, 0, rfl, o1, o2, .inr ⟨hlen, .inl ?_⟩⟩
      rcases o3 with ⟨x, e1, _, e3⟩ | ⟨_, e2⟩
      · exact ⟨x, e1, rfl, Sh.rep_to (fun b hb hlt => ⟨Nat.lt_of_lt_of_le hlt hc29.size, hc29.block b hlt fun e => by have := hb.1; omega⟩) (fun b hb hlt => hb.to (by omega) (hc29.block b hlt fun e => by have := hb.1; omega)) _ _ _ e3⟩
      · cases e2
    · obtain ⟨gw, rfl⟩ := hch.form
      have HCH := Lib.hid hch; clear hch
      have hno : Sh.dec tFact bs = none := by
        obtain ⟨_, _, o3⟩ := HO.out
        rcases o3 with ⟨x, _, e2, _⟩ | ⟨e1, _⟩
        · cases e2
        · exact e1
      have HNO := Lib.hid hno; clear hno
      go_wp2_with (refine wpList_store_blk (cs0 := zFFact) (cs := C) rfl 58 _ _ rfl (Blk.new w2 _ _) rfl rfl (by rw [HL.out]; exact len_faceFact) HI.out H1.out ?_; intro w3 hb3 hc3; have HC3 := Lib.hid (show Chg (fun _ => False) w2 w3 from ((Chg.refl _ w2).alloc _).trans hc3 fun b h => .inr (Nat.le_of_eq h.symm)); clear hb3 hc3)
      have hr : Blk _ _ _ _ := (HK.out.chg HC3.out id).drew
      have hz : Blk _ _ _ _ := (HZ.out.chg HC3.out id).drew
      have hb := (HB2.out.trans (HC3.out.below HB2.out.size fun b h => h.elim)).drew
      have hch3 := HCH.out.to (w' := w3.drew) (S' := fun b => w.heap.size + 2 ≤ b) (fun b hb hlt => ⟨Nat.lt_of_lt_of_le hlt HC3.out.size, HC3.out.block b hlt id⟩) fun b hb _ => hb
      have hz3 : w.heap.size + 2 ≤ w3.drew.heap.size := Nat.le_trans hz2 HC3.out.size
      refine wp_region_hoist [0, 1] [2] [3, 4] (fun w' => Blk w' (w.heap.size + 1) 58 (zFFact).toArray) (by kernel_rfl) (by kernel_rfl) (by kernel_rfl) (by kernel_rfl) (by kernel_rfl) (by kernel_rfl) hz ?_
      (refine HoistK.load (by rfl) (by kernel_rfl) 58 _ rfl (w.heap.size + 1) 0 rfl zFFact _ (fun w' hw => hw.range) Tryz.underlying58 rfl size_faceFact ?_; simp only [Act.put, List.setIfInBounds_toArray, List.getElem_toArray, List.getElem_cons_zero, List.set_cons_succ, List.set_cons_zero])
      (refine HoistK.yes (by rfl) (by kernel_rfl) ⟨?_, fun w' hSw => ?_, ?_⟩; rotate_left; (· go_simp; try with_reducible rfl); simp only [Act.put, List.setIfInBounds_toArray, List.getElem_toArray, List.getElem_cons_succ, List.getElem_cons_zero, List.set_cons_succ, List.set_cons_zero])
      refine HoistK.nil_ ?_
      simp only [opsAt, List.filterMap_cons, List.filterMap_nil, List.getElem?_toArray, List.getElem?_cons_succ, List.getElem?_cons_zero]
      refine Effects.world (F := fun W => Below w.heap.size w W ∧ Blk W w.heap.size 58 (zFFact).toArray ∧ Blk W (w.heap.size + 1) 58 (zFFact).toArray ∧ Chain W (fun b => w.heap.size + 2 ≤ b) sent (.iface 113 (.pointer (some ⟨gw, 0, none⟩)))) (fun W hF => ?_) ⟨hb, hr, hz, hch3⟩
      clear hb hr hz hch3 hz3
      obtain ⟨hb, hr, hz, hch⟩ := hF
      refine Effects.cons_ fun _ hQ => ?_
      go_wp2_with fail
      refine (told_any (r := false) _ (hp.below hb) (Wr.of_chain hch)).mono ?_
      rintro e W2 ⟨rfl, hb2⟩
      replace hb := hb.trans (hb2.mono hb.size)
      replace hr := hr.below hb2 hr.lt
      replace hz := hz.below hb2 hz.lt
      go_wp2_with fail
      refine hQ _ _ hz (Effects.nil_ fun _ hQ => ?_)
      refine wpList_store_blk (cs0 := zFFact) (cs := zFFact) rfl 58 _ _ rfl hr rfl rfl rfl size_faceFact one_faceFact ?_
      intro W3 hr3 hc3
      go_wp2_with fail
      replace hb := hb.trans (hc3.below hb.size fun b h => Nat.le_of_eq h.symm)
      have hld := run_loadVar_mid (P := Tryz.prog) _ w.heap.size 0 58 zFFact _ hr3.range Tryz.underlying58 rfl size_faceFact
      exact bodyPost_ret (v := .tuple #[.agg (zFFact).toArray, .int .i64 5]) (by simp [results, Tryz.results25, asAddr, hld]) rfl ⟨hb, _, 5, rfl, len_faceFact, one_faceFact, .inr ⟨hlen, .inr ⟨HNO.out, rfl, rfl⟩⟩⟩

set_option maxHeartbeats 4000000 in
set_option maxRecDepth 100000 in
theorem ReadFact_anyN (w : World) {S : Nat → Prop} {v sent : Value} {bs : List UInt8} (h : Bs w S v bs) (hp : Pk w sent) :
    Calls Tryz.prog 11 #[v] w (FaceOutN tFact zFFact w bs) := by
  have hal1 := (Below.refl w.heap.size w).alloc (Nat.le_refl _) (.cells (zFFact).toArray 58)
  have HF := Lib.hid (faceFact_any _ (h.below hal1) (hp.below hal1))
  have HR := Lib.hid (Blk.new w 58 (zFFact).toArray)
  have HA := Lib.hid hal1
  obtain ⟨A, cap, rfl⟩ := h.form
  clear h hp hal1
  go_enter Tryz.func11, Tryz.ntmps11
  go_wp2_with fail
  refine HF.out.mono ?_
  rintro e w1 ⟨hb, C, n, rfl, hl, h1, hn⟩
  have hl : C.length = 73 := hl
  have HL := Lib.hid hl
  have HI := Lib.hid (show (Tryz.prog.info? 58).map (·.size) = some C.length from by rw [hl]; rw [size_faceFact, len_faceFact])
  have H1 := Lib.hid h1
  have hlz : (zFFact).length = C.length := by rw [hl, len_faceFact]
  have HLZ := Lib.hid hlz
  have HK := Lib.hid (HR.out.below hb (by simp))
  have HB := Lib.hid hb
  have HN := Lib.hid hn
  have hz1 : w.heap.size + 1 ≤ w1.heap.size := by have := hb.size; simpa using this
  clear hl h1 hlz hb hn HF HR
  go_wp2_with (refine wpList_store_blk (cs0 := zFFact) (cs := C) rfl 58 _ _ rfl HK.out rfl rfl HLZ.out HI.out H1.out ?_; intro w9 hb9 hc9; have HB9 := Lib.hid hb9; have HC9 := Lib.hid hc9; clear hb9 hc9)
  have hld := run_loadVar_mid (P := Tryz.prog) w9 w.heap.size 0 58 C _ HB9.out.range Tryz.underlying58 rfl HI.out
  refine bodyPost_ret (v := .tuple #[.agg C.toArray, .int .i64 n]) (by simp [results, Tryz.results11, asAddr, hld]) rfl ?_
  have hbw := HA.out.trans (HB.out.mono HA.out.size)
  refine ⟨hbw.trans (HC9.out.below hbw.size fun b h => Nat.le_of_eq h.symm), C, n, rfl, HL.out, H1.out, HN.out.imp id fun ⟨q1, q2⟩ => ⟨q1, q2.imp (fun ⟨x, e1, e2, e3⟩ => ⟨x, e1, e2, ?_⟩) id⟩⟩
  exact Sh.rep_to (fun b hb hlt => ⟨Nat.lt_of_lt_of_le hlt HC9.out.size, HC9.out.block b hlt fun e => by have hb := hb.1; simp at hb; omega⟩) (fun b hb hlt => hb.to (by simp) (HC9.out.block b hlt fun e => by have hb := hb.1; simp at hb; omega)) _ _ _ e3
theorem ReadFact_any (w : World) {S : Nat → Prop} {v sent : Value} {bs : List UInt8} (h : Bs w S v bs) (hp : Pk w sent) :
    Calls Tryz.prog 11 #[v] w (FaceOut tFact w bs) :=
  (ReadFact_anyN w h hp).mono fun _ _ h => h.weak

end Go.Proofs.YtjjgmkfkmckkoabGreatDoor

/- A region that draws its order, in three parts: H is taken first (its values hang on S), then E one behind the other, then H2, whose values hang on no world: a call between what it is handed and the shares of its answer. -/
namespace Go.Proofs.YtjjgmkfkmckkoabGreatDoor
open Go.RowKit

section
variable {P : Program} {ops : Array Oper} {Q : Exit → Act → World → Prop} {S S' : World → Prop} {late late' : List Nat}

theorem AnyS.weaken : ∀ (n : Nat) (listed : Array Bool) (a : Act) (w : World), (∀ i, listed.getD i true = false → late.contains i = true) → AnyS P ops Q S' late' n listed a w → AnyS P ops Q S late n listed a w
  | 0, _, _, _, _, h => h
  | n + 1, listed, a, w, hl, h => ⟨h.1, fun i hi => wpOp_mono (fun a' w' h' => ⟨fun hn => (by rw [hl i (mem_ready.1 hi).1] at hn; cases hn), AnyS.weaken n _ a' w' (fun k hk => by
      by_cases e : i = k
      · subst e
        exact hl i (mem_ready.1 hi).1
      · rw [getD_set_ne true e] at hk
        exact hl k hk) h'.2⟩) (h.2 i hi)⟩

/-- One behind the other, and behind them K. -/
def EffK (P : Program) (ops : Array Oper) (Q : Exit → Act → World → Prop) : List Oper → Act → World → (Act → World → Prop) → Prop
  | [], a, w, K => K a w
  | o :: r, a, w, K => wpList P ops (Exit.then (fun a' w' => EffK P ops Q r a' w' K) Q) [o] a w
theorem EffK.nil_ {a : Act} {w : World} {K : Act → World → Prop} (h : K a w) : EffK P ops Q [] a w K := h
theorem EffK.cons_ {o : Oper} {r : List Oper} {a : Act} {w : World} {K : Act → World → Prop} (h : ∀ Q' : Exit → Act → World → Prop, (∀ a w, EffK P ops Q r a w K → Q' .normal a w) → wpList P ops Q' [o] a w) : EffK P ops Q (o :: r) a w K :=
  h _ fun _ _ he => he

/-- Is each of them the only one that may come up in its turn? -/
def chainPre (ops : Array Oper) : List Nat → Array Bool → Bool
  | [], _ => true
  | i :: r, listed => (Region.ready .any ops listed == [i]) && chainPre ops r (listed.setIfInBounds i true)

theorem Closed.chain : ∀ (E : List Nat) (listed : Array Bool), Closed ops listed → chainPre ops E listed = true → Closed ops (listedBy E listed)
  | [], _, h, _ => h
  | i :: r, listed, h, hc => by
    simp only [chainPre, Bool.and_eq_true, beq_iff_eq] at hc
    exact Closed.chain r _ (h.more (by rw [hc.1]; simp)) hc.2
theorem Closed.hoist {late : List Nat} : ∀ (H : List Nat) (listed : Array Bool), Closed ops listed → hoistOk ops late H listed = true → Closed ops (listedBy H listed)
  | [], _, h, _ => h
  | i :: r, listed, h, hc => by
    simp only [hoistOk, Bool.and_eq_true] at hc
    exact Closed.hoist r _ (h.more (by simpa using hc.1.1.2)) hc.2

theorem AnyS.chainK {n : Nat} {K : Act → World → Prop} : ∀ (E : List Nat) (listed : Array Bool) (a : Act) (w : World), E.all (fun i => late.contains i) = true → chainPre ops E listed = true → E.all (fun i => (ops[i]?).isSome) = true →
    (∀ a' w', K a' w' → AnyS P ops (NoPanic Q) S late n (listedBy E listed) a' w') → EffK P ops (NoPanic Q) (opsAt ops E) a w K → AnyS P ops (NoPanic Q) S late (E.length + n) listed a w
  | [], listed, a, w, _, _, _, hK, h => by simpa [opsAt, EffK, listedBy] using hK a w h
  | i :: r, listed, a, w, hl, hc, hs, hK, h => by
    simp only [List.all_cons, Bool.and_eq_true] at hl hs
    simp only [chainPre, Bool.and_eq_true, beq_iff_eq] at hc
    obtain ⟨o, ho⟩ := Option.isSome_iff_exists.1 hs.1
    rw [show (i :: r).length + n = r.length + n + 1 from by simp; omega]
    refine ⟨fun h0 => (by rw [hc.1] at h0; cases h0), fun j hj => ?_⟩
    rw [hc.1] at hj
    obtain rfl : j = i := by simpa using hj
    have hops : opsAt ops (j :: r) = o :: opsAt ops r := by simp [opsAt, ho]
    rw [hops] at h
    exact wpOp_mono (fun a' w' h' => ⟨fun hn => (by rw [hl.1] at hn; cases hn), AnyS.chainK r _ _ _ hl.2 hc.2 hs.2 hK h'⟩) (wpList_one ho h (fun h => h) (fun _ _ _ h => h))

theorem listedBy_less : ∀ (E : List Nat) (listed : Array Bool) (i : Nat), (listedBy E listed).getD i true = false → listed.getD i true = false
  | [], _, _, h => h
  | k :: r, listed, i, h => by
    have := listedBy_less r (listed.setIfInBounds k true) i h
    by_cases e : k = i
    · subst e
      simp only [Array.getD_eq_getD_getElem?, Array.getElem?_setIfInBounds] at this
      split at this
      · split at this <;> simp at this
      · rename_i hne; exact absurd trivial hne
    · rwa [getD_set_ne true e] at this
theorem listedBy_size : ∀ (E : List Nat) (listed : Array Bool), (listedBy E listed).size = listed.size
  | [], _ => rfl
  | k :: r, listed => by have := listedBy_size r (listed.setIfInBounds k true); simpa [listedBy] using this

/-- A region that draws its order: H first, then E, then H2. -/
theorem wp_region_two {id : Nat} {a : Act} {w : World} (H E H2 : List Nat) (S : World → Prop) (hm : P.follows .mixedOrders = true)
    (hsel : Region.noSelect ops = true) (hall : H.length + (E.length + (H2.length + 0)) = ops.size) (hok : hoistOk ops (E ++ H2) H (Array.replicate ops.size false) = true)
    (hch : chainPre ops E (listedBy H (Array.replicate ops.size false)) = true) (hsome : E.all (fun i => (ops[i]?).isSome) = true)
    (hok2 : hoistOk ops [] H2 (listedBy E (listedBy H (Array.replicate ops.size false))) = true)
    (hrest : (List.range ops.size).all (fun i => (listedBy H (Array.replicate ops.size false)).getD i true || (E ++ H2).contains i) = true)
    (hend : (Region.ready .any ops (listedBy H2 (listedBy E (listedBy H (Array.replicate ops.size false))))).isEmpty = true)
    (hS : S w.drew) (hH : HoistK P ops S H a fun a' => EffK P ops (NoPanic Q) (opsAt ops E) a' w.drew fun a2 w2 => HoistK P ops (fun _ => True) H2 a2 fun a3 =>
      ∀ Q' : Exit → Act → World → Prop, (∀ a w, Q .normal a w → Q' .normal a w) → wpList P ops Q' [] a3 w2) : (Code.region id ops true).wp P Q a w := by
  obtain ⟨a', hH, h⟩ := HoistK.out _ _ _ hH
  have hcl1 := Closed.hoist (late := E ++ H2) H _ (Closed.start ops.size) hok
  have hcl2 := Closed.chain E _ hcl1 hch
  have hrest' : ∀ i, (listedBy H (Array.replicate ops.size false)).getD i true = false → (E ++ H2).contains i = true := fun i hi => by
    have hlt : i < ops.size := by
      rcases Nat.lt_or_ge i ops.size with h | h
      · exact h
      · have := listedBy_size H (Array.replicate ops.size false)
        rw [Array.getD_eq_getD_getElem?, Array.getElem?_eq_none (by rw [this]; simpa using h)] at hi
        cases hi
    have := List.all_eq_true.1 hrest i (List.mem_range.2 hlt)
    rw [hi] at this
    simpa using this
  have hmid : AnyS P ops (NoPanic Q) S (E ++ H2) (E.length + (H2.length + 0)) (listedBy H (Array.replicate ops.size false)) a' w.drew := by
    refine AnyS.chainK E _ _ _ (List.all_eq_true.2 fun i hi => by simp [hi]) hch hsome (fun a2 w2 h2 => ?_) h
    obtain ⟨a3, hH2, h3⟩ := HoistK.out _ _ _ h2
    have hq : NoPanic Q .normal a3 w2 := h3 (NoPanic Q) (fun _ _ h => h)
    have := AnyS.hoist (Q := Q) (late := []) hsel (S := fun _ => True) trivial H2 0 _ a2 hcl2 hok2 hH2 ⟨by simpa using hend, hq⟩
    exact AnyS.weaken _ _ _ _ (fun i hi => hrest' i (listedBy_less E _ i hi)) this
  have hfin := AnyS.hoist (Q := Q) (late := E ++ H2) hsel hS H _ _ a (Closed.start _) hok hH hmid
  rw [hall] at hfin
  exact wp_region_noPanic (wp_region_any hm (AnyS.any (S := S) (late := E ++ H2) _ _ _ _ hfin))
end

end Go.Proofs.YtjjgmkfkmckkoabGreatDoor

/- A region that draws its order and only reads or makes memory: segments, in each operations that are taken first (their values hang on S), then effects, one behind the other, that leave S. -/
namespace Go.Proofs.YtjjgmkfkmckkoabGreatDoor
open Go.RowKit

section
variable {P : Program} {ops : Array Oper} {Q : Exit → Act → World → Prop} {S : World → Prop}

/-- One behind the other, S behind each, and behind them K. -/
def EffS (P : Program) (ops : Array Oper) (Q : Exit → Act → World → Prop) (S : World → Prop) : List Oper → Act → World → (Act → World → Prop) → Prop
  | [], a, w, K => K a w
  | o :: r, a, w, K => wpList P ops (Exit.then (fun a' w' => S w' ∧ EffS P ops Q S r a' w' K) Q) [o] a w
theorem EffS.nil_ {a : Act} {w : World} {K : Act → World → Prop} (h : K a w) : EffS P ops Q S [] a w K := h
theorem EffS.cons_ {o : Oper} {r : List Oper} {a : Act} {w : World} {K : Act → World → Prop} (h : ∀ Q' : Exit → Act → World → Prop, (∀ a w, S w → EffS P ops Q S r a w K → Q' .normal a w) → wpList P ops Q' [o] a w) : EffS P ops Q S (o :: r) a w K :=
  h _ fun _ _ hs he => ⟨hs, he⟩

theorem AnyS.chainS {n : Nat} {K : Act → World → Prop} : ∀ (E : List Nat) (listed : Array Bool) (a : Act) (w : World), chainPre ops E listed = true → E.all (fun i => (ops[i]?).isSome) = true → S w →
    (∀ a' w', S w' → K a' w' → AnyS P ops (NoPanic Q) S [] n (listedBy E listed) a' w') → EffS P ops (NoPanic Q) S (opsAt ops E) a w K → AnyS P ops (NoPanic Q) S [] (E.length + n) listed a w
  | [], listed, a, w, _, _, hS, hK, h => by simpa [opsAt, EffS, listedBy] using hK a w hS h
  | i :: r, listed, a, w, hc, hs, hS, hK, h => by
    simp only [List.all_cons, Bool.and_eq_true] at hs
    simp only [chainPre, Bool.and_eq_true, beq_iff_eq] at hc
    obtain ⟨o, ho⟩ := Option.isSome_iff_exists.1 hs.1
    rw [show (i :: r).length + n = r.length + n + 1 from by simp; omega]
    refine ⟨fun h0 => (by rw [hc.1] at h0; cases h0), fun j hj => ?_⟩
    rw [hc.1] at hj
    obtain rfl : j = i := by simpa using hj
    have hops : opsAt ops (j :: r) = o :: opsAt ops r := by simp [opsAt, ho]
    rw [hops] at h
    exact wpOp_mono (fun a' w' h' => ⟨fun _ => h'.1, AnyS.chainS r _ _ _ hc.2 hs.2 h'.1 hK h'.2⟩) (wpList_one ho h (fun h => h) (fun _ _ _ h => h))

/-- Segment for segment. -/
def SegK (P : Program) (ops : Array Oper) (Q : Exit → Act → World → Prop) (S : World → Prop) : List (List Nat × List Nat) → Act → World → Prop
  | [], a, w => ∀ Q' : Exit → Act → World → Prop, (∀ a w, Q .normal a w → Q' .normal a w) → wpList P ops Q' [] a w
  | (H, E) :: r, a, w => HoistK P ops S H a fun a' => EffS P ops (NoPanic Q) S (opsAt ops E) a' w (SegK P ops Q S r)
def segsOk (ops : Array Oper) : List (List Nat × List Nat) → Array Bool → Bool
  | [], listed => (Region.ready .any ops listed).isEmpty
  | (H, E) :: r, listed => hoistOk ops [] H listed && chainPre ops E (listedBy H listed) && E.all (fun i => (ops[i]?).isSome) && segsOk ops r (listedBy E (listedBy H listed))
def segsLen : List (List Nat × List Nat) → Nat
  | [] => 0
  | (H, E) :: r => H.length + (E.length + segsLen r)

theorem AnyS.segs (hsel : Region.noSelect ops = true) : ∀ (segs : List (List Nat × List Nat)) (listed : Array Bool) (a : Act) (w : World), Closed ops listed → segsOk ops segs listed = true → S w → SegK P ops Q S segs a w → AnyS P ops (NoPanic Q) S [] (segsLen segs) listed a w
  | [], listed, a, w, _, hok, _, h => ⟨by simpa [segsOk] using hok, (h (NoPanic Q) (fun _ _ h => h) : NoPanic Q .normal a w)⟩
  | (H, E) :: r, listed, a, w, hcl, hok, hS, h => by
    simp only [segsOk, Bool.and_eq_true] at hok
    obtain ⟨⟨⟨h1, h2⟩, h3⟩, h4⟩ := hok
    obtain ⟨a', hH, h⟩ := HoistK.out _ _ _ h
    have hcl1 := Closed.hoist (late := []) H _ hcl h1
    have hcl2 := Closed.chain E _ hcl1 h2
    exact AnyS.hoist hsel hS H _ _ a hcl h1 hH (AnyS.chainS E _ _ _ h2 h3 hS (fun a2 w2 hs2 hk => AnyS.segs hsel r _ a2 w2 hcl2 h4 hs2 hk) h)

/-- The region. -/
theorem wp_region_segs {id : Nat} {a : Act} {w : World} (segs : List (List Nat × List Nat)) (S : World → Prop) (hm : P.follows .mixedOrders = true) (hsel : Region.noSelect ops = true)
    (hall : segsLen segs = ops.size) (hok : segsOk ops segs (Array.replicate ops.size false) = true) (hS : S w.drew) (h : SegK P ops Q S segs a w.drew) : (Code.region id ops true).wp P Q a w := by
  have hfin := AnyS.segs (Q := Q) hsel segs _ a _ (Closed.start ops.size) hok hS h
  rw [hall] at hfin
  exact wp_region_noPanic (wp_region_any hm (AnyS.any (S := S) (late := []) _ _ _ _ hfin))
end

end Go.Proofs.YtjjgmkfkmckkoabGreatDoor

/- A region that draws its order: segments, as Hoist3's, but what holds may grow from segment to segment. -/
namespace Go.Proofs.YtjjgmkfkmckkoabGreatDoor
open Go.RowKit

section
variable {P : Program} {ops : Array Oper} {Q : Exit → Act → World → Prop}

theorem AnyS.weak {S S' : World → Prop} {late : List Nat} (h : ∀ w, S' w → S w) : ∀ (n : Nat) (listed : Array Bool) (a : Act) (w : World), AnyS P ops Q S' late n listed a w → AnyS P ops Q S late n listed a w
  | 0, _, _, _, k => k
  | n + 1, _, _, _, k => ⟨k.1, fun i hi => wpOp_mono (fun _ _ k' => ⟨fun hl => h _ (k'.1 hl), AnyS.weak h n _ _ _ k'.2⟩) (k.2 i hi)⟩
/-- Segment for segment; in each, what holds from there on. -/
def SegV (P : Program) (ops : Array Oper) (Q : Exit → Act → World → Prop) : (World → Prop) → List (List Nat × List Nat) → Act → World → Prop
  | _, [], a, w => ∀ Q' : Exit → Act → World → Prop, (∀ a w, Q .normal a w → Q' .normal a w) → wpList P ops Q' [] a w
  | S, (H, E) :: r, a, w => ∃ S' : World → Prop, (∀ w, S' w → S w) ∧ S' w ∧ HoistK P ops S' H a fun a' => EffS P ops (NoPanic Q) S' (opsAt ops E) a' w (SegV P ops Q S' r)
theorem SegV.mk {S : World → Prop} (S' : World → Prop) {H E : List Nat} {r : List (List Nat × List Nat)} {a : Act} {w : World} (h : ∀ w, S' w → S w) (hS : S' w) (k : HoistK P ops S' H a fun a' => EffS P ops (NoPanic Q) S' (opsAt ops E) a' w (SegV P ops Q S' r)) : SegV P ops Q S ((H, E) :: r) a w := ⟨S', h, hS, k⟩
theorem AnyS.segsV (hsel : Region.noSelect ops = true) : ∀ (segs : List (List Nat × List Nat)) (S : World → Prop) (listed : Array Bool) (a : Act) (w : World), Closed ops listed → segsOk ops segs listed = true → SegV P ops Q S segs a w → AnyS P ops (NoPanic Q) S [] (segsLen segs) listed a w
  | [], _, listed, a, w, _, hok, h => ⟨by simpa [segsOk] using hok, (h (NoPanic Q) (fun _ _ h => h) : NoPanic Q .normal a w)⟩
  | (H, E) :: r, S, listed, a, w, hcl, hok, ⟨S', hSS, hS, h⟩ => by
    simp only [segsOk, Bool.and_eq_true] at hok
    obtain ⟨⟨⟨h1, h2⟩, h3⟩, h4⟩ := hok
    obtain ⟨a', hH, h⟩ := HoistK.out _ _ _ h
    have hcl1 := Closed.hoist (late := []) H _ hcl h1
    have hcl2 := Closed.chain E _ hcl1 h2
    exact AnyS.weak hSS _ _ _ _ (AnyS.hoist hsel hS H _ _ a hcl h1 hH (AnyS.chainS E _ _ _ h2 h3 hS (fun a2 w2 _ hk => AnyS.segsV hsel r S' _ a2 w2 hcl2 h4 hk) h))

/-- The region. -/
theorem wp_region_segsV {id : Nat} {a : Act} {w : World} (segs : List (List Nat × List Nat)) (hm : P.follows .mixedOrders = true) (hsel : Region.noSelect ops = true)
    (hall : segsLen segs = ops.size) (hok : segsOk ops segs (Array.replicate ops.size false) = true) (h : SegV P ops Q (fun _ => True) segs a w.drew) : (Code.region id ops true).wp P Q a w := by
  have hfin := AnyS.segsV (Q := Q) hsel segs (fun _ => True) _ a _ (Closed.start ops.size) hok h
  rw [hall] at hfin
  exact wp_region_noPanic (wp_region_any hm (AnyS.any (S := fun _ => True) (late := []) _ _ _ _ hfin))
end

end Go.Proofs.YtjjgmkfkmckkoabGreatDoor

/- How a law is closed: a walk that answers true and leaves what was there as it was gives the row. Says nothing of the program. -/
namespace Go.Proofs.YtjjgmkfkmckkoabGreatDoor
open Go.ChangeShapes Go.WideShapes Go.ChangeAt Go.RowKit Go.Deep

section
variable {H : Type} {enc : TypeId × Value → H} {P : Program}

theorem trodAll_stays (hl : laidOutB P = true) {W W' : World} {sp : Nat → Bool} : ∀ (ts : List TypeId) (vs : List Value) (ds : List (DataW H)) (ps : List MemPlace),
    ts.all (fun t => P.readableRec t && decide (t < P.types.size)) = true → DataW.TrodAll enc P W 0 (fun _ => true) true ts vs ds ps → (∀ p ∈ ps, W.sameAt W' p) → (∀ p ∈ ps, sp p.block = true) →
    DataW.TrodAll enc P W' 0 sp true ts vs ds ps
  | [], vs, ds, ps, _, h, _, _ => by
    cases vs <;> cases ds <;> simp_all [DataW.TrodAll]
  | t :: ts, [], ds, ps, _, h, _, _ => by cases ds <;> simp [DataW.TrodAll] at h
  | t :: ts, v :: vs, [], ps, _, h, _, _ => by simp [DataW.TrodAll] at h
  | t :: ts, v :: vs, d :: ds, ps, hok, h, hsame, hsp => by
    obtain ⟨p, q, h1, h2, rfl⟩ := h
    simp only [List.all_cons, Bool.and_eq_true, decide_eq_true_eq] at hok
    exact ⟨p, q, WideElems.Trod_stays hl hok.1.1 hok.1.2 h1 (fun x hx => hsame x (by simp [hx])) (fun x hx => hsp x (by simp [hx])),
      trodAll_stays hl ts vs ds q hok.2 h2 (fun x hx => hsame x (by simp [hx])) (fun x hx => hsp x (by simp [hx])), rfl⟩

theorem trodAll_length {W : World} {base : Nat} {sp : Nat → Bool} {hd : Bool} : ∀ (ts : List TypeId) (vs : List Value) (ds : List (DataW H)) (ps : List MemPlace), DataW.TrodAll enc P W base sp hd ts vs ds ps → ds.length = ts.length
  | [], vs, ds, ps, h => by cases vs <;> cases ds <;> simp_all [DataW.TrodAll]
  | t :: ts, [], ds, ps, h => by cases ds <;> simp [DataW.TrodAll] at h
  | t :: ts, v :: vs, [], ps, h => by simp [DataW.TrodAll] at h
  | t :: ts, v :: vs, d :: ds, ps, h => by
    obtain ⟨p, q, _, h2, _⟩ := h
    simp [trodAll_length ts vs ds q h2]

/-- The row's last step: true, and nothing that was there has turned. -/
theorem law_post {f : Func} {s : ChangeSpec} {W W' : World} {args : Array Value} {ds gs : List (DataW H)} {before : List MemPlace} {tb : TypeId} (hl : laidOutB P = true)
    (hok : f.params.toList.all (fun t => P.readableRec t && decide (t < P.types.size)) = true) (hr : f.resultTypes = #[tb]) (htb : P.underlying tb = some .bool)
    (hvars : s.vars = []) (hspec : ∀ ds : List (DataW H), ds.length = f.params.size → s.fn H ds = { results := [.lit (.bool true)], args := ds })
    (hW : DataW.Whole enc P f.params.toList s.vars false W args.toList ds gs before) (hb : Below W.heap.size W W') :
    s.post enc P f false true false false W args (.bool true) W' := by
  have hlt : ∀ p ∈ before, p.block < W.heap.size := fun p hp => hW.lt p hp
  have hW0 := hW
  obtain ⟨p, q, hA, hV, rfl, _, _⟩ := hW0
  rw [hvars] at hV
  obtain ⟨rfl, rfl⟩ := trodVars_none hV
  have hlen : ds.length = f.params.size := by rw [trodAll_length _ _ _ _ hA, Array.length_toList]
  have hfn := hspec ds hlen
  have hfr : f.resultTypes.toList = [tb] := by rw [hr]
  have hrl : (Value.bool true).resultList f.resultTypes.size = [.bool true] := by rw [hr]; rfl
  refine ⟨ds, [], p ++ [], [], p, [], hW, ?_, ?_, ?_, World.keptBut_mono (fun x hx => ⟨hx, ?_⟩) (hb.frame (· ∈ p ++ [])), fun h => by cases h⟩
  · rw [List.append_nil, hfn, hfr, hrl]
    exact trodAll_mk1 (shut_bool htb _)
  · rw [List.append_nil, hfn]
    exact trodAll_stays hl _ _ _ _ hok hA (fun x hx => hb.same (hlt x (by simp [hx]))) (fun x hx => by simpa using hlt x (by simp [hx]))
  · rw [List.append_nil, hfn, hvars]
    rfl
  · exact Or.inr (Or.inl (by simpa using hx))

/-- The lifted row, out of a walk. -/
theorem law_lifted {C : Checked} {os : Os} {f : FuncId} {fn : Func} {s : ChangeSpec} {tb : TypeId} (own : ownKnob C.prog.godebug = none) (hl : laidOutB C.prog = true) (started : os.Started)
    (noInit : C.prog.inits.idxOf? f = none) (hfn : C.prog.funcs[f]? = some fn)
    (witness : ∃ (w : World) (tape : Tape) (i : Input), w.os = os ∧ (w.forCall tape i).Shaped C.prog ∧ i.vars = [] ∧ Input.okWide C.prog (w.forCall tape i) .any w.heap.size f i ∧
      s.pre6 enc C.prog fn [] false (w.forCall tape i).memory i.args ∧ ({} : Assume).holds C.prog (lone (Frame.enter C.prog f i.args .normal) [] (w.forCall tape i)))
    (hok : fn.params.toList.all (fun t => C.prog.readableRec t && decide (t < C.prog.types.size)) = true) (hr : fn.resultTypes = #[tb]) (htb : C.prog.underlying tb = some .bool)
    (hvars : s.vars = []) (hspec : ∀ ds : List (DataW H), ds.length = fn.params.size → s.fn H ds = { results := [.lit (.bool true)], args := ds })
    (walk : ∀ (W : World) (base : Nat) (args : Array Value) (ds : List (DataW H)) (ps : List MemPlace),
      (∀ (j : Nat) t v, fn.params[j]? = some t → args[j]? = some v → Value.okWide C.prog W .any base t v) →
      DataW.TrodAll enc C.prog W 0 (fun _ => true) true fn.params.toList args.toList ds ps → (∀ p ∈ ps, p.block < W.heap.size) →
      (DataW.weightsEach C.prog fn.params.toList ds).all (· ≤ reachBytes) = true →
      Calls C.prog f args W fun e W' => e = .returned (.bool true) ∧ Below W.heap.size W W') :
    ReturnsInHanded {} C os f .any (s.pre6 enc C.prog fn [] false) (s.post enc C.prog fn false true false false) := by
  refine returnsInHanded_of_change_sized own started noInit hfn witness ?_
  intro W base args ds gs before hval hW _ hsz _
  have hlt : ∀ p ∈ before, p.block < W.heap.size := fun p hp => hW.lt p hp
  have hW0 := hW
  obtain ⟨p, q, hA, hV, rfl, _, _⟩ := hW0
  rw [hvars] at hV
  obtain ⟨rfl, rfl⟩ := trodVars_none hV
  have hvt : s.plain.varTypes C.prog = [] := by simp [DataSpec.varTypes, ChangeSpec.plain, hvars]
  rw [hvt, List.append_nil, List.append_nil] at hsz
  refine (walk W base args ds p hval hA (fun x hx => hlt x (by simp [hx])) hsz).mono fun e W' ⟨he, hb⟩ => ?_
  exact ⟨_, he, law_post hl hok hr htb hvars hspec hW hb⟩
end

/-! ### Arguments opened -/
section
variable {H : Type} {enc : TypeId × Value → H} {P : Program} {w : World} {base : Nat} {spare : Nat → Bool} {held : Bool}

/-- A slice of structs of one-cell fields: each field's cell, and its own reading. (The guide's, turned to Cs.) -/
theorem open_slice_fields {t e : TypeId} {fs : Array Field} {fuel : Nat} {cs : List Value} {x : DataW H × List MemPlace} (ht : P.underlying t = some (.slice e)) (he : P.underlying e = some (.struct fs))
    (hone : oneCellFields P fs = true) (hC : P.cellsOf e = fs.size) (h : DataW.trod enc P w base spare held fuel t cs = some x) :
    (cs = [.slice none 0 0] ∧ x = (.nil, [])) ∨
    ∃ (a : Addr) (len cap m : Nat) (D : Nat → DataW H) (Pl : Nat → List MemPlace), cs = [.slice (some a) len cap] ∧ base ≤ a.block ∧ len ≤ cap ∧ cap ≤ maxLen ∧ m = (if spare a.block then cap else len) ∧
      x = (.slice ((List.range len).map D) ((List.range (m - len)).map fun j => D (len + j)), MemPlace.row a (m * fs.size) ++ (List.range m).flatMap Pl) ∧
      ∀ i, i < m → ∃ (ys : List (DataW H × List MemPlace)) (n : Nat), D i = .agg (ys.map (·.1)) ∧ Pl i = ys.flatMap (·.2) ∧ ys.length = fs.size ∧
        ∀ (j : Nat) (f : Field), fs[j]? = some f → ∃ (v : Value) (y : DataW H × List MemPlace), w.cell? (a.add (i * fs.size + j)) = some v ∧ ys[j]? = some y ∧ DataW.trod enc P w base spare held n f.type [v] = some y := by
  rcases open_slice ht h with h0 | ⟨a, len, cap, m, n, D, Pl, hcs, hb, hl, hm, hmm, hx, hi⟩
  · exact .inl h0
  · refine .inr ⟨a, len, cap, m, D, Pl, hcs, hb, hl, hm, hmm, by rw [hC] at hx; exact hx, fun i him => ?_⟩
    obtain ⟨cs', hc, ht'⟩ := hi i him
    rw [hC] at hc
    obtain ⟨ys, n', hn', hy, hlen, hyl, hf⟩ := DataW.trod_struct he ht'
    obtain ⟨_, hcl, hat⟩ := World.cells?_some hc
    simp only [Prod.mk.injEq] at hy
    refine ⟨ys, n', hy.1, hy.2, hyl, fun j f hj => ?_⟩
    obtain ⟨ho, hk⟩ := hone_of hone j f hj
    have hjl : j < fs.size := (Array.getElem?_eq_some_iff.1 hj).1
    have hcell := hat j hjl
    have hv : cs'[j]? = some (cs'[j]'(by omega)) := List.getElem?_eq_getElem (by omega)
    have h1 := hf j f hj
    rw [ho, hk] at h1
    have hone' : (cs'.drop j).take 1 = [cs'[j]'(by omega)] := by
      rw [List.drop_eq_getElem_cons (by omega)]
      rfl
    rw [hone'] at h1
    have hys : ys[j]? = some (ys[j]'(by omega)) := List.getElem?_eq_getElem (by omega)
    refine ⟨_, _, ?_, hys, h1.trans hys⟩
    rw [← Go.Deep.add_add, hcell, hv]

/-- A slice of bytes that came in. -/
theorem open_bytes {t e : TypeId} {fuel : Nat} {v : Value} {x : DataW H × List MemPlace} (ht : P.underlying t = some (.slice e)) (he : P.underlying e = some (.int .u8)) (hc : P.cellsOf e = 1)
    (h : DataW.trod enc P w base (fun _ => true) held fuel t [v] = some x) :
    ∃ bs : List UInt8, (∀ n ∈ x.1.weights P t, n ≤ reachBytes) → P.bytesOf e = 1 → Bs w (fun b => b < w.heap.size) v bs := by
  rcases open_ints ht he hc h with ⟨hcs, hx⟩ | ⟨a, len, cap, zs, hcs, _, hl, hm, hz, hx, hcell, hwz⟩
  · obtain rfl : v = .slice none 0 0 := by simpa using hcs
    exact ⟨[], fun _ _ => Bs.nil_ _ _⟩
  · obtain rfl : v = .slice (some a) len cap := by simpa using hcs
    simp only [if_true] at hz
    have hbyte : ∀ z ∈ zs, (z.toNat : Int) = z ∧ z.toNat < 256 := fun z hzm => by
      have := hwz z hzm
      simp only [Lit.wf, IntKind.min, IntKind.max, IntKind.signed, IntKind.bits, Bool.and_eq_true] at this
      simp at this
      omega
    refine ⟨(zs.take len).map fun z => UInt8.ofNat z.toNat, fun hw hb1 => ?_⟩
    have hlen : ((zs.take len).map fun z => UInt8.ofNat z.toNat).length = len := by simp; omega
    have hsz : cap ≤ reachBytes := by
      have := hw (((lits (H := H) .u8 (zs.take len)).length + (lits (H := H) .u8 (zs.drop len)).length) * P.bytesOf e) (by rw [hx]; simp [DataW.weights, ht])
      rw [hb1] at this
      simp only [lits, List.length_map, List.length_take, List.length_drop] at this
      omega
    refine ⟨⟨by rw [u8s_length]; omega, some a, cap, by rw [hlen], by rw [hlen]; exact hl, hm, fun hpos => ?_⟩, by rw [hlen]; simp only [reachBytes] at hsz; omega⟩
    rw [hlen] at hpos
    obtain ⟨b, off, spot⟩ := a
    have hc0 := hcell 0 (by omega)
    obtain rfl : spot = none := by simpa [Addr.add] using World.cell?_spot hc0
    refine ⟨b, off, rfl, by have := World.block_lt_of_cell? _ _ hc0; simpa [Addr.add] using this, by have := World.block_lt_of_cell? _ _ hc0; simpa [Addr.add] using this, fun j u hu => ?_⟩
    have hj : j < len := by
      have := (List.getElem?_eq_some_iff.1 hu).1
      rw [u8s_length] at this; omega
    have hcj := hcell j (by omega)
    rw [add_plain] at hcj
    rw [hcj]
    have hjz : j < zs.length := by omega
    simp only [u8s, List.map_map, List.getElem?_map, List.getElem?_take, if_pos hj, List.getElem?_eq_getElem hjz, Option.map_some, Function.comp_apply] at hu
    rw [← hu]
    have := hbyte zs[j] (List.getElem_mem hjz)
    simp only [List.getD, List.getElem?_eq_getElem hjz, Option.getD_some, Option.some.injEq, Value.int.injEq, true_and]
    rw [UInt8.toNat_ofNat']
    omega

/-- A slice value's form, from its well-formedness. -/
theorem weights_all {ts : List TypeId} {ds : List (DataW H)} (h : (DataW.weightsEach P ts ds).all (· ≤ reachBytes) = true) {j : Nat} {t : TypeId} {d : DataW H} (ht : ts[j]? = some t) (hd : ds[j]? = some d) : ∀ n ∈ d.weights P t, n ≤ reachBytes :=
  fun n hn => by simpa using List.all_eq_true.1 h n (DataW.weights_mem_each ht hd n hn)
theorem weights_elem {t e : TypeId} (ht : P.underlying t = some (.slice e)) {elems spare' : List (DataW H)} (h : ∀ n ∈ (DataW.slice elems spare').weights P t, n ≤ reachBytes) {d : DataW H} (hd : d ∈ elems) : ∀ n ∈ d.weights P e, n ≤ reachBytes := by
  have key : ∀ (l : List (DataW H)), d ∈ l → ∀ n ∈ d.weights P e, n ∈ DataW.weightsAll P e l := by
    intro l
    induction l with
    | nil => intro h; cases h
    | cons x r ih =>
      intro hm n hn
      simp only [DataW.weightsAll, List.mem_append]
      rcases List.mem_cons.1 hm with rfl | hm
      · exact .inl hn
      · exact .inr (ih hm n hn)
  intro n hn
  refine h n ?_
  simp only [DataW.weights, ht, List.mem_cons, List.mem_append]
  exact .inr (.inl (key elems hd n hn))
theorem weights_size {t e : TypeId} (ht : P.underlying t = some (.slice e)) {elems spare' : List (DataW H)} (h : ∀ n ∈ (DataW.slice elems spare').weights P t, n ≤ reachBytes) : elems.length * P.bytesOf e ≤ reachBytes := by
  have := h ((elems.length + spare'.length) * P.bytesOf e) (by simp [DataW.weights, ht])
  exact Nat.le_trans (Nat.mul_le_mul_right _ (by omega)) this
theorem weights_field {e : TypeId} {fs : Array Field} (he : P.underlying e = some (.struct fs)) {parts : List (DataW H)} (h : ∀ n ∈ (DataW.agg parts).weights P e, n ≤ reachBytes) {j : Nat} {f : Field} {d : DataW H} (hf : fs[j]? = some f) (hd : parts[j]? = some d) :
    ∀ n ∈ d.weights P f.type, n ≤ reachBytes := fun n hn => h n (by
  simp only [DataW.weights, he]
  exact DataW.weights_mem_each (by rw [List.getElem?_map, Array.getElem?_toList, hf]; rfl) hd n hn)
end

end Go.Proofs.YtjjgmkfkmckkoabGreatDoor

/- How a law's second form ('Upto') is closed: beside Law. Says nothing of the program. -/
namespace Go.Proofs.YtjjgmkfkmckkoabGreatDoor
open Go.ChangeShapes Go.WideShapes Go.ChangeAt Go.RowKit Go.Deep

section
variable {H : Type} {enc : TypeId × Value → H}

theorem upto_lifted {C : Checked} {os : Os} {f : FuncId} {fn : Func} {s : ChangeSpec} {tb : TypeId} {F : Stop.Interp} (own : ownKnob C.prog.godebug = none) (hl : laidOutB C.prog = true) (started : os.Started)
    (noInit : C.prog.inits.idxOf? f = none) (hfn : C.prog.funcs[f]? = some fn)
    (witness : ∃ (w : World) (tape : Tape) (i : Input), w.os = os ∧ (w.forCall tape i).Shaped C.prog ∧ i.vars = [] ∧ Input.okWide C.prog (w.forCall tape i) .any w.heap.size f i ∧
      (Rows.OpenSpec.upto s).pre6 enc C.prog fn [] false (w.forCall tape i).memory i.args ∧ ({} : Assume).holds C.prog (lone (Frame.enter C.prog f i.args .normal) [] (w.forCall tape i)))
    (hok : fn.params.toList.all (fun t => C.prog.readableRec t && decide (t < C.prog.types.size)) = true) (hr : fn.resultTypes = #[tb]) (htb : C.prog.underlying tb = some .bool)
    (hvars : s.vars = []) (hspec : ∀ ds : List (DataW H), ds.length = fn.params.size → s.fn H ds = { results := [.lit (.bool true)], args := ds })
    (walk : ∀ (W : World) (base : Nat) (args : Array Value) (ds : List (DataW H)) (ps : List MemPlace),
      (∀ (j : Nat) t v, fn.params[j]? = some t → args[j]? = some v → Value.okWide C.prog W .any base t v) →
      DataW.TrodAll enc C.prog W 0 (fun _ => true) true fn.params.toList args.toList ds ps → (∀ p ∈ ps, p.block < W.heap.size) → Rows.uptoBulkAll ds ≤ 1048576 →
      Calls C.prog f args W fun e W' => e = .returned (.bool true) ∧ Below W.heap.size W W') :
    ReturnsInHanded {} C os f .any ((Rows.OpenSpec.upto s).pre6 enc C.prog fn [] false) (((Rows.OpenSpec.upto s).at F).post enc C.prog fn false true false false) := by
  refine returnsInHanded_of_cond (C := C) (s := Rows.OpenSpec.upto s) (k := Rows.uptoSmall) rfl own started noInit hfn witness ?_
  intro W base args ds gs before hval hW _ hk _
  have hW0 : DataW.Whole enc C.prog fn.params.toList s.vars false W args.toList ds gs before := hW
  have hlt : ∀ p ∈ before, p.block < W.heap.size := fun p hp => hW0.lt p hp
  have hW1 := hW0
  obtain ⟨p, q, hA, hV, rfl, _, _⟩ := hW1
  rw [hvars] at hV
  obtain ⟨rfl, rfl⟩ := trodVars_none hV
  rw [List.append_nil] at hk
  refine (walk W base args ds p hval hA (fun x hx => hlt x (by simp [hx])) (bulks.bound hk)).mono fun e W' ⟨he, hb⟩ => ?_
  exact ⟨_, he, law_post hl hok hr htb hvars hspec hW0 hb⟩
end

end Go.Proofs.YtjjgmkfkmckkoabGreatDoor

/- Arguments opened: what reads as data is a thing of a shape. Says nothing of the program. -/
namespace Go.Proofs.YtjjgmkfkmckkoabGreatDoor
open Go.ChangeShapes Go.WideShapes Go.ChangeAt Go.RowKit Go.Deep

/-! Type t is of shape s. -/
mutual
def Sh.fits (P : Program) : Sh → TypeId → Prop
  | .num sg, t => P.underlying t = some (.int (nk sg))
  | .dig, t => ∃ e, P.underlying t = some (.array 32 e) ∧ P.underlying e = some (.int .u8) ∧ P.cellsOf e = 1 ∧ P.cellsOf t = 32
  | .byt, t => ∃ e, P.underlying t = some (.slice e) ∧ P.underlying e = some (.int .u8) ∧ P.cellsOf e = 1
  | .bool, t => P.underlying t = some .bool
  | .list s, t => ∃ e, P.underlying t = some (.slice e) ∧ s.fits P e ∧ P.cellsOf e = s.cells ∧ 0 < s.cells
  | .tup fs, t => ∃ F, P.underlying t = some (.struct F) ∧ fs.fits P F.toList 0 ∧ P.cellsOf t = fs.cells
def Fs.fits (P : Program) : Fs → List Field → Nat → Prop
  | .nil, [], _ => True
  | .cons s fs, f :: l, o => f.offset = o ∧ P.cellsOf f.type = s.cells ∧ s.fits P f.type ∧ fs.fits P l (o + s.cells)
  | _, _, _ => False
end
/-! No bytes, no lists in it. -/
mutual
def Sh.plain : Sh → Bool
  | .num _ => true
  | .dig => true
  | .byt => false
  | .bool => true
  | .list _ => false
  | .tup fs => fs.plain
def Fs.plain : Fs → Bool
  | .nil => true
  | .cons s fs => s.plain && fs.plain
end
theorem choose_list {α : Type} {p : Nat → α → Prop} : ∀ (n : Nat), (∀ i, i < n → ∃ x, p i x) → ∃ l : List α, l.length = n ∧ ∀ i x, l[i]? = some x → p i x
  | 0, _ => ⟨[], rfl, fun i x h => by simp at h⟩
  | n + 1, h => by
    obtain ⟨l, hl, hp⟩ := choose_list n fun i hi => h i (by omega)
    obtain ⟨x, hx⟩ := h n (by omega)
    refine ⟨l ++ [x], by simp [hl], fun i y hy => ?_⟩
    rcases Nat.lt_trichotomy i l.length with h1 | h1 | h1
    · rw [List.getElem?_append_left h1] at hy; exact hp i y hy
    · subst h1
      rw [List.getElem?_append_right (Nat.le_refl _), Nat.sub_self] at hy
      injection hy with hy
      subst hy
      rw [hl]; exact hx
    · rw [List.getElem?_eq_none (by simp; omega)] at hy; cases hy
theorem flatten_back {m : Nat} (hm : 0 < m) (css : List (List Value)) (hc : ∀ c ∈ css, c.length = m) {j : Nat} {u : Value} (h : css.flatten[j]? = some u) : ∃ c, css[j / m]? = some c ∧ c[j % m]? = some u := by
  have hlen : css.flatten.length = css.length * m := by
    clear h
    induction css with
    | nil => simp
    | cons c r ih => rw [List.flatten_cons, List.length_append, hc c (by simp), ih fun d hd => hc d (by simp [hd]), List.length_cons, Nat.succ_mul]; omega
  have hj : j < css.length * m := by rw [← hlen]; exact (List.getElem?_eq_some_iff.1 h).1
  have hk : j / m < css.length := Nat.div_lt_of_lt_mul (by rw [Nat.mul_comm]; exact hj)
  refine ⟨css[j / m], List.getElem?_eq_getElem hk, ?_⟩
  have := flatten_get css (j / m) css[j / m] hc (List.getElem?_eq_getElem hk) (j % m) (Nat.mod_lt _ hm)
  rw [← this, Nat.mul_comm, Nat.div_add_mod]
  exact h
theorem wf_nk (sg : Bool) (n : Int) (h : (Lit.int (nk sg) n).wf = true) : (nk sg).wrap n = n := by
  cases sg
  · simp [Lit.wf, nk, IntKind.min, IntKind.max, IntKind.signed, IntKind.bits] at h
    rw [wrap_u]; omega
  · simp [Lit.wf, nk, IntKind.min, IntKind.max, IntKind.signed, IntKind.bits] at h
    rw [wrap_s]; split <;> omega

section
variable {H : Type} {enc : TypeId × Value → H} {P : Program} {w : World} {base : Nat} {held : Bool}
theorem trod_int_open {t : TypeId} {k : IntKind} {fuel : Nat} {cs : List Value} {x : DataW H × List MemPlace} (ht : P.underlying t = some (.int k)) (h : DataW.trod enc P w base (fun _ => true) held fuel t cs = some x) : ∃ n, cs = [.int k n] ∧ (Lit.int k n).wf = true := by
  cases fuel with
  | zero => simp [DataW.trod] at h
  | succ m =>
    unfold DataW.trod at h
    rw [ht] at h
    split at h <;> simp_all
theorem trod_bool_open {t : TypeId} {fuel : Nat} {cs : List Value} {x : DataW H × List MemPlace} (ht : P.underlying t = some .bool) (h : DataW.trod enc P w base (fun _ => true) held fuel t cs = some x) : ∃ b, cs = [.bool b] := by
  cases fuel with
  | zero => simp [DataW.trod] at h
  | succ m =>
    unfold DataW.trod at h
    rw [ht] at h
    split at h <;> simp_all
theorem byte_of {z : Int} (h : (Lit.int .u8 z).wf = true) : (Value.int .u8 z) = .int .u8 ((UInt8.ofNat z.toNat).toNat : Int) := by
  simp [Lit.wf, IntKind.min, IntKind.max, IntKind.signed, IntKind.bits] at h
  congr 1
  rw [UInt8.toNat_ofNat']
  omega
theorem joinP_bulk {α : Type} (f : α → List UInt8) : ∀ (l : List α) (ds : List (DataW H)), l.length = ds.length → (∀ (i : Nat) (a : α) (d : DataW H), l[i]? = some a → ds[i]? = some d → (f a).length + 8 ≤ 24 * Rows.uptoBulk d) → (joinP (l.map f)).length ≤ 24 * Rows.uptoBulkAll ds
  | [], [], _, _ => by simp [joinP]
  | [], _ :: _, h, _ => by simp at h
  | _ :: _, [], h, _ => by simp at h
  | a :: l, d :: ds, h, hb => by
    have h1 := hb 0 a d rfl rfl
    have h2 := joinP_bulk f l ds (by simpa using h) fun i a d h3 h4 => hb (i + 1) a d h3 h4
    simp only [List.map_cons, joinP, List.length_append, be8_length, Rows.uptoBulkAll]
    omega

set_option maxHeartbeats 1000000 in
mutual
theorem Sh.open_ : ∀ (s : Sh) (t : TypeId) (n : Nat) (cs : List Value) (x : DataW H × List MemPlace), s.fits P t → (s.plain = true ∨ Rows.uptoBulk x.1 ≤ 1048576) → DataW.trod enc P w base (fun _ => true) held n t cs = some x →
    ∃ y : s.El, s.rep w (fun b => b < w.heap.size) y cs ∧ (s.enc y).length + 8 ≤ 24 * Rows.uptoBulk x.1
  | .num sg, t, n, cs, x, hf, _, h => by
    obtain ⟨z, rfl, hw⟩ := trod_int_open hf h
    refine ⟨z, ⟨rfl, wf_nk sg z hw⟩, ?_⟩
    have h1 : (numB z).length = 8 := numB_length z
    have h2 := bulks.one_le x.1
    show (numB z).length + 8 ≤ _
    omega
  | .bool, t, n, cs, x, hf, _, h => by
    obtain ⟨b, rfl⟩ := trod_bool_open hf h
    refine ⟨b, rfl, ?_⟩
    have h1 : (truthB b).length = 1 := by cases b <;> rfl
    have h2 := bulks.one_le x.1
    show (truthB b).length + 8 ≤ _
    omega
  | .dig, t, n, cs, x, ⟨e, ht, he, hce, hct⟩, _, h => by
    obtain ⟨xs, m, rfl, rfl, hl, hxl, hi⟩ := DataW.trod_array ht h
    rw [hct] at hl
    obtain ⟨l, hll, hlp⟩ := choose_list (α := UInt8) (p := fun i b => cs[i]? = some (.int .u8 b.toNat)) 32 fun i hi32 => by
      have h1 := hi i hi32
      rw [hce, Nat.mul_one] at h1
      have hx : xs[i]? = some (xs[i]'(by omega)) := List.getElem?_eq_getElem _
      rw [hx] at h1
      obtain ⟨z, hz, hw⟩ := trod_int_open he h1
      refine ⟨UInt8.ofNat z.toNat, ?_⟩
      have h2 : cs.drop i = cs[i]'(by omega) :: cs.drop (i + 1) := List.drop_eq_getElem_cons (by omega)
      rw [h2] at hz
      simp only [List.take_succ_cons, List.take_zero, List.cons.injEq, and_true] at hz
      rw [List.getElem?_eq_getElem (by omega), hz, byte_of hw]
    refine ⟨l, ⟨?_, hll⟩, ?_⟩
    · apply List.ext_getElem?
      intro i
      rcases Nat.lt_or_ge i 32 with h1 | h1
      · have h2 : l[i]? = some (l[i]'(by omega)) := List.getElem?_eq_getElem _
        rw [hlp i _ h2, u8s_get l i (by omega)]
      · rw [List.getElem?_eq_none (by omega), List.getElem?_eq_none (by rw [u8s_length]; omega)]
    · show List.length (α := UInt8) l + 8 ≤ _
      have h2 := bulks.length_le (xs.map (·.1))
      rw [List.length_map, hxl] at h2
      simp only [Rows.uptoBulk]
      omega
  | .byt, t, n, cs, x, ⟨e, ht, he, hce⟩, hB, h => by
    rcases open_ints ht he hce h with ⟨hcs, hx⟩ | ⟨a, len, cap, zs, hcs, _, hl, hm, hz, hx, hcell, hwz⟩
    · subst hcs hx
      exact ⟨[], ⟨_, rfl, Bs.nil_ _ _⟩, by simp [Sh.enc, Rows.uptoBulk]⟩
    · subst hcs hx
      simp only [if_true] at hz
      have hB : Rows.uptoBulk (DataW.slice (lits (H := H) .u8 (zs.take len)) (lits (H := H) .u8 (zs.drop len))) ≤ 1048576 := hB.elim (fun h => by cases h) id
      have hsl := bulks.slice_le (lits (H := H) .u8 (zs.take len)) (lits (H := H) .u8 (zs.drop len))
      rw [show (lits (H := H) .u8 (zs.take len)).length = len by simp [lits]; omega] at hsl
      have hlen : ((zs.take len).map fun z => UInt8.ofNat z.toNat).length = len := by simp; omega
      refine ⟨(zs.take len).map fun z => UInt8.ofNat z.toNat, ⟨_, rfl, ⟨by rw [u8s_length]; omega, some a, cap, by rw [hlen], by rw [hlen]; exact hl, hm, fun hpos => ?_⟩, ?_⟩, ?_⟩
      · rw [hlen] at hpos
        obtain ⟨b, off, spot⟩ := a
        have hc0 := hcell 0 (by omega)
        obtain rfl : spot = none := by simpa [Addr.add] using World.cell?_spot hc0
        refine ⟨b, off, rfl, by have := World.block_lt_of_cell? _ _ hc0; simpa [Addr.add] using this, by have := World.block_lt_of_cell? _ _ hc0; simpa [Addr.add] using this, fun j u hu => ?_⟩
        have hj : j < len := by have := (List.getElem?_eq_some_iff.1 hu).1; rw [u8s_length] at this; omega
        have hcj := hcell j (by omega)
        rw [add_plain] at hcj
        rw [hcj]
        have hjz : j < zs.length := by omega
        simp only [u8s, List.map_map, List.getElem?_map, List.getElem?_take, if_pos hj, List.getElem?_eq_getElem hjz, Option.map_some, Function.comp_apply] at hu
        rw [← hu]
        simp only [List.getD, List.getElem?_eq_getElem hjz, Option.getD_some]
        rw [byte_of (hwz zs[j] (List.getElem_mem hjz))]
      · rw [hlen]; omega
      · show List.length (α := UInt8) _ + 8 ≤ _
        show (List.map (fun z : Int => UInt8.ofNat z.toNat) (List.take len zs)).length + 8 ≤ _
        rw [hlen]
        show len + 8 ≤ 24 * Rows.uptoBulk (DataW.slice (lits (H := H) .u8 (zs.take len)) (lits (H := H) .u8 (zs.drop len)))
        omega
  | .list s, t, n, cs, x, ⟨e, ht, hfe, hce, h0⟩, hB, h => by
    rcases open_slice ht h with ⟨hcs, hx⟩ | ⟨a, len, cap, m, n', D, Pl, hcs, _, hl, hm, hmm, hx, hi⟩
    · subst hcs hx
      exact ⟨[], ⟨_, [], rfl, Cs.nil_ _ _ _, .nil⟩, by simp [Sh.enc, joinB_length, joinP, Rows.uptoBulk]⟩
    · subst hcs hx
      simp only [if_true] at hmm
      have hmm' := hmm.symm
      subst hmm'
      clear hmm
      have hB : Rows.uptoBulk (DataW.slice ((List.range len).map D) ((List.range (cap - len)).map fun j => D (len + j))) ≤ 1048576 := hB.elim (fun h => by cases h) id
      have hpart : ∀ i, i < len → Rows.uptoBulk (D i) ≤ 1048576 := fun i hil => by
        have := bulks.part_le (List.mem_map.2 ⟨i, List.mem_range.2 hil, rfl⟩ : D i ∈ (List.range len).map D)
        simp only [Rows.uptoBulk] at hB
        omega
      obtain ⟨l, hll, hlp⟩ := choose_list (α := s.El × List Value) (p := fun i z => (∀ j u, z.2[j]? = some u → w.cell? ((a.add (i * P.cellsOf e)).add j) = some u) ∧ s.rep w (fun b => b < w.heap.size) z.1 z.2 ∧ (s.enc z.1).length + 8 ≤ 24 * Rows.uptoBulk (D i)) len fun i hil => by
        obtain ⟨cs', hc, ht'⟩ := hi i (by omega)
        obtain ⟨y, hr, hb⟩ := Sh.open_ s e n' cs' (D i, Pl i) hfe (.inr (hpart i hil)) ht'
        obtain ⟨_, hcl, hat⟩ := World.cells?_some hc
        exact ⟨(y, cs'), fun j u hu => by have hjl : j < cs'.length := (List.getElem?_eq_some_iff.1 hu).1; rw [hat j (by omega)]; exact hu, hr, hb⟩
      have hcl : ∀ c ∈ l.map (·.2), c.length = s.cells := fun c hc => by
        obtain ⟨z, hz, rfl⟩ := List.mem_map.1 hc
        obtain ⟨i, hi, rfl⟩ := List.getElem_of_mem hz
        exact Sh.rep_size s _ _ (hlp i _ (List.getElem?_eq_getElem hi)).2.1
      have hfl : (l.map (·.2)).flatten.length = len * s.cells := by
        rw [← hll]
        clear hlp hll
        induction l with
        | nil => simp
        | cons z r ih => rw [List.map_cons, List.flatten_cons, List.length_append, hcl z.2 (by simp), ih fun c hc => hcl c (by simp at hc ⊢; exact .inr hc), List.length_cons, Nat.succ_mul]; omega
      refine ⟨l.map (·.1), ⟨_, l.map (·.2), rfl, ⟨by rw [hfl]; simp [hll], some a, cap, by simp [hll], by simpa [hll] using hl, hm, fun hpos => ?_⟩, ?_⟩, ?_⟩
      · have hpos : 0 < len := by simpa [hll] using hpos
        obtain ⟨b, off, spot⟩ := a
        have hz0 : l[0]? = some (l[0]'(by omega)) := List.getElem?_eq_getElem _
        obtain ⟨q1, q2, _⟩ := hlp 0 _ hz0
        have hsz := Sh.rep_size s _ _ q2
        have hc0 := q1 0 _ (List.getElem?_eq_getElem (by omega))
        rw [Nat.zero_mul] at hc0
        obtain rfl : spot = none := by simpa [Addr.add] using World.cell?_spot hc0
        refine ⟨b, off, rfl, by have := World.block_lt_of_cell? _ _ hc0; simpa [Addr.add] using this, by have := World.block_lt_of_cell? _ _ hc0; simpa [Addr.add] using this, fun j u hu => ?_⟩
        obtain ⟨c, hc1, hc2⟩ := flatten_back h0 _ hcl hu
        rw [List.getElem?_map] at hc1
        obtain ⟨z, hz, rfl⟩ := Option.map_eq_some_iff.1 hc1
        have := (hlp _ z hz).1 _ u hc2
        rw [add_plain, add_plain, hce, Nat.add_assoc, Nat.mul_comm, Nat.div_add_mod] at this
        exact this
      · have : ∀ (l : List (s.El × List Value)), (∀ z ∈ l, s.rep w (fun b => b < w.heap.size) z.1 z.2) → Two (s.rep w (fun b => b < w.heap.size)) (l.map (·.1)) (l.map (·.2)) := by
          intro l
          induction l with
          | nil => intro _; exact .nil
          | cons z r ih => intro hz; exact .cons (hz z (by simp)) (ih fun y hy => hz y (by simp [hy]))
        exact this l fun z hz => by obtain ⟨i, hi, rfl⟩ := List.getElem_of_mem hz; exact (hlp i _ (List.getElem?_eq_getElem hi)).2.1
      · show (joinB (List.map s.enc (l.map (·.1)))).length + 8 ≤ 24 * Rows.uptoBulk (DataW.slice ((List.range len).map D) ((List.range (cap - len)).map fun j => D (len + j)))
        have hjb := joinP_bulk s.enc (l.map (·.1)) ((List.range len).map D) (by simp [hll]) fun i a d h1 h2 => by
          rw [List.getElem?_map] at h1 h2
          obtain ⟨z, hz, rfl⟩ := Option.map_eq_some_iff.1 h1
          have hil := (List.getElem?_eq_some_iff.1 hz).1
          rw [List.getElem?_range (by omega)] at h2
          injection h2 with h2
          subst h2
          exact (hlp i z hz).2.2
        rw [joinB_length]
        have := bulks.slice_elems ((List.range len).map D) ((List.range (cap - len)).map fun j => D (len + j))
        omega
  | .tup fs, t, n, cs, x, ⟨F, ht, hf, hct⟩, hB, h => by
    obtain ⟨xs, m, rfl, rfl, hl, hxl, hi⟩ := DataW.trod_struct ht h
    obtain ⟨y, hr, hb⟩ := Fs.open_ fs F.toList 0 m cs xs hf (hB.imp id fun h => by simp only [Rows.uptoBulk] at h; omega) (fun i f hif => hi i f (by simpa using hif)) (by simpa using hxl) (by rw [Nat.zero_add, hl, hct])
    rw [List.drop_zero] at hr
    refine ⟨y, hr, ?_⟩
    show (joinB (fs.encs y)).length + 8 ≤ _
    rw [joinB_length]
    simp only [Rows.uptoBulk]
    omega
theorem Fs.open_ : ∀ (fs : Fs) (l : List Field) (o m : Nat) (cs : List Value) (xs : List (DataW H × List MemPlace)), fs.fits P l o → (fs.plain = true ∨ Rows.uptoBulkAll (xs.map (·.1)) ≤ 1048576) →
    (∀ (i : Nat) (f : Field), l[i]? = some f → DataW.trod enc P w base (fun _ => true) held m f.type ((cs.drop f.offset).take (P.cellsOf f.type)) = xs[i]?) → xs.length = l.length → o + fs.cells = cs.length →
    ∃ y : fs.El, fs.rep w (fun b => b < w.heap.size) y (cs.drop o) ∧ (joinP (fs.encs y)).length ≤ 24 * Rows.uptoBulkAll (xs.map (·.1))
  | .nil, [], o, m, cs, xs, _, _, _, _, hl => by
    have hl : o + 0 = cs.length := hl
    exact ⟨(), List.drop_eq_nil_of_le (by omega), Nat.zero_le _⟩
  | .nil, _ :: _, _, _, _, _, h, _, _, _, _ => by cases h
  | .cons _ _, [], _, _, _, _, h, _, _, _, _ => by cases h
  | .cons s fs, f :: l, o, m, cs, xs, ⟨ho, hc, hs, hfs⟩, hB, hi, hx, hl => by
    have hl : o + (s.cells + fs.cells) = cs.length := hl
    cases xs with
    | nil => simp at hx
    | cons x xs =>
      have h1 := hi 0 f rfl
      rw [ho, hc] at h1
      simp only [List.map_cons, Rows.uptoBulkAll] at hB
      obtain ⟨a, ha, hab⟩ := Sh.open_ s f.type m _ x hs (hB.imp (fun h => by have h : (s.plain && fs.plain) = true := h; simp at h; exact h.1) fun h => by omega) h1
      obtain ⟨b, hb, hbb⟩ := Fs.open_ fs l (o + s.cells) m cs xs hfs (hB.imp (fun h => by have h : (s.plain && fs.plain) = true := h; simp at h; exact h.2) fun h => by omega) (fun i g hg => hi (i + 1) g hg) (by simpa using hx) (by omega)
      refine ⟨(a, b), ⟨_, _, ?_, ha, hb⟩, ?_⟩
      · rw [← List.drop_drop, List.take_append_drop]
      · show (joinP (s.enc a :: fs.encs b)).length ≤ _
        simp only [joinP, List.length_append, be8_length, List.map_cons, Rows.uptoBulkAll]
        omega
end
end

end Go.Proofs.YtjjgmkfkmckkoabGreatDoor
