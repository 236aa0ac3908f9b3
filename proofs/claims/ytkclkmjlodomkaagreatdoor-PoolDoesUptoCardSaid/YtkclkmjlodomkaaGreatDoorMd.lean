/- Texts joined: CfV CfZ CgQ PmH PmI MpL PmJ PmK PmL PmM PmN PmO PmP PmQ PmR PmU PmV PmS. -/
import Derived.Test.YtkclkmjlodomkaaGreatDoorMc
import Derived.Test.YtkclkmjlodomkaaGreatDoorMb
import Derived.Test.YtkclkmjlodomkaaGreatDoorMa
import Derived.Maps.OwnSet
import Derived.Maps.Views
import Derived.Lib.AtoiErrMem
import Derived.BigQuiet
namespace Go.Proofs.YtkclkmjlodomkaaGreatDoor
open List (setIfInBounds_toArray getElem_toArray getElem_cons_succ getElem_cons_zero set_cons_succ set_cons_zero filterMap_cons filterMap_nil getElem?_toArray getElem?_cons_succ getElem?_cons_zero)
section
open Go.RowKit Go.Maps
attribute [-simp] Tryz.isAgg37 Tryz.typeInfo37 Tryz.isAgg92 Tryz.typeInfo92
theorem size_allFact_any : (Tryz.prog.info? 92).map (·.size) = some 73 := by kernel_rfl
theorem sizes_allFact_any : (Tryz.prog.info? 92).map (fun i => (i.zero.map (fun z => z.cells.size), i.size)) = some (some 73, 73) := by kernel_rfl
theorem info_allFact_any : (Tryz.prog.info? 92).map (fun i => (i.zero, i.size, i.bytes)) = some (some (.agg (([.slice none 0 0] ++ ([.int .i64 0, .int .i64 0, .int .i64 0] ++ List.replicate 32 (.int .u8 0) ++ [.slice none 0 0, .slice none 0 0]) ++ List.replicate 32 (.int .u8 0) ++ [.slice none 0 0, .bool false, .slice none 0 0] : List Value)).toArray), 73, 216) := by kernel_rfl
set_option maxHeartbeats 8000000 in
set_option maxRecDepth 100000 in
theorem allFact_any (w : World) {X : Nat → Prop} {E g : Nat} {sent : Value} {x : List UInt8} {rows : List (List UInt8)} {bad : Bool} (h : Pt w X E g sent (x :: rows) bad) (hxl : x.length ≤ 262144) :
    Calls Tryz.prog 81 #[.pointer (some ⟨g, 0, none⟩), .func (Fn.func 82) #[] #[]] w (Took (.list tFact) w X E g sent x rows bad) := by
  have hgx := h.2.2.1
  have hgw := h.lt
  have hEw := h.2.2.2.2.1
  have HGX := Lib.hid hgx
  have HX1 := Lib.hid (show ∀ b, X b → b < w.heap.size from h.2.2.2.1)
  have H := Lib.hid (next_any _ h)
  clear h hgx
  go_enter Tryz.func81, Tryz.ntmps81
  go_wp2_with fail
  refine H.out.mono ?_
  rintro e w1 ⟨v1, rfl, hb1, hc1, hp1⟩
  have HSP := Lib.hid (split_any w1 hb1 (by omega))
  have hz1 := hc1.size
  have HP1 := Lib.hid hp1
  have HC1 := Lib.hid hc1
  obtain ⟨A1, c1, rfl⟩ := hb1.form
  clear hb1 hp1 hc1 H
  go_wp2_with fail
  refine HSP.out.mono ?_
  rintro e w2 ⟨hb2, ⟨hno, rfl⟩ | ⟨v2, l, hsp, rfl, hbss⟩⟩
  · have HNO := Lib.hid hno; clear hno
    have hp2 := HP1.out.below hb2
    obtain ⟨⟨sa, rfl⟩, hgl⟩ := hp2.1
    have hgl : w2.cell? ⟨gF, 0, none⟩ = some _ := hgl
    unfold gF at hgl
    have hlx := hp2.2.2.2.1
    have hE2 := hp2.2.2.2.2.1
    have hal := (Below.refl w2.heap.size w2).alloc (Nat.le_refl _) (.cells #[.string ⟨#[97, 32, 108, 105, 115, 116]⟩, .iface 205 (.pointer (some sa))] 133)
    have HBAD := Lib.hid (bad_any _ (hp2.below hal) (Chain.fresh _ ⟨fun h => absurd (hlx _ h) (Nat.lt_irrefl _), hE2⟩))
    have HC2 := Lib.hid (HC1.out.trans (Chg.of_below hb2 fun k => k = g) fun b h => .inl h)
    clear hp2 hlx hal hE2 hb2 HP1 HC1 HSP
    go_wp2_with fail
    refine HBAD.out.mono ?_
    rintro e w3 ⟨rfl, hc3, hp3⟩
    have HP3 := Lib.hid hp3
    have HC3 := Lib.hid hc3
    clear hp3 hc3 HBAD
    go_wp2_with fail
    refine wp_loop_rounds 1 ?_
    rw [rounds_succ]
    go_wp2
    go_ret
    exact ⟨[.slice none 0 0], true, rfl, (HC2.out.alloc _).trans HC3.out fun b h => .inl h, HP3.out, SOut.noList HNO.out rfl⟩
  · have hrl : ∀ y ∈ l, y.length ≤ 262144 := fun y hy => Nat.le_trans (joinP_mem_le hsp y hy) hxl
    have hll : l.length ≤ 32768 := by
      have h1 := splitB_back hsp
      have h2 := joinP_count l
      rw [← h1, joinB_length] at hxl
      omega
    obtain ⟨A2, c2, rfl⟩ := hbss.form
    have HROWS := Lib.hid (((hbss.read fun y hy => by have := hrl y hy; omega).lt_ (T := fun b => w1.heap.size ≤ b) fun b h => h.elim id id).subs (T := fun b => b ≠ g) fun b hb _ => by have := hb.1; omega)
    have HP2 := Lib.hid (HP1.out.below hb2)
    have HC2 := Lib.hid (HC1.out.trans (Chg.of_below hb2 fun k => k = g) fun b h => .inl h)
    have HSPL := Lib.hid hsp
    have HRL := Lib.hid hrl
    have hwS : w.heap.size ≤ w2.heap.size := Nat.le_trans hz1 hb2.size
    clear hbss hsp hrl hb2 HP1 HC1 HSP hxl
    go_wp2_with fail
    go_loopw [7, 28] (fun o i wr => ∃ k : Nat, k ≤ l.length ∧ i = .int .i64 k ∧ AllI 92 73 tFact w w2 X E g sent rows bad l o k wr) (fun _ i _ => l.length - (intOf i).toNat)
    case atStart => exact ⟨0, Nat.zero_le _, rfl, AllI.start HP2.out⟩
    case round =>
      obtain ⟨k, hk, rfl, hI⟩ := hrel
      by_cases hlt : k < l.length
      · obtain ⟨css, bk, hown, hob, hlo, hpt, hch⟩ := hI
        obtain ⟨ba, oa, ua, rfl, hca, hua, _, hSb⟩ := (HROWS.out.chg hch (fun b hb h => hb h)).at_ hlt
        have htk : l.take (k + 1) = l.take k ++ [l[k]] := List.take_succ_eq_append_getElem hlt
        have hyl := HRL.out l[k] (List.getElem_mem hlt)
        obtain ⟨y, hy⟩ : ∃ y, y = l[k] := ⟨_, rfl⟩
        rw [← hy] at hua htk hyl
        have HR := Lib.hid (readFact_any wr hua hyl hpt.1)
        obtain ⟨Ay, cy, rfl⟩ := hua.form
        obtain ⟨Ao, co, rfl⟩ := hown.form
        have HOWN := Lib.hid hown
        have HOB := Lib.hid hob
        have HLO := Lib.hid hlo
        have HPT := Lib.hid hpt
        have HCH := Lib.hid hch
        have HTK := Lib.hid htk
        have H63 := Lib.hid (show k + 1 ≤ maxLen ∧ (k + 1) * 216 ≤ 140737488355328 from ⟨by simp only [maxLen]; omega, by omega⟩)
        have hzr := hch.size
        clear hown hob hlo hpt hch htk hy hua hyl
        go_wp2_with fail
        refine HR.out.mono ?_
        rintro e w3 hro
        obtain ⟨C, err, bd, rfl, h1, hl, hb3, he, ho⟩ := hro.agg (fun _ => rfl)
        have hl : C.length = 73 := hl
        have HL := Lib.hid hl
        have HI := Lib.hid (show (Tryz.prog.info? 92).map (·.size) = some C.length from by rw [hl]; exact size_allFact_any)
        have HI2 := Lib.hid (show (Tryz.prog.info? 92).map (fun i => (i.zero.map (fun z => z.cells.size), i.size)) = some (some C.length, C.length) from by rw [hl]; exact sizes_allFact_any)
        have H1 := Lib.hid h1
        clear h1 hl
        have HB3 := Lib.hid hb3
        have HP3 := Lib.hid (HPT.out.below hb3)
        have HO := Lib.hid (ho.or_ bk)
        clear hro hb3 ho HR
        rcases he with ⟨rfl, rfl⟩ | ⟨rfl, hcn⟩
        · skip
          go_wp2_with (first
            | (refine wpList_store_blk (cs0 := ([.slice none 0 0] ++ ([.int .i64 0, .int .i64 0, .int .i64 0] ++ List.replicate 32 (.int .u8 0) ++ [.slice none 0 0, .slice none 0 0]) ++ List.replicate 32 (.int .u8 0) ++ [.slice none 0 0, .bool false, .slice none 0 0] : List Value)) (cs := C) rfl 92 _ _ rfl (Blk.new w3 _ _) rfl rfl (by rw [HL.out]; rfl) HI.out H1.out ?_; intro w4 hb4 hc4; have HB4 := Lib.hid hb4; have HC4 := Lib.hid (show Chg (fun _ => False) w3 w4 from ((Chg.refl _ w3).alloc _).trans hc4 fun b h => .inr (Nat.le_of_eq h.symm)); clear hb4 hc4; have HO2 := Lib.hid (show ∀ ob, Own (w4.alloc ob) 92 73 (.slice Ao k co) k css.flatten from fun ob => own_keep HOWN.out fun b hb => (by have h1 := own_lt HOWN.out hb; have h2 := HOB.out b hb; have h3 := HB3.out.size; exact (Below.heap_alloc w4 ob b (ltle (ltle h1 h3) HC4.out.size)).trans ((HC4.out.block b (ltle h1 h3) id).trans (HB3.out.block b h1)))); have HS2 := Lib.hid (Cs.of_new w4 92 (size := 73) 1 (cs := C) (by rw [HL.out]) (by simp only [maxLen]; decide)))
            | (refine wpList_load_blk' rfl 92 _ rfl HB4.out rfl Tryz.underlying92 rfl HI.out ?_)
            | (refine wpList_row1 rfl 38 92 _ rfl Tryz.underlying38 (.agg C.toArray) rfl C rfl HI2.out (by rw [HL.out]; decide) (by rw [HL.out]; decide) ?_)
            | (at_builtin; refine wpList_app _ rfl _ _ _ rfl Tryz.underlying38 info_allFact_any rfl (by decide) (HO2.out _) rfl HS2.out rfl H1.out H63.out.1 H63.out.2 ?_; intro v6 w6 ho6 hc6 hnil6 hat6; clear hnil6; have HO6 := Lib.hid ho6; clear ho6; have HC6 := Lib.hid hc6; clear hc6; have HAT6 := Lib.hid hat6; clear hat6))
          refine ⟨⟨k + 1, by omega, by push_cast; rfl, AllI.step hgw hwS HOWN.out HOB.out HLO.out HCH.out HB3.out (by have := HO.out; rw [Bool.or_false] at this; exact this) (HC4.out.mono (M' := fun b => b = g) fun _ h => h.elim) (HP3.out.chg HC4.out fun b h => h.elim) HTK.out HO6.out HC6.out HAT6.out⟩, ?_⟩
          simp only [intOf]; omega
        · skip
          obtain ⟨gw, rfl⟩ := hcn.form
          have HCN := Lib.hid hcn; clear hcn
          go_wp2_with (refine wpList_store_blk (cs0 := ([.slice none 0 0] ++ ([.int .i64 0, .int .i64 0, .int .i64 0] ++ List.replicate 32 (.int .u8 0) ++ [.slice none 0 0, .slice none 0 0]) ++ List.replicate 32 (.int .u8 0) ++ [.slice none 0 0, .bool false, .slice none 0 0] : List Value)) (cs := C) rfl 92 _ _ rfl (Blk.new w3 _ _) rfl rfl (by rw [HL.out]; rfl) HI.out H1.out ?_; intro w4 hb4 hc4; have HB4 := Lib.hid hb4; have HC4 := Lib.hid (show Chg (fun _ => False) w3 w4 from ((Chg.refl _ w3).alloc _).trans hc4 fun b h => .inr (Nat.le_of_eq h.symm)); clear hb4 hc4)
          have hp4 := (HP3.out.chg HC4.out fun b h => h.elim)
          have hlx := hp4.2.2.2.1
          have hE4 := hp4.2.2.2.2.1
          have hz4 := HC4.out.size
          have hz3 := HB3.out.size
          have hal := (Below.refl w4.heap.size w4).alloc (Nat.le_refl _) (.cells #[.string ⟨#[105, 110, 32, 97, 32, 108, 105, 115, 116]⟩, .iface 129 (.pointer (some ⟨gw, 0, none⟩))] 133)
          have hcn4 := (HCN.out.to (w' := w4) (S' := fun b => ¬ (X b ∨ (Value.slice Ao k co).ownBlock = some b) ∧ E ≤ b) (fun b hb hlt => ⟨ltle hlt HC4.out.size, HC4.out.block b hlt id⟩) fun b hb hlt => ⟨fun h => h.elim (fun h => by have := HX1.out b h; omega) fun h => by have := own_lt HOWN.out h; omega, by omega⟩)
          have HBAD := Lib.hid (bad_any _ (hp4.below hal) (hcn4.freshMore _ ⟨fun h => absurd (hlx _ h) (Nat.lt_irrefl _), hE4⟩))
          clear hp4 hlx hal hcn4 hE4
          refine HBAD.out.mono ?_
          rintro e w5 ⟨rfl, hc5, hp5⟩
          have HP5 := Lib.hid hp5
          have HC35 := Lib.hid (show Chg (fun b => b = g) w3 w5 from ((HC4.out.mono (M' := fun b => b = g) fun _ h => h.elim).alloc _).trans hc5 fun b h => .inl h)
          have HB5 := Lib.hid ((HB4.out.alloc _).chg hc5 (fun h => by omega))
          clear hc5 hp5 HBAD
          have HO2 := Lib.hid (show ∀ ob, Own (w5.alloc ob) 92 73 (.slice Ao k co) k css.flatten from fun ob => own_keep HOWN.out fun b hb => (by have h1 := own_lt HOWN.out hb; have h2 := HOB.out b hb; have h3 := HB3.out.size; exact (Below.heap_alloc w5 ob b (ltle (ltle h1 h3) HC35.out.size)).trans ((HC35.out.block b (ltle h1 h3) (fun e => by omega)).trans (HB3.out.block b h1))))
          have HS2 := Lib.hid (Cs.of_new w5 92 (size := 73) 1 (cs := C) (by rw [HL.out]) (by simp only [maxLen]; decide))
          go_wp2_with (first
            | (refine wpList_load_blk' rfl 92 _ rfl HB5.out rfl Tryz.underlying92 rfl HI.out ?_)
            | (refine wpList_row1 rfl 38 92 _ rfl Tryz.underlying38 (.agg C.toArray) rfl C rfl HI2.out (by rw [HL.out]; decide) (by rw [HL.out]; decide) ?_)
            | (at_builtin; refine wpList_app _ rfl _ _ _ rfl Tryz.underlying38 info_allFact_any rfl (by decide) (HO2.out _) rfl HS2.out rfl H1.out H63.out.1 H63.out.2 ?_; intro v6 w6 ho6 hc6 hnil6 hat6; clear hnil6; have HO6 := Lib.hid ho6; clear ho6; have HC6 := Lib.hid hc6; clear hc6; have HAT6 := Lib.hid hat6; clear hat6))
          refine ⟨⟨k + 1, by omega, by push_cast; rfl, AllI.step hgw hwS HOWN.out HOB.out HLO.out HCH.out HB3.out (by have := HO.out; rw [Bool.or_true] at this; exact this) HC35.out HP5.out HTK.out HO6.out HC6.out HAT6.out⟩, ?_⟩
          simp only [intOf]; omega
      · have hk' : k = l.length := by omega
        subst hk'
        have HI := Lib.hid hI
        clear hI
        go_wp2_with fail
        go_ret
        exact HI.out.out rfl HSPL.out (fun _ => rfl) HGX.out HC2.out
end
section
open Go.RowKit Go.Maps
attribute [-simp] Tryz.isAgg37 Tryz.typeInfo37 Tryz.isAgg40 Tryz.typeInfo40
theorem info_readTx : (Tryz.prog.info? 40).map (fun i => (i.zero.map (fun z => z.cells.size))) = some (some 41) := by kernel_rfl
theorem size_readTx : (Tryz.prog.info? 40).map (·.size) = some 41 := by kernel_rfl
theorem places_readTx : ((match Tryz.prog.underlying 40 with | some (.struct fields) => fields.toList.mapM (fun f => (Tryz.prog.info? f.type).map fun i => (f.offset, i.size)) | _ => none)) = some [(0, 1), (1, 1), (2, 1), (3, 1), (4, 1), (5, 1), (6, 1), (7, 32), (39, 1), (40, 1)] := by kernel_rfl
set_option maxHeartbeats 4000000 in
set_option maxRecDepth 100000 in
theorem readTx_any (w : World) {S : Nat → Prop} {v sent : Value} {bs : List UInt8} (h : Bs w S v bs) (hlen : bs.length ≤ 262144) (hg : Gl w sent) :
    Calls Tryz.prog 68 #[v] w (ReadOut (.tup (.cons i64 (.cons u64 (.cons u64 (.cons u64 (.cons u64 (.cons i64 (.cons i64 (.cons .dig (.cons i64 (.cons (.list tFact) .nil))))))))))) w sent bs) := by
  have hal := (Below.refl w.heap.size w).alloc (Nat.le_refl _) (.cells (([.int .i64 0, .int .u64 0, .int .u64 0, .int .u64 0, .int .u64 0, .int .i64 0, .int .i64 0] ++ List.replicate 32 (.int .u8 0) ++ [.int .i64 0, .slice none 0 0] : List Value)).toArray 40)
  have HS := Lib.hid (psplit_any _ (h.below hal) (by omega) (hg.below hal) 10 (by omega) ⟨#[97, 32, 116, 114, 97, 110, 115, 97, 99, 116, 105, 111, 110]⟩)
  have HN := Lib.hid (Blk.new w 40 (([.int .i64 0, .int .u64 0, .int .u64 0, .int .u64 0, .int .u64 0, .int .i64 0, .int .i64 0] ++ List.replicate 32 (.int .u8 0) ++ [.int .i64 0, .slice none 0 0] : List Value)).toArray)
  have HAL := Lib.hid hal
  obtain ⟨A, cap, rfl⟩ := h.form
  clear h hg hal
  go_enter Tryz.func68, Tryz.ntmps68
  go_wp2_with fail
  refine HS.out.mono ?_
  rintro e w1 ⟨g, rows, bad, rfl, hgw, hb1, hp, hn, hrl, hs⟩
  obtain ⟨r0, r1, r2, r3, r4, r5, r6, r7, r8, r9, rfl⟩ : ∃ r0 r1 r2 r3 r4 r5 r6 r7 r8 r9, rows = [r0, r1, r2, r3, r4, r5, r6, r7, r8, r9] := by
    match rows, hn with
    | [r0, r1, r2, r3, r4, r5, r6, r7, r8, r9], _ => exact ⟨r0, r1, r2, r3, r4, r5, r6, r7, r8, r9, rfl⟩
  have HK := Lib.hid (HN.out.below hb1 (by simp))
  have hgw' : w.heap.size + 1 ≤ g := by simpa using hgw
  have hz1 : w.heap.size + 1 ≤ w1.heap.size := by simpa using hb1.size
  have HB1 := Lib.hid (HAL.out.trans (hb1.mono (by simp)))
  have HSS := Lib.hid hs
  have HRL := Lib.hid (show ∀ x ∈ [r0, r1, r2, r3, r4, r5, r6, r7, r8, r9], x.length ≤ 262144 from fun x hx => Nat.le_trans (hrl x hx) hlen)
  have hE : Pt w1 (fun b => b = g) (w.heap.size + 1) g sent [r0, r1, r2, r3, r4, r5, r6, r7, r8, r9] bad := by simpa using hp
  clear HS HN HAL hgw hb1 hs hn hp hrl hlen
  have hp0 := hE
  clear hE
  go_wp2_with fail
  refine (int_any _ hp0).mono ?_
  rintro e w2 ht
  obtain ⟨y0, b0, rfl, h10, hc0, hp1, ho0⟩ := ht.one (fun _ => rfl) rfl
  have hgl0 := hp0.lt
  have hz2 := Nat.le_trans hz1 hc0.size
  have HO0 := Lib.hid ho0
  have HC0 := Lib.hid hc0
  have H10 := Lib.hid h10
  clear ht ho0 hc0 h10 hp0
  go_wp2_with fail
  refine (uTook_any _ hp1).mono ?_
  rintro e w3 ht
  obtain ⟨y1, b1, rfl, h11, hc1, hp2, ho1⟩ := ht.one (fun _ => rfl) rfl
  have hgl1 := hp1.lt
  have hz3 := Nat.le_trans hz2 hc1.size
  have HO1 := Lib.hid ho1
  have HC1 := Lib.hid hc1
  have H11 := Lib.hid h11
  clear ht ho1 hc1 h11 hp1
  go_wp2_with fail
  refine (uTook_any _ hp2).mono ?_
  rintro e w4 ht
  obtain ⟨y2, b2, rfl, h12, hc2, hp3, ho2⟩ := ht.one (fun _ => rfl) rfl
  have hgl2 := hp2.lt
  have hz4 := Nat.le_trans hz3 hc2.size
  have HO2 := Lib.hid ho2
  have HC2 := Lib.hid hc2
  have H12 := Lib.hid h12
  clear ht ho2 hc2 h12 hp2
  go_wp2_with fail
  refine (uTook_any _ hp3).mono ?_
  rintro e w5 ht
  obtain ⟨y3, b3, rfl, h13, hc3, hp4, ho3⟩ := ht.one (fun _ => rfl) rfl
  have hgl3 := hp3.lt
  have hz5 := Nat.le_trans hz4 hc3.size
  have HO3 := Lib.hid ho3
  have HC3 := Lib.hid hc3
  have H13 := Lib.hid h13
  clear ht ho3 hc3 h13 hp3
  go_wp2_with fail
  refine (uTook_any _ hp4).mono ?_
  rintro e w6 ht
  obtain ⟨y4, b4, rfl, h14, hc4, hp5, ho4⟩ := ht.one (fun _ => rfl) rfl
  have hgl4 := hp4.lt
  have hz6 := Nat.le_trans hz5 hc4.size
  have HO4 := Lib.hid ho4
  have HC4 := Lib.hid hc4
  have H14 := Lib.hid h14
  clear ht ho4 hc4 h14 hp4
  go_wp2_with fail
  refine (int_any _ hp5).mono ?_
  rintro e w7 ht
  obtain ⟨y5, b5, rfl, h15, hc5, hp6, ho5⟩ := ht.one (fun _ => rfl) rfl
  have hgl5 := hp5.lt
  have hz7 := Nat.le_trans hz6 hc5.size
  have HO5 := Lib.hid ho5
  have HC5 := Lib.hid hc5
  have H15 := Lib.hid h15
  clear ht ho5 hc5 h15 hp5
  go_wp2_with fail
  refine (n_any _ hp6).mono ?_
  rintro e w8 ht
  obtain ⟨y6, b6, rfl, h16, hc6, hp7, ho6⟩ := ht.one (fun _ => rfl) rfl
  have hgl6 := hp6.lt
  have hz8 := Nat.le_trans hz7 hc6.size
  have HO6 := Lib.hid ho6
  have HC6 := Lib.hid hc6
  have H16 := Lib.hid h16
  clear ht ho6 hc6 h16 hp6
  go_wp2_with fail
  refine (pdigest_any _ hp7).mono ?_
  rintro e w9 ht
  obtain ⟨c7, b7, rfl, h17, hl7, hc7, hp8, ho7⟩ := ht.agg (fun _ => rfl)
  have hl7 : c7.length = 32 := hl7
  have hgl7 := hp7.lt
  have hz9 := Nat.le_trans hz8 hc7.size
  have HO7 := Lib.hid ho7
  have HC7 := Lib.hid hc7
  have H17 := Lib.hid h17
  have HL7 := Lib.hid hl7
  clear hl7
  clear ht ho7 hc7 h17 hp7
  go_wp2_with fail
  refine (int_any _ hp8).mono ?_
  rintro e w10 ht
  obtain ⟨y8, b8, rfl, h18, hc8, hp9, ho8⟩ := ht.one (fun _ => rfl) rfl
  have hgl8 := hp8.lt
  have hz10 := Nat.le_trans hz9 hc8.size
  have HO8 := Lib.hid ho8
  have HC8 := Lib.hid hc8
  have H18 := Lib.hid h18
  clear ht ho8 hc8 h18 hp8
  go_wp2_with fail
  refine (allFact_any _ hp9 (HRL.out _ (by simp))).mono ?_
  rintro e w11 ht
  obtain ⟨y9, b9, rfl, h19, hc9, hp10, ho9⟩ := ht.one (fun _ => rfl) rfl
  have hgl9 := hp9.lt
  have hz11 := Nat.le_trans hz10 hc9.size
  have HO9 := Lib.hid ho9
  have HC9 := Lib.hid hc9
  have H19 := Lib.hid h19
  clear ht ho9 hc9 h19 hp9
  have hbu := run_struct (P := Tryz.prog) (vs := [y0, y1, y2, y3, y4, y5, y6, .agg c7.toArray, y8, y9]) (cs := [[y0], [y1], [y2], [y3], [y4], [y5], [y6], c7, [y8], [y9]]) info_readTx places_readTx ⟨cells_one H10.out, cells_one H11.out, cells_one H12.out, cells_one H13.out, cells_one H14.out, cells_one H15.out, cells_one H16.out, rfl, cells_one H18.out, cells_one H19.out, trivial⟩ (by simp [PlaceOk, HL7.out]) (by simp [HL7.out]) #[(0, y0), (1, y1), (2, y2), (3, y3), (4, y4), (5, y5), (6, y6), (7, .agg c7.toArray), (8, y8), (9, y9)] rfl
  have hone : ∀ v ∈ [[y0], [y1], [y2], [y3], [y4], [y5], [y6], c7, [y8], [y9]].flatten, v.oneCell' = true := by
    intro v hv
    simp only [List.flatten_cons, List.flatten_nil, List.mem_append, List.mem_singleton, List.not_mem_nil, or_false] at hv
    rcases hv with rfl | rfl | rfl | rfl | rfl | rfl | rfl | hv | rfl | rfl
    · exact H10.out
    · exact H11.out
    · exact H12.out
    · exact H13.out
    · exact H14.out
    · exact H15.out
    · exact H16.out
    · exact H17.out v hv
    · exact H18.out
    · exact H19.out
  have HOUT := Lib.hid (show Fs.Out (.cons i64 (.cons u64 (.cons u64 (.cons u64 (.cons u64 (.cons i64 (.cons i64 (.cons .dig (.cons i64 (.cons (.list tFact) .nil)))))))))) w11 (Nw (w.heap.size + 1) w11) [r0, r1, r2, r3, r4, r5, r6, r7, r8, r9] [[y0], [y1], [y2], [y3], [y4], [y5], [y6], c7, [y8], [y9]].flatten bad b9 from by
    have := Fs.Out.step HO0.out (Fs.Out.step HO1.out (Fs.Out.step HO2.out (Fs.Out.step HO3.out (Fs.Out.step HO4.out (Fs.Out.step HO5.out (Fs.Out.step HO6.out (Fs.Out.step HO7.out (Fs.Out.step HO8.out (Fs.Out.step HO9.out (Fs.Out.nil_ w11 _ _) (Chg.refl _ _) hgl9 hz10) HC9.out hgl8 hz9) (HC8.out.trans HC9.out fun b h => .inl h) hgl7 hz8) ((HC7.out.trans HC8.out fun b h => .inl h).trans HC9.out fun b h => .inl h) hgl6 hz7) (((HC6.out.trans HC7.out fun b h => .inl h).trans HC8.out fun b h => .inl h).trans HC9.out fun b h => .inl h) hgl5 hz6) ((((HC5.out.trans HC6.out fun b h => .inl h).trans HC7.out fun b h => .inl h).trans HC8.out fun b h => .inl h).trans HC9.out fun b h => .inl h) hgl4 hz5) (((((HC4.out.trans HC5.out fun b h => .inl h).trans HC6.out fun b h => .inl h).trans HC7.out fun b h => .inl h).trans HC8.out fun b h => .inl h).trans HC9.out fun b h => .inl h) hgl3 hz4) ((((((HC3.out.trans HC4.out fun b h => .inl h).trans HC5.out fun b h => .inl h).trans HC6.out fun b h => .inl h).trans HC7.out fun b h => .inl h).trans HC8.out fun b h => .inl h).trans HC9.out fun b h => .inl h) hgl2 hz3) (((((((HC2.out.trans HC3.out fun b h => .inl h).trans HC4.out fun b h => .inl h).trans HC5.out fun b h => .inl h).trans HC6.out fun b h => .inl h).trans HC7.out fun b h => .inl h).trans HC8.out fun b h => .inl h).trans HC9.out fun b h => .inl h) hgl1 hz2) ((((((((HC1.out.trans HC2.out fun b h => .inl h).trans HC3.out fun b h => .inl h).trans HC4.out fun b h => .inl h).trans HC5.out fun b h => .inl h).trans HC6.out fun b h => .inl h).trans HC7.out fun b h => .inl h).trans HC8.out fun b h => .inl h).trans HC9.out fun b h => .inl h) hgl0 hz1
    simpa using this)
  have HCA := Lib.hid (show Chg (fun k => k = g) w1 w11 from (((((((((HC0.out.trans HC1.out fun b h => .inl h).trans HC2.out fun b h => .inl h).trans HC3.out fun b h => .inl h).trans HC4.out fun b h => .inl h).trans HC5.out fun b h => .inl h).trans HC6.out fun b h => .inl h).trans HC7.out fun b h => .inl h).trans HC8.out fun b h => .inl h).trans HC9.out fun b h => .inl h))
  have hcl : [[y0], [y1], [y2], [y3], [y4], [y5], [y6], c7, [y8], [y9]].flatten.length = 41 := by simp [HL7.out]
  obtain ⟨C, hC⟩ : ∃ C, C = [[y0], [y1], [y2], [y3], [y4], [y5], [y6], c7, [y8], [y9]].flatten := ⟨_, rfl⟩
  rw [← hC] at hbu hone hcl HOUT
  have HBU := Lib.hid hbu
  have HONE := Lib.hid hone
  have HCL := Lib.hid hcl
  have HI := Lib.hid (show (Tryz.prog.info? 40).map (·.size) = some C.length from by rw [hcl]; exact size_readTx)
  have HK2 := Lib.hid (HK.out.chg HCA.out (show ¬ w.heap.size = g from by omega))
  clear hbu hone hcl hC HK HO0 HC0 H10 HO1 HC1 H11 HO2 HC2 H12 HO3 HC3 H13 HO4 HC4 H14 HO5 HC5 H15 HO6 HC6 H16 HO7 HC7 H17 HO8 HC8 H18 HO9 HC9 H19 HL7
  have HP := Lib.hid hp10
  have hgX := hp10.lt
  clear hp10
  have hbu := HBU.out w11
  have HX := Lib.hid (HP.out.parts)
  go_wp2_with (first | (refine wpList_build_ rfl 40 _ rfl #[(0, y0), (1, y1), (2, y2), (3, y3), (4, y4), (5, y5), (6, y6), (7, .agg c7.toArray), (8, y8), (9, y9)] (by simp [Act.eval]) _ hbu ?_) | (refine wpList_store_blk (cs0 := ([.int .i64 0, .int .u64 0, .int .u64 0, .int .u64 0, .int .u64 0, .int .i64 0, .int .i64 0] ++ List.replicate 32 (.int .u8 0) ++ [.int .i64 0, .slice none 0 0] : List Value)) (cs := C) rfl 40 _ _ rfl (Blk.new w11 _ _) rfl rfl (by rw [HCL.out]; rfl) HI.out HONE.out ?_; intro wx hbx hcx; have HBX := Lib.hid hbx; have HCX := Lib.hid hcx; clear hbx hcx))
  obtain ⟨vy, ey, hblk, herr⟩ := HX.out
  have HCX' := Lib.hid (show Chg (fun _ => False) w11 wx from ((Chg.refl _ w11).alloc _).trans HCX.out fun b h => .inr (Nat.le_of_eq h.symm))
  have HGX := Lib.hid (hblk.chg HCX'.out id)
  have HKX := Lib.hid (HK2.out.chg HCX'.out id)
  have HE := Lib.hid herr
  clear hbu hblk herr HX HBU
  refine wp_region_hoist [0, 1, 2, 3, 4] [5] [6] (fun w' => Blk w' w11.heap.size 40 C.toArray ∧ Blk w' g 144 #[vy, ey])
    (by kernel_rfl) (by kernel_rfl) (by kernel_rfl) (by kernel_rfl) (by kernel_rfl) (by kernel_rfl) ⟨HBX.out.drew, HGX.out.drew⟩ ?_
  (refine HoistK.load (by rfl) (by kernel_rfl) 40 _ rfl w11.heap.size 0 rfl C _ (fun w' hw => hw.1.range) Tryz.underlying40 rfl HI.out ?_; simp only [Act.put, setIfInBounds_toArray, getElem_toArray, getElem_cons_zero, set_cons_succ, set_cons_zero])
  iterate 3 (refine HoistK.yes (by rfl) (by kernel_rfl) ⟨?_, fun w' hSw => ?_, ?_⟩; rotate_left; (· go_simp; try with_reducible rfl); simp only [Act.put, setIfInBounds_toArray, getElem_toArray, getElem_cons_succ, getElem_cons_zero, set_cons_succ, set_cons_zero])
  (refine HoistK.yes (by rfl) (by kernel_rfl) ⟨?_, fun w' hSw => ?_, ?_⟩; rotate_left; (· have hcc := hSw.2.cell; go_simp; try with_reducible rfl); simp only [Act.put, setIfInBounds_toArray, getElem_toArray, getElem_cons_succ, getElem_cons_zero, set_cons_succ, set_cons_zero])
  refine HoistK.nil_ ?_
  simp only [opsAt, filterMap_cons, filterMap_nil, getElem?_toArray, getElem?_cons_succ, getElem?_cons_zero]
  refine Effects.cons_ fun _ hQ1 => ?_
  go_wp2_with (refine wpList_store_blk (cs0 := ([.int .i64 0, .int .u64 0, .int .u64 0, .int .u64 0, .int .u64 0, .int .i64 0, .int .i64 0] ++ List.replicate 32 (.int .u8 0) ++ [.int .i64 0, .slice none 0 0] : List Value)) (cs := C) rfl 40 _ _ rfl HKX.out.drew rfl rfl (by rw [HCL.out]; rfl) HI.out HONE.out ?_; intro wy hby hcy; have HBY := Lib.hid hby; have HCY := Lib.hid hcy; clear hby hcy)
  refine hQ1 _ _ ⟨HBX.out.drew.chg HCY.out (fun h => by omega), HGX.out.drew.chg HCY.out (fun h => by omega)⟩ (Effects.nil_ fun _ hQ2 => ?_)
  go_wp2
  have hld := run_loadVar_mid (P := Tryz.prog) wy w.heap.size 0 40 C _ HBY.out.range Tryz.underlying40 rfl HI.out
  refine bodyPost_ret (v := .tuple #[.agg C.toArray, ey]) (by simp [results, Tryz.results68, asAddr, hld]) rfl ?_
  have hcf : Chg (fun b => b = w.heap.size) w11 wy := ((HCX'.out.mono fun _ h => h.elim).drew).trans HCY.out fun b h => .inl h
  exact ReadOut.mk (n := 10) HOUT.out HSS.out rfl HE.out (HB1.out.trans (HCA.out.below HB1.out.size fun b h => by omega)) hcf
end
section
open Go.RowKit Go.Maps
attribute [-simp] Tryz.isAgg37 Tryz.typeInfo37 Tryz.isAgg40 Tryz.typeInfo40
def zFTx : List Value := ([.int .i64 0, .int .u64 0, .int .u64 0, .int .u64 0, .int .u64 0, .int .i64 0, .int .i64 0] ++ List.replicate 32 (.int .u8 0) ++ [.int .i64 0, .slice none 0 0] : List Value)
set_option maxRecDepth 100000 in
theorem one_faceTx : ∀ v ∈ zFTx, v.oneCell' = true := by decide
set_option maxRecDepth 100000 in
theorem len_faceTx : zFTx.length = 41 := by decide
theorem size_faceTx : (Tryz.prog.info? 40).map (·.size) = some zFTx.length := by kernel_rfl
set_option maxHeartbeats 8000000 in
set_option maxRecDepth 100000 in
theorem faceTx_any (w : World) {S : Nat → Prop} {v sent : Value} {bs : List UInt8} (h : Bs w S v bs) (hp : Pk w sent) :
    Calls Tryz.prog 67 #[v, .func (Fn.func 68) #[] #[]] w (FaceOutN tTx zFTx w bs) := by
  obtain ⟨A, cap, rfl⟩ := h.form
  have hal1 := (Below.refl w.heap.size w).alloc (Nat.le_refl _) (.cells (zFTx).toArray 40)
  have hal2 := hal1.alloc (by simp) (.cells (zFTx).toArray 40)
  have hr0 := (Blk.new w 40 (zFTx).toArray).alloc (.cells (zFTx).toArray 40)
  have hz0 := Blk.new (w.alloc (.cells (zFTx).toArray 40)) 40 (zFTx).toArray
  rw [show (w.alloc (.cells (zFTx).toArray 40)).heap.size = w.heap.size + 1 by simp] at hz0
  by_cases hbig : 262144 < bs.length
  · obtain ⟨sb, hsb⟩ : ∃ sb, w.cell? ⟨0, 0, none⟩ = some (.iface 205 (.pointer (some sb))) := by
      obtain ⟨_, _, b, _, _, _, _, _, _, _, _, h, _⟩ := hp
      exact ⟨b, h⟩
    have hgb : ∀ {W : World}, Below w.heap.size w W → W.cell? ⟨0, 0, none⟩ = some (.iface 205 (.pointer (some sb))) := fun hb => cell_low hsb hb
    clear h
    go_enter Tryz.func67, Tryz.ntmps67
    go_wp2_with fail
    have hb := hal2.drew
    have hr : Blk _ _ _ _ := hr0.drew
    have hz : Blk _ _ _ _ := hz0.drew
    clear hal1 hal2 hz0 hsb
    refine wp_region_hoist [0, 1, 2] [3, 4, 5] [6, 7] (fun w' => Blk w' (w.heap.size + 1) 40 (zFTx).toArray ∧ w'.cell? ⟨0, 0, none⟩ = some (.iface 205 (.pointer (some sb)))) (by kernel_rfl) (by kernel_rfl) (by kernel_rfl) (by kernel_rfl) (by kernel_rfl) (by kernel_rfl) ⟨hz, hgb hb⟩ ?_
    (refine HoistK.load (by rfl) (by kernel_rfl) 40 _ rfl (w.heap.size + 1) 0 rfl zFTx _ (fun w' hw => hw.1.range) Tryz.underlying40 rfl size_faceTx ?_; simp only [Act.put, setIfInBounds_toArray, getElem_toArray, getElem_cons_zero, set_cons_succ, set_cons_zero])
    (refine HoistK.yes (by rfl) (by kernel_rfl) ⟨?_, fun w' hSw => ?_, ?_⟩; rotate_left; (· have hcc := hSw.2; go_simp; try with_reducible rfl); simp only [Act.put, setIfInBounds_toArray, getElem_toArray, getElem_cons_succ, getElem_cons_zero, set_cons_succ, set_cons_zero])
    (refine HoistK.yes (by rfl) (by kernel_rfl) ⟨?_, fun w' hSw => ?_, ?_⟩; rotate_left; (· go_simp; try with_reducible rfl); simp only [Act.put, setIfInBounds_toArray, getElem_toArray, getElem_cons_succ, getElem_cons_zero, set_cons_succ, set_cons_zero])
    refine HoistK.nil_ ?_
    simp only [opsAt, filterMap_cons, filterMap_nil, getElem?_toArray, getElem?_cons_succ, getElem?_cons_zero]
    refine Effects.world (F := fun W => Below w.heap.size w W ∧ Blk W w.heap.size 40 (zFTx).toArray ∧ Blk W (w.heap.size + 1) 40 (zFTx).toArray) (fun W hF => ?_) ⟨hb, hr, hz⟩
    clear hb hr hz hr0
    obtain ⟨hb, hr, hz⟩ := hF
    refine Effects.cons_ fun _ hQ => ?_
    have hzl := hz.lt
    go_wp2_with fail
    have hk := Blk.new W 133 #[.string ⟨#[97, 108, 108]⟩, .iface 205 (.pointer (some sb))]
    replace hb := hb.alloc hb.size (.cells #[.string ⟨#[97, 108, 108]⟩, .iface 205 (.pointer (some sb))] 133)
    replace hr := hr.alloc (.cells #[.string ⟨#[97, 108, 108]⟩, .iface 205 (.pointer (some sb))] 133)
    replace hz := hz.alloc (.cells #[.string ⟨#[97, 108, 108]⟩, .iface 205 (.pointer (some sb))] 133)
    obtain ⟨gg, hgg⟩ : ∃ gg, gg = W.heap.size := ⟨_, rfl⟩
    have hgn : gg ≠ w.heap.size := by omega
    rw [← hgg] at hk ⊢
    have HGG := Lib.hid hgg; clear hgg
    generalize W.alloc (.cells #[.string ⟨#[97, 108, 108]⟩, .iface 205 (.pointer (some sb))] 133) = W1 at *
    refine hQ _ _ ⟨hz, hgb hb⟩ (Effects.cons_ fun _ hQ => ?_)
    go_wp2_with fail
    refine hQ _ _ ⟨hz, hgb hb⟩ (Effects.cons_ fun _ hQ => ?_)
    go_wp2_with fail
    refine (told_any (r := true) _ (hp.below hb) ⟨gg, 1, _, rfl, .more hk .last, hgb hb⟩).mono ?_
    rintro e W2 ⟨rfl, hb2⟩
    replace hb := hb.trans (hb2.mono hb.size)
    replace hr := hr.below hb2 hr.lt
    replace hz := hz.below hb2 hz.lt
    replace hk := hk.below hb2 hk.lt
    go_wp2_with fail
    refine hQ _ _ ⟨hz, hgb hb⟩ (Effects.nil_ fun _ hQ => ?_)
    refine wpList_store_blk (cs0 := zFTx) (cs := zFTx) rfl 40 _ _ rfl hr rfl rfl rfl size_faceTx one_faceTx ?_
    intro W3 hr3 hc3
    go_wp2_with fail
    replace hb := hb.trans (hc3.below hb.size fun b h => Nat.le_of_eq h.symm)
    have hld := run_loadVar_mid (P := Tryz.prog) _ w.heap.size 0 40 zFTx _ hr3.range Tryz.underlying40 rfl size_faceTx
    exact bodyPost_ret (v := .tuple #[.agg (zFTx).toArray, .int .i64 4]) (by simp [results, Tryz.results67, asAddr, hld]) rfl ⟨hb, _, 4, rfl, len_faceTx, one_faceTx, .inl ⟨hbig, rfl, rfl⟩⟩
  · have hlen : bs.length ≤ 262144 := by omega
    have HR := Lib.hid (readTx_any _ (h.below hal2) hlen (hp.1.below hal2))
    have HA := Lib.hid hal2
    have HR0 := Lib.hid hr0
    have HZ0 := Lib.hid hz0
    clear h hal1 hal2 hr0 hz0
    go_enter Tryz.func67, Tryz.ntmps67
    go_wp2_with fail
    refine HR.out.mono ?_
    rintro e w2 hro
    obtain ⟨C, err, bd, rfl, h1, hl, hb2, he, ho⟩ := hro.agg (fun _ => rfl)
    have hl : C.length = 41 := hl
    have HL := Lib.hid hl
    have HI := Lib.hid (show (Tryz.prog.info? 40).map (·.size) = some C.length from by rw [hl]; rw [size_faceTx, len_faceTx])
    have H1 := Lib.hid h1
    have HK := Lib.hid (HR0.out.below hb2 HR0.out.lt)
    have HZ := Lib.hid (HZ0.out.below hb2 HZ0.out.lt)
    have hz2 : w.heap.size + 2 ≤ w2.heap.size := by have := hb2.size; simpa using this
    have HB2 := Lib.hid (HA.out.trans (hb2.mono HA.out.size))
    have HO := Lib.hid (show SOut tTx w2 (Nw (w.heap.size + 2) w2) bs C false bd from ho.nw (fun b _ hlt => ⟨hlt, rfl⟩) (by simp))
    have he := he.to (w' := w2) (S' := fun b => w.heap.size + 2 ≤ b) (fun b _ hlt => ⟨hlt, rfl⟩) fun b hb _ => by simpa using hb
    clear hro h1 hl hb2 ho HR HA HR0 HZ0
    rcases he with ⟨rfl, rfl⟩ | ⟨rfl, hch⟩
    · go_wp2_with (first
        | (refine wpList_store_blk (cs0 := zFTx) (cs := C) rfl 40 _ _ rfl (Blk.new w2 _ _) rfl rfl (by rw [HL.out]; exact len_faceTx) HI.out H1.out ?_; intro w3 hb3 hc3; have HB3 := Lib.hid hb3
           have HC3 := Lib.hid (show Chg (fun _ => False) w2 w3 from ((Chg.refl _ w2).alloc _).trans hc3 fun b h => .inr (Nat.le_of_eq h.symm)); clear hb3 hc3
           have HK3 := Lib.hid (HK.out.chg HC3.out id))
        | (refine wpList_load_blk' rfl 40 _ rfl HB3.out rfl Tryz.underlying40 rfl HI.out ?_)
        | (refine wpList_store_blk (cs0 := zFTx) (cs := C) rfl 40 _ _ rfl HK3.out rfl rfl (by rw [HL.out]; exact len_faceTx) HI.out H1.out ?_; intro w9 hb9 hc9; have HB9 := Lib.hid hb9; have HC9 := Lib.hid hc9; clear hb9 hc9))
      have hld := run_loadVar_mid (P := Tryz.prog) w9 w.heap.size 0 40 C _ HB9.out.range Tryz.underlying40 rfl HI.out
      refine bodyPost_ret (v := .tuple #[.agg C.toArray, .int .i64 0]) (by simp [results, Tryz.results67, asAddr, hld]) rfl ?_
      obtain ⟨o1, o2, o3⟩ := HO.out
      have hc29 : Chg (fun b => b = w.heap.size) w2 w9 := (HC3.out.mono (M' := fun b => b = w.heap.size) fun _ h => h.elim).trans HC9.out fun b h => .inl h
      refine ⟨HB2.out.trans (hc29.below HB2.out.size fun b h => Nat.le_of_eq h.symm), C, 0, rfl, o1, o2, .inr ⟨hlen, .inl ?_⟩⟩
      rcases o3 with ⟨x, e1, _, e3⟩ | ⟨_, e2⟩
      · exact ⟨x, e1, rfl, Sh.rep_to (fun b hb hlt => ⟨ltle hlt hc29.size, hc29.block b hlt fun e => by have := hb.1; omega⟩) (fun b hb hlt => hb.to (by omega) (hc29.block b hlt fun e => by have := hb.1; omega)) _ _ _ e3⟩
      · cases e2
    · obtain ⟨gw, rfl⟩ := hch.form
      have HCH := Lib.hid hch; clear hch
      have hno : Sh.dec tTx bs = none := by
        obtain ⟨_, _, o3⟩ := HO.out
        rcases o3 with ⟨x, _, e2, _⟩ | ⟨e1, _⟩
        · cases e2
        · exact e1
      have HNO := Lib.hid hno; clear hno
      go_wp2_with (refine wpList_store_blk (cs0 := zFTx) (cs := C) rfl 40 _ _ rfl (Blk.new w2 _ _) rfl rfl (by rw [HL.out]; exact len_faceTx) HI.out H1.out ?_; intro w3 hb3 hc3; have HC3 := Lib.hid (show Chg (fun _ => False) w2 w3 from ((Chg.refl _ w2).alloc _).trans hc3 fun b h => .inr (Nat.le_of_eq h.symm)); clear hb3 hc3)
      have hr : Blk _ _ _ _ := (HK.out.chg HC3.out id).drew
      have hz : Blk _ _ _ _ := (HZ.out.chg HC3.out id).drew
      have hb := (HB2.out.trans (HC3.out.below HB2.out.size fun b h => h.elim)).drew
      have hch3 := HCH.out.to (w' := w3.drew) (S' := fun b => w.heap.size + 2 ≤ b) (fun b hb hlt => ⟨ltle hlt HC3.out.size, HC3.out.block b hlt id⟩) fun b hb _ => hb
      have hz3 : w.heap.size + 2 ≤ w3.drew.heap.size := Nat.le_trans hz2 HC3.out.size
      refine wp_region_hoist [0, 1] [2] [3, 4] (fun w' => Blk w' (w.heap.size + 1) 40 (zFTx).toArray) (by kernel_rfl) (by kernel_rfl) (by kernel_rfl) (by kernel_rfl) (by kernel_rfl) (by kernel_rfl) hz ?_
      (refine HoistK.load (by rfl) (by kernel_rfl) 40 _ rfl (w.heap.size + 1) 0 rfl zFTx _ (fun w' hw => hw.range) Tryz.underlying40 rfl size_faceTx ?_; simp only [Act.put, setIfInBounds_toArray, getElem_toArray, getElem_cons_zero, set_cons_succ, set_cons_zero])
      (refine HoistK.yes (by rfl) (by kernel_rfl) ⟨?_, fun w' hSw => ?_, ?_⟩; rotate_left; (· go_simp; try with_reducible rfl); simp only [Act.put, setIfInBounds_toArray, getElem_toArray, getElem_cons_succ, getElem_cons_zero, set_cons_succ, set_cons_zero])
      refine HoistK.nil_ ?_
      simp only [opsAt, filterMap_cons, filterMap_nil, getElem?_toArray, getElem?_cons_succ, getElem?_cons_zero]
      refine Effects.world (F := fun W => Below w.heap.size w W ∧ Blk W w.heap.size 40 (zFTx).toArray ∧ Blk W (w.heap.size + 1) 40 (zFTx).toArray ∧ Chain W (fun b => w.heap.size + 2 ≤ b) sent (.iface 129 (.pointer (some ⟨gw, 0, none⟩)))) (fun W hF => ?_) ⟨hb, hr, hz, hch3⟩
      clear hb hr hz hch3 hz3
      obtain ⟨hb, hr, hz, hch⟩ := hF
      refine Effects.cons_ fun _ hQ => ?_
      go_wp2_with fail
      refine (told_any (r := false) _ (hp.below hb) (Wr.of_chain hch)).mono ?_
      rintro e W2 ⟨rfl, hb2⟩
      replace hb := hb.trans (hb2.mono hb.size)
      replace hr := hr.below hb2 hr.lt
      replace hz := hz.below hb2 hz.lt
      go_wp2_with fail
      refine hQ _ _ hz (Effects.nil_ fun _ hQ => ?_)
      refine wpList_store_blk (cs0 := zFTx) (cs := zFTx) rfl 40 _ _ rfl hr rfl rfl rfl size_faceTx one_faceTx ?_
      intro W3 hr3 hc3
      go_wp2_with fail
      replace hb := hb.trans (hc3.below hb.size fun b h => Nat.le_of_eq h.symm)
      have hld := run_loadVar_mid (P := Tryz.prog) _ w.heap.size 0 40 zFTx _ hr3.range Tryz.underlying40 rfl size_faceTx
      exact bodyPost_ret (v := .tuple #[.agg (zFTx).toArray, .int .i64 5]) (by simp [results, Tryz.results67, asAddr, hld]) rfl ⟨hb, _, 5, rfl, len_faceTx, one_faceTx, .inr ⟨hlen, .inr ⟨HNO.out, rfl, rfl⟩⟩⟩
set_option maxHeartbeats 4000000 in
set_option maxRecDepth 100000 in
theorem ReadTx_anyN (w : World) {S : Nat → Prop} {v sent : Value} {bs : List UInt8} (h : Bs w S v bs) (hp : Pk w sent) :
    Calls Tryz.prog 58 #[v] w (FaceOutN tTx zFTx w bs) := by
  have hal1 := (Below.refl w.heap.size w).alloc (Nat.le_refl _) (.cells (zFTx).toArray 40)
  have HF := Lib.hid (faceTx_any _ (h.below hal1) (hp.below hal1))
  have HR := Lib.hid (Blk.new w 40 (zFTx).toArray)
  have HA := Lib.hid hal1
  obtain ⟨A, cap, rfl⟩ := h.form
  clear h hp hal1
  go_enter Tryz.func58, Tryz.ntmps58
  go_wp2_with fail
  refine HF.out.mono ?_
  rintro e w1 ⟨hb, C, n, rfl, hl, h1, hn⟩
  have hl : C.length = 41 := hl
  have HL := Lib.hid hl
  have HI := Lib.hid (show (Tryz.prog.info? 40).map (·.size) = some C.length from by rw [hl]; rw [size_faceTx, len_faceTx])
  have H1 := Lib.hid h1
  have hlz : (zFTx).length = C.length := by rw [hl, len_faceTx]
  have HLZ := Lib.hid hlz
  have HK := Lib.hid (HR.out.below hb (by simp))
  have HB := Lib.hid hb
  have HN := Lib.hid hn
  have hz1 : w.heap.size + 1 ≤ w1.heap.size := by have := hb.size; simpa using this
  clear hl h1 hlz hb hn HF HR
  go_wp2_with (refine wpList_store_blk (cs0 := zFTx) (cs := C) rfl 40 _ _ rfl HK.out rfl rfl HLZ.out HI.out H1.out ?_; intro w9 hb9 hc9; have HB9 := Lib.hid hb9; have HC9 := Lib.hid hc9; clear hb9 hc9)
  have hld := run_loadVar_mid (P := Tryz.prog) w9 w.heap.size 0 40 C _ HB9.out.range Tryz.underlying40 rfl HI.out
  refine bodyPost_ret (v := .tuple #[.agg C.toArray, .int .i64 n]) (by simp [results, Tryz.results58, asAddr, hld]) rfl ?_
  have hbw := HA.out.trans (HB.out.mono HA.out.size)
  refine ⟨hbw.trans (HC9.out.below hbw.size fun b h => Nat.le_of_eq h.symm), C, n, rfl, HL.out, H1.out, HN.out.imp id fun ⟨q1, q2⟩ => ⟨q1, q2.imp (fun ⟨x, e1, e2, e3⟩ => ⟨x, e1, e2, ?_⟩) id⟩⟩
  exact Sh.rep_to (fun b hb hlt => ⟨ltle hlt HC9.out.size, HC9.out.block b hlt fun e => by have hb := hb.1; simp at hb; omega⟩) (fun b hb hlt => hb.to (by simp) (HC9.out.block b hlt fun e => by have hb := hb.1; simp at hb; omega)) _ _ _ e3
theorem ReadTx_any (w : World) {S : Nat → Prop} {v sent : Value} {bs : List UInt8} (h : Bs w S v bs) (hp : Pk w sent) :
    Calls Tryz.prog 58 #[v] w (FaceOut tTx w bs) :=
  (ReadTx_anyN w h hp).mono fun _ _ h => h.weak
end
section
open Go.RowKit Go.Maps
attribute [-simp] Tryz.isAgg40 Tryz.typeInfo40 Tryz.isAgg37 Tryz.typeInfo37
theorem heap_newd (w : World) (o : Obj) : (w.drew.alloc o).heap[w.heap.size]? = some o := by
  show (w.heap.push o)[w.heap.size]? = some o
  simp
theorem run_toBytes (w : World) {src dst e : TypeId} (hs : Tryz.prog.underlying src = some .string) (hd : Tryz.prog.underlying dst = some (.slice e)) (he : Tryz.prog.underlying e = some (.int .u8)) (bs : List UInt8) (hl : bs.length ≤ 1099511627776) :
    ∃ v w', (convert src dst (.string (str bs))).run Tryz.prog w = .ok v w' ∧ Below w.heap.size w w' ∧ Bs w' (fun b => w.heap.size ≤ b) v bs := by
  have hn : (str bs).size = bs.length := str_size bs
  have hge := grownCap_ge w bs.length 0 e
  have hle := grownCap_le_maxLen w bs.length 0 e (by simp only [maxLen]; omega)
  refine ⟨_, _, run_bytes_of_string w src dst e (str bs) hs hd he, ?_, ?_⟩
  · exact (Below.refl _ w).drew.alloc (Nat.le_refl _) _
  · rw [hn]
    refine ⟨⟨by rw [u8s_length, Nat.mul_one], _, _, rfl, hge, hle, fun hpos => ⟨w.heap.size, 0, rfl, Nat.le_refl _, by simp, fun j u hu => ?_⟩⟩, by omega⟩
    rw [Nat.zero_add]
    rw [cell_of_row _ _ _ _ _ _ (heap_newd w _)]
    have hj : j < bs.length := by
      have := (List.getElem?_eq_some_iff.1 hu).1
      rwa [u8s_length] at this
    rw [u8s_get bs j hj] at hu
    rw [← Option.some.inj hu]
    clear hle hge hl hu hpos
    have hs : j < ((str bs).data.map (fun b => Value.int .u8 b.toNat)).size := by simpa [str] using hj
    unfold bytesRow
    rw [Array.getElem?_append_left hs]
    simp [str, hj]
set_option maxHeartbeats 8000000 in
set_option maxRecDepth 100000 in
theorem poolRead_any (w : World) {sent : Value} {bs : List UInt8} {x : TxE} (hx : tTx.dec bs = some x) (hl : bs.length ≤ 262144) (hp : Pk w sent) :
    Calls Tryz.prog 43 #[strV bs] w fun e w' => ∃ cs, e = .returned (.agg cs.toArray) ∧ tTx.rep w' (Nw w.heap.size w') x cs ∧ Below w.heap.size w w' := by
  have hal := (Below.refl w.heap.size w).alloc (Nat.le_refl _) (.cells zFTx.toArray 40)
  obtain ⟨v1, w1, hcv, hb1, hv1⟩ := run_toBytes (w.alloc (.cells zFTx.toArray 40)) Tryz.underlying9 Tryz.underlying77 Tryz.underlying5 bs (by omega)
  have hr := (Blk.new w 40 zFTx.toArray).below hb1 (by simp)
  have HR := Lib.hid hr
  have HL1 := Lib.hid hr.lt
  have HF := Lib.hid (ReadTx_anyN w1 hv1 ((hp.below hal).below hb1))
  have HAL := Lib.hid (hal.trans (hb1.mono hal.size))
  have HX := Lib.hid hx
  have HL := Lib.hid hl
  unfold strV
  clear hal hx hl hp hb1 hv1 hr
  go_enter Tryz.func43, Tryz.ntmps43
  go_wp2_with fail
  erw [hcv]
  simp only [Result.andThen]
  rw [Oper.upon_value]
  go_wp2_with fail
  refine HF.out.mono ?_
  rintro e w2 ⟨hb, C, n, rfl, hl, h1, hn⟩
  have hl : C.length = 41 := hl
  have hI : (Tryz.prog.info? 40).map (·.size) = some C.length := by rw [hl]; rw [size_faceTx, len_faceTx]
  have hlz : (zFTx).length = C.length := by rw [hl, len_faceTx]
  have HR2 := Lib.hid (HR.out.below hb HR.out.lt)
  have HB2 := Lib.hid (HAL.out.trans (hb.mono HAL.out.size))
  have HZ2 := Lib.hid (Blk.new w2 40 (zFTx).toArray)
  obtain ⟨hc1, hc2, hrep⟩ : tTx.dec bs = some x ∧ n = 0 ∧ tTx.rep w2 (Nw w1.heap.size w2) x C := by
    rcases hn with ⟨h, _⟩ | ⟨_, ⟨y, e1, e2, e3⟩ | ⟨e1, _⟩⟩
    · have := HL.out; omega
    · rw [HX.out] at e1; injection e1 with e1; subst e1; exact ⟨HX.out, e2, e3⟩
    · rw [HX.out] at e1; cases e1
  have HREP := Lib.hid hrep
  have H1 := Lib.hid h1
  have HI := Lib.hid hI
  have HLZ := Lib.hid hlz
  clear hb hl h1 hn hI hlz hrep hc1 hc2 HF HR hcv
  have hb9' : Below w.heap.size w (w2.alloc (.cells zFTx.toArray 40)) := HB2.out.alloc HB2.out.size _
  have HB3 := Lib.hid hb9'
  have HW2 := Lib.hid (show w.heap.size < w2.heap.size from HR2.out.lt)
  clear hb9'
  go_wp2_with (first
    | (refine wpList_store_blk (cs0 := zFTx) (cs := C) rfl 40 _ _ rfl HZ2.out rfl rfl HLZ.out HI.out H1.out ?_; intro w9 hb9 hc9; have HB9 := Lib.hid hb9; have HC9 := Lib.hid hc9; have HR9 := Lib.hid ((HR2.out.alloc (.cells zFTx.toArray 40)).chg hc9 (Nat.ne_of_lt HW2.out)); clear hb9 hc9)
    | (refine wpList_load_blk' rfl 40 _ rfl HB9.out rfl Tryz.underlying40 rfl HI.out ?_)
    | (refine wpList_store_blk (cs0 := zFTx) (cs := C) rfl 40 _ _ rfl HR9.out rfl rfl HLZ.out HI.out H1.out ?_; intro w8 hb8 hc8; have HB8 := Lib.hid hb8; have HC8 := Lib.hid hc8; clear hb8 hc8))
  have hld := run_loadVar_mid (P := Tryz.prog) w8 w.heap.size 0 40 C _ HB8.out.range Tryz.underlying40 rfl HI.out
  refine bodyPost_ret (v := .agg C.toArray) (by simp [results, Tryz.results43, asAddr, hld, Act.put]) rfl ?_
  have h9 : Below w.heap.size w w9 := HB3.out.trans (HC9.out.below HB3.out.size fun b h => Nat.le_trans (Nat.le_of_lt HW2.out) (Nat.le_of_eq h.symm))
  refine ⟨C, rfl, ?_, h9.trans (HC8.out.below h9.size fun b h => Nat.le_of_eq h.symm)⟩
  have hz1 := HAL.out.size
  have hb2 : ∀ b, b < w2.heap.size → b ≠ w.heap.size → w8.heap[b]? = w2.heap[b]? := fun b h1 h2 => by
    have hs : w2.heap.size < (w2.alloc (.cells zFTx.toArray 40)).heap.size := HZ2.out.lt
    have e1 := HC9.out.block b (Nat.lt_trans h1 hs) (Nat.ne_of_lt h1)
    have e2 := HC8.out.block b (ltle (Nat.lt_trans h1 hs) HC9.out.size) h2
    exact e2.trans (e1.trans (Below.heap_alloc w2 _ b h1))
  have hs8 : w2.heap.size ≤ w8.heap.size := Nat.le_trans (Nat.le_of_lt HZ2.out.lt) (Nat.le_trans HC9.out.size HC8.out.size)
  have hlt1 : w.heap.size < w1.heap.size := HL1.out
  exact Sh.rep_to (fun b hb hlt => ⟨ltle hlt hs8, hb2 b hlt fun e => by have := hb.1; omega⟩) (fun b hb hlt => hb.to (by omega) (hb2 b hlt fun e => by have := hb.1; omega)) _ _ _ HREP.out
end
section
open Go.RowKit Go.Maps
attribute [-simp] Tryz.isAgg40 Tryz.typeInfo40 Tryz.isAgg37 Tryz.typeInfo37
theorem info_tx : (Tryz.prog.info? 40).map (fun i => (i.zero, i.size, i.bytes)) = some (some (.agg (([.int .i64 0, .int .u64 0, .int .u64 0, .int .u64 0, .int .u64 0, .int .i64 0, .int .i64 0] ++ List.replicate 32 (.int .u8 0) ++ [.int .i64 0, .slice none 0 0] : List Value)).toArray), 41, 120) := by kernel_rfl
theorem sizes_tx : (Tryz.prog.info? 40).map (fun i => (i.zero.map (fun z => z.cells.size), i.size)) = some (some 41, 41) := by kernel_rfl
def TxsO (S : Nat → Prop) (w : World) (v : Value) (X : List TxE) : Prop :=
  ∃ css, Own w 40 41 v X.length css.flatten ∧ (∀ b, v.ownBlock = some b → ¬ S b) ∧ Two (tTx.rep w S) X css
def TxsN (k : Nat) (w : World) (v : Value) (X : List TxE) : Prop := (∀ b, v.ownBlock = some b → k ≤ b) ∧ TxsO (fun b => Nw k w b ∧ v.ownBlock ≠ some b) w v X
theorem TxsO.form {S : Nat → Prop} {w : World} {v : Value} {X : List TxE} (h : TxsO S w v X) : ∃ A cap, v = .slice A X.length cap := by
  obtain ⟨css, h, _⟩ := h
  exact h.form
theorem TxsO.lt {S : Nat → Prop} {w : World} {v : Value} {X : List TxE} (h : TxsO S w v X) {b : Nat} (hb : v.ownBlock = some b) : b < w.heap.size := by
  obtain ⟨css, h, _⟩ := h
  exact own_lt h hb
theorem TxsO.keep {S S' : Nat → Prop} {w w' : World} {v : Value} {X : List TxE} (h : TxsO S w v X) (hs : w.heap.size ≤ w'.heap.size) (hk : ∀ b, S b ∨ v.ownBlock = some b → b < w.heap.size → w'.heap[b]? = w.heap[b]?) (h1 : ∀ b, S b → b < w.heap.size → S' b) (h2 : ∀ b, v.ownBlock = some b → ¬ S' b) : TxsO S' w' v X := by
  obtain ⟨css, a, b, c⟩ := h
  exact ⟨css, own_keep a fun k hk' => hk k (.inr hk') (own_lt a hk'), h2, c.map fun x cs h => Sh.rep_to (fun b hb hlt => ⟨ltle hlt hs, hk b (.inl hb) hlt⟩) h1 _ x cs h⟩
theorem TxsO.below {S : Nat → Prop} {w w' : World} {v : Value} {X : List TxE} (h : TxsO S w v X) (hb : Below w.heap.size w w') : TxsO S w' v X :=
  have h2 := h
  h.keep hb.size (fun b _ hlt => hb.block b hlt) (fun _ h _ => h) (by obtain ⟨_, _, h, _⟩ := h2; exact h)
theorem TxsN.below {k : Nat} {w w' : World} {v : Value} {X : List TxE} (h : TxsN k w v X) (hb : Below w.heap.size w w') : TxsN k w' v X :=
  ⟨h.1, h.2.keep hb.size (fun b _ hlt => hb.block b hlt) (fun b h hlt => ⟨h.1.to (Nat.le_refl _) (hb.block b hlt), h.2⟩) fun _ h h' => h'.2 h⟩
theorem TxsO.nil_ (S : Nat → Prop) (w : World) : TxsO S w (.slice none 0 0) [] := ⟨[], Own.nil_ _ _ _, fun b h => by simp [Value.ownBlock] at h, .nil⟩
theorem TxsO.snoc {S S' : Nat → Prop} {w w3 w4 w6 : World} {o o' : Value} {X : List TxE} {css : List (List Value)} {x : TxE} {C : List Value} {ob : Obj}
    (hns : ∀ b, o.ownBlock = some b → ¬ S b) (htwo : Two (tTx.rep w S) X css)
    (hb3 : Below w.heap.size w w3) (hr : tTx.rep w3 S' x C) (hb4 : Below w3.heap.size w3 w4) (ho6 : Own w6 40 41 o' (X.length + 1) (css.flatten ++ C)) (hc6 : Chg (fun b => o.ownBlock = some b) (w4.alloc ob) w6)
    (h1 : ∀ b, S b → b < w.heap.size → S' b) (h2 : ∀ b, S' b → b < w3.heap.size → o.ownBlock ≠ some b) {S6 : Nat → Prop} (h3 : ∀ b, S' b → b < w3.heap.size → S6 b) (h4 : ∀ b, o'.ownBlock = some b → ¬ S6 b) : TxsO S6 w6 o' (X ++ [x]) := by
  have e : ∀ b, b < w3.heap.size → o.ownBlock ≠ some b → w6.heap[b]? = w3.heap[b]? := fun b hb hne => by
    have z := hb4.size
    have hal := (Below.refl w4.heap.size w4).alloc (Nat.le_refl _) ob
    have := hal.size
    exact (hc6.block b (by omega) hne).trans ((hal.block b (by omega)).trans (hb4.block b hb))
  have z : w3.heap.size ≤ w6.heap.size := by
    have z4 := hb4.size
    have hal := ((Below.refl w4.heap.size w4).alloc (Nat.le_refl _) ob).size
    have z6 := hc6.size
    omega
  have z3 := hb3.size
  refine ⟨css ++ [C], ?_, h4, ?_⟩
  · rw [List.length_append, List.flatten_append]; simpa using ho6
  · refine (htwo.map fun a c h => ?_).append (.cons ?_ .nil)
    · exact Sh.rep_to (fun b hb hlt => ⟨by omega, (e b (by omega) fun h => hns b h hb).trans (hb3.block b hlt)⟩) (fun b hb hlt => h3 b (h1 b hb hlt) (by omega)) _ _ _ h
    · exact Sh.rep_to (fun b hb hlt => ⟨by omega, e b hlt (h2 b hb hlt)⟩) (fun b hb hlt => h3 b hb hlt) _ _ _ hr
def PoolX (w : World) (g : Nat) (v : Value) (most : Nat) (X : List TxE) : Prop := PoolI w g v most (X.map fun x => tTx.enc x) ∧ ∀ x ∈ X, tTx.dec (tTx.enc x) = some x ∧ (tTx.enc x).length ≤ 65536
set_option maxHeartbeats 8000000 in
set_option maxRecDepth 100000 in
theorem poolAll_any (w : World) {sent : Value} {g most : Nat} {v : Value} {X : List TxE} (hp : PoolX w g v most X) (hk : Pk w sent) :
    Calls Tryz.prog 21 #[.pointer (some ⟨g, 0, none⟩)] w fun e w' => ∃ v', e = .returned v' ∧ TxsN w.heap.size w' v' X ∧ Below w.heap.size w w' := by
  obtain ⟨hp, hX⟩ := hp
  have hg1 := hp.2.2.1.cell 1
  obtain ⟨A, cap, hv⟩ := hp.2.2.2.1.form
  rw [List.length_map] at hv
  rw [show (#[Value.int .i64 (most : Int), v] : Array Value)[1]? = some v from rfl, hv] at hg1
  have hL : X.length ≤ 32 := by have h1 := hp.1; have h2 := hp.2.1; rw [List.length_map] at h2; omega
  have HR := Lib.hid (hv ▸ Cs.of_own (S := fun _ => True) hp.2.2.2.1 fun _ _ => trivial)
  have HX := Lib.hid hX
  have HK := Lib.hid hk
  obtain ⟨n, hn⟩ : ∃ n, n = X.length := ⟨_, rfl⟩
  rw [← hn] at hg1 hL HR
  have HN := Lib.hid hn
  clear hp hX hk hv hn
  go_enter Tryz.func21, Tryz.ntmps21
  go_wp2_with fail
  go_loopw [3, 11] (fun o i wr => ∃ k : Nat, k ≤ n ∧ i = .int .i64 k ∧ Hid (Below w.heap.size w wr) ∧ Hid (TxsN w.heap.size wr o (X.take k))) (fun _ i _ => n - (intOf i).toNat)
  case atStart => exact ⟨0, Nat.zero_le _, rfl, Lib.hid (Below.refl _ _), Lib.hid ⟨fun b h => by simp [Value.ownBlock] at h, TxsO.nil_ _ _⟩⟩
  case round =>
    obtain ⟨k, hk, rfl, hb, ho⟩ := hrel
    by_cases hlt : k < n
    · obtain ⟨_, A', c', e, _, _, hp⟩ := HR.out.below hb.out
      injection e with e1 e2 e3
      subst e1 e3
      clear e2
      have hltX : k < X.length := by rw [← HN.out]; exact hlt
      obtain ⟨bb, off, rfl, _, _, hc⟩ := hp (by rw [List.length_map]; omega)
      obtain ⟨x, hx⟩ : ∃ x, x = X[k] := ⟨_, rfl⟩
      obtain ⟨bs, hbs⟩ : ∃ bs, bs = tTx.enc x := ⟨_, rfl⟩
      have hck : wr.cell? ⟨bb, off + k, none⟩ = some (.string (str bs)) := hc k _ (by simp [hltX, hx, hbs, strV])
      have hxm := HX.out x (hx ▸ List.getElem_mem hltX)
      rw [← hbs] at hxm
      have HRD := Lib.hid (poolRead_any wr hxm.1 (by omega) (HK.out.below hb.out))
      have HT := Lib.hid (show X.take (k + 1) = X.take k ++ [x] from by rw [hx]; exact List.take_succ_eq_append_getElem hltX)
      have hlen : (X.take k).length = k := by rw [List.length_take]; have := HN.out; omega
      obtain ⟨hob, css, hown, hns, htwo⟩ := ho.out
      rw [hlen] at hown
      obtain ⟨Ao, co, rfl⟩ := hown.form
      have HOB := Lib.hid hob
      have HOWN := Lib.hid hown
      have HNS := Lib.hid hns
      have HTWO := Lib.hid htwo
      have HLEN := Lib.hid hlen
      have H63 := Lib.hid (show k + 1 ≤ maxLen ∧ (k + 1) * 120 ≤ 140737488355328 from ⟨by simp only [maxLen]; omega, by omega⟩)
      clear hp hc hltX hxm hx hbs hob hown hns htwo ho hlen
      go_wp2_with fail
      refine HRD.out.mono ?_
      rintro e w3 ⟨C, rfl, hrep, hb3⟩
      have hl : C.length = 41 := Sh.rep_size _ _ _ hrep
      have HL := Lib.hid hl
      have H1 := Lib.hid (Sh.rep_one _ _ _ hrep)
      have HI2 := Lib.hid (show (Tryz.prog.info? 40).map (fun i => (i.zero.map (fun z => z.cells.size), i.size)) = some (some C.length, C.length) from by rw [hl]; exact sizes_tx)
      have HREP := Lib.hid hrep
      have HB3 := Lib.hid hb3
      have HO2 := Lib.hid (show ∀ ob, Own (w3.alloc ob) 40 41 (.slice Ao k co) k css.flatten from fun ob => own_keep HOWN.out fun b hb => by
        have h1 := own_lt HOWN.out hb
        exact (Below.heap_alloc w3 ob b (ltle h1 HB3.out.size)).trans (HB3.out.block b h1))
      have HS2 := Lib.hid (Cs.of_new w3 40 (size := 41) 1 (cs := C) (by rw [hl]) (by simp only [maxLen]; decide))
      clear hl hrep hb3 HRD
      go_wp2_with (first
        | (refine wpList_row1 rfl 46 40 _ rfl Tryz.underlying46 (.agg C.toArray) rfl C rfl HI2.out (by rw [HL.out]; decide) (by rw [HL.out]; decide) ?_)
        | (at_builtin; refine wpList_app _ rfl _ _ _ rfl Tryz.underlying46 info_tx rfl (by decide) (HO2.out _) rfl HS2.out rfl H1.out H63.out.1 H63.out.2 ?_; intro v6 w6 ho6 hc6 hnil6 hat6; clear hnil6; have HO6 := Lib.hid ho6; clear ho6; have HC6 := Lib.hid hc6; clear hc6; have HAT6 := Lib.hid hat6; clear hat6))
      refine ⟨⟨k + 1, by omega, by push_cast; rfl, ?_, ?_⟩, by simp only [intOf]; omega⟩
      · have h3 := hb.out.trans (HB3.out.mono hb.out.size)
        have h4 := h3.alloc h3.size (.cells C.toArray 40)
        exact Lib.hid (h4.trans (HC6.out.below h4.size fun b h => HOB.out b h))
      · have z3 := HB3.out.size
        have hwr := hb.out.size
        have hz : (w3.alloc (.cells C.toArray 40)).heap.size = w3.heap.size + 1 := by simp
        have hoO : ∀ b, (Value.slice Ao k co).ownBlock = some b → b < wr.heap.size := fun b h => own_lt HOWN.out h
        have hk6 : ∀ b, b < w3.heap.size → (Value.slice Ao k co).ownBlock ≠ some b → v6.ownBlock ≠ some b := fun b hlt hne h => by
          rcases HAT6.out with h' | h'
          · exact hne (h' ▸ h)
          · rw [h', hz] at h; injection h with h; omega
        refine Lib.hid ⟨fun b h => ?_, ?_⟩
        · rcases HAT6.out with h' | h'
          · exact HOB.out b (h' ▸ h)
          · rw [h', hz] at h; injection h with h; omega
        · rw [HT.out]
          have e6 : ∀ b, b < w3.heap.size → (Value.slice Ao k co).ownBlock ≠ some b → w6.heap[b]? = w3.heap[b]? := fun b hlt hne =>
            (HC6.out.block b (by omega) hne).trans (Below.heap_alloc w3 _ b hlt)
          refine TxsO.snoc (S' := fun b => Nw w.heap.size w3 b ∧ (Value.slice Ao k co).ownBlock ≠ some b) HNS.out HTWO.out HB3.out ?_ (Below.refl _ _) (by rw [HLEN.out]; exact HO6.out) HC6.out ?_ ?_ ?_ fun b h h' => h'.2 h
          · exact Sh.rep_sub HREP.out fun b hb hlt => ⟨hb.to hwr rfl, fun h => by have := hoO b h; have := hb.1; omega⟩
          · exact fun b h hlt => ⟨h.1.to (Nat.le_refl _) (HB3.out.block b hlt), h.2⟩
          · exact fun b h _ => h.2
          · exact fun b h hlt => ⟨h.1.to (Nat.le_refl _) (e6 b hlt h.2), hk6 b hlt h.2⟩
    · have hk' : k = n := by omega
      subst hk'
      have HO := Lib.hid (by have := ho.out; rwa [HN.out, List.take_length] at this)
      clear ho
      go_wp2_with fail
      go_ret
      exact ⟨_, rfl, HO.out, hb.out⟩
end
section
open Go.RowKit Go.Maps
def heldL (v : Value) : Option (DataW Value × List MemPlace) := some (.held v, [])
def MapL (P : Program) (k : TypeId) (ok : Lit → Prop) (w : World) (m n : Nat) (f : Lit → Option Value) : Prop :=
  ∃ D : DataW Value, w.ownsMap P k heldL m n D ∧ ∀ l : Lit, ok l → ∀ z, D.atKey l z = (f l).elim z .held
open Classical in
noncomputable def putL (f : Lit → Option Value) (l : Lit) (v : Value) : Lit → Option Value := fun j => if j = l then some v else f j
open Classical in
theorem putL_same (f : Lit → Option Value) (l : Lit) (v : Value) : putL f l v l = some v := if_pos rfl
open Classical in
theorem putL_other {f : Lit → Option Value} {l j : Lit} {v : Value} (h : j ≠ l) : putL f l v j = f j := if_neg h
section
variable {P : Program} {k e t : TypeId} {ok : Lit → Prop} {w w' : World} {m n : Nat} {f : Lit → Option Value}
theorem MapL.lt (h : MapL P k ok w m n f) : m < w.heap.size := by obtain ⟨D, h, _⟩ := h; exact h.lt
theorem MapL.keep (h : MapL P k ok w m n f) (hk : w'.heap[m]? = w.heap[m]?) : MapL P k ok w' m n f := by
  obtain ⟨D, ⟨es, clock, hb, F, hs, hD⟩, hf⟩ := h
  exact ⟨D, ⟨es, clock, hk.trans hb, F, hs, hD⟩, hf⟩
theorem MapL.chg {M : Nat → Prop} (h : MapL P k ok w m n f) (hc : Chg M w w') (hd : ¬ M m) : MapL P k ok w' m n f := h.keep (hc.block m h.lt hd)
theorem MapL.below (h : MapL P k ok w m n f) (hb : Below w.heap.size w w') : MapL P k ok w' m n f := h.keep (hb.block m h.lt)
theorem MapL.made (P : Program) (k : TypeId) (ok : Lit → Prop) (w : World) : MapL P k ok (w.alloc (.map #[] 0)) w.heap.size 0 (fun _ => none) :=
  ⟨.map [], World.ownsMap_made w P k heldL, fun l _ z => by simp [DataW.atKey]⟩
theorem MapL.lookup (h : MapL P k ok w m n f) (hk : Keyed P k) (ht : P.underlying t = some (.map k e)) {z : Value} (hz : (zeroValue e).run P w = .ok z w) {l : Lit} (hl : ok l) {key : Value} (hkey : keyOf P k key = some l) :
    (Instr.lookup t (.map (some m)) key false).run P w = .ok ((f l).getD z) w := by
  obtain ⟨D, ho, hf⟩ := h
  obtain ⟨v, ps, hrun, hv⟩ := ho.lookup hk ht hz (zd := .held z) (zp := []) rfl hkey
  rw [hf l hl] at hv
  rw [hrun]
  cases hfi : f l with
  | none => rw [hfi] at hv; simp [heldL] at hv; rw [hv.1]; rfl
  | some u => rw [hfi] at hv; simp [heldL] at hv; rw [hv.1]; rfl
theorem MapL.put (h : MapL P k ok w m n f) (hk : Keyed P k) (ht : P.underlying t = some (.map k e)) (hn : n < maxLen) {l : Lit} (hi : WideAt.IsKeyLit l) {key : Value} (hkey : keyOf P k key = some l) (v : Value) :
    ∃ w', (Instr.mapUpdate t (.map (some m)) key v).run P w = .ok () w' ∧ MapL P k ok w' m (n + 1) (putL f l v) ∧ Chg (fun b => b = m) w w' := by
  obtain ⟨D, ho, hf⟩ := h
  have hm := ho.isMap
  obtain ⟨w', hrun, h1, hg⟩ := ho.update hk ht hn (key := key) (val := v) (kl := l) (d := .held v) (ps := []) hkey rfl
  refine ⟨w', hrun, ⟨_, h1, fun j hj z => ?_⟩, ⟨hg.os, hg.tape, hg.output, hg.size, fun b hb hne => hg.block b hb (fun e => hne (by injection e))⟩⟩
  by_cases e : j = l
  · subst e
    rw [atKey_put_same hm hi, putL_same]
    rfl
  · rw [atKey_put_other e, hf j hj, putL_other e]
end
end
section
open Go.RowKit Go.Maps
attribute [-simp] Tryz.isAgg34 Tryz.typeInfo34 Tryz.isAgg40 Tryz.typeInfo40 Tryz.isAgg37 Tryz.typeInfo37 Tryz.isAgg57 Tryz.typeInfo57
def SpI (w : World) (m : Nat) (out : List TxE) : Prop :=
  ∃ n f, MapL Tryz.prog 35 (fun _ => True) w m n f ∧ n ≤ out.length ∧ ∀ a : Int, (f (.int .u64 a)).getD (.int .u64 0) = .int .u64 (cntP spendsX fromX out a)
theorem SpI.lt {w : World} {m : Nat} {out : List TxE} (h : SpI w m out) : m < w.heap.size := by
  obtain ⟨n, f, h, _⟩ := h
  exact h.lt
theorem SpI.keep {w w' : World} {m : Nat} {out : List TxE} (h : SpI w m out) (hk : w'.heap[m]? = w.heap[m]?) : SpI w' m out := by
  obtain ⟨n, f, h, r⟩ := h
  exact ⟨n, f, h.keep hk, r⟩
theorem SpI.made (w : World) : SpI (w.alloc (.map #[] 0)) w.heap.size [] := ⟨0, _, MapL.made _ _ _ w, Nat.le_refl _, fun _ => rfl⟩
def baseX (l : List (Int × Int × Int × Unit)) (f : Int) : Int := (acctP l f).2.2.1
abbrev fitsX (l : List (Int × Int × Int × Unit)) (out : List TxE) (x : TxE) : Bool := fitsP spendsX fromX nonceX (baseX l) out x
theorem from_wf {w : World} {S : Nat → Prop} {x : TxE} {cs : List Value} (h : tTx.rep w S x cs) : (Lit.int .u64 (fromX x)).wf = true := by
  obtain ⟨x0, x1, x2, x3, x4, x5, x6, x7, x8, x9, _⟩ := x
  obtain ⟨c0, _, _, _, c1, _, _, ⟨_, h1⟩, _⟩ := h
  have h1 : (nk false).wrap x1 = x1 := h1
  rw [wrap_u] at h1
  have e : fromX (x0, x1, x2, x3, x4, x5, x6, x7, x8, x9, ()) = x1 := rfl
  rw [e]
  simp only [Lit.wf, IntKind.min, IntKind.max, IntKind.signed, IntKind.bits]
  simp
  omega
theorem zero_u64 (w : World) : (zeroValue 35).run Tryz.prog w = .ok (.int .u64 0) w := by kernel_rfl
set_option maxHeartbeats 8000000 in
set_option maxRecDepth 100000 in
theorem fits_any (w : World) {S T : Nat → Prop} {l : List (Int × Int × Int × Unit)} {ss cs : List Value} {x : TxE} {out : List TxE} {gS gM m : Nat} (hs : StA w S l ss) (h : tTx.rep w T x cs) (hS : Blk w gS 34 ss.toArray) (hM : w.cell? ⟨gM, 0, none⟩ = some (.map (some m))) (hc : SpI w m out) :
    Calls Tryz.prog 36 #[.agg cs.toArray, .pointer (some ⟨gS, 0, none⟩), .pointer (some ⟨gM, 0, none⟩)] w fun e w' => e = .returned (.bool (fitsX l out x)) ∧ Below w.heap.size w w' := by
  obtain ⟨h0, h1, h4, hl⟩ := tx_cells h
  obtain ⟨n, f, hmap, _, hcnt⟩ := hc
  have hkey := keyOf_int_mk (P := Tryz.prog) Tryz.underlying35 (from_wf h)
  have hal := (Below.refl w.heap.size w).alloc (Nat.le_refl _) (.cells cs.toArray 40)
  have hgm : gM < w.heap.size := Go.Lib.lt_of_cell hM
  have hx := hS.alloc (.cells cs.toArray 40)
  have hy := Blk.new w 40 cs.toArray
  have hm1 : (w.alloc (.cells cs.toArray 40)).cell? ⟨gM, 0, none⟩ = some (.map (some m)) := (World.cell?_of_block (a := ⟨gM, 0, none⟩) (hal.block gM hgm)).trans hM
  have hp1 := hmap.below hal
  have HI := Lib.hid (st_of hs)
  have HJ := Lib.hid (tx_size hl)
  have HS := Lib.hid hs
  have H := Lib.hid h
  have HAL := Lib.hid hal
  have HC1 := Lib.hid h1
  have HC4 := Lib.hid h4
  have HKEY := Lib.hid hkey
  have HCNT := Lib.hid (hcnt (fromX x))
  have HX := Lib.hid hx
  have HY := Lib.hid hy
  have HM := Lib.hid hm1
  have HP := Lib.hid hp1
  have HGM := Lib.hid hgm
  clear hs h hx hy hal h0 h1 h4 hl hkey hcnt hm1 hp1 hgm hmap hS hM
  go_enter Tryz.func36, Tryz.ntmps36
  go_wp2_with fail
  have hx := HX.out.drew
  have hy := HY.out.drew
  have hb := HAL.out.drew
  have hm : (w.alloc (.cells cs.toArray 40)).drew.cell? ⟨gM, 0, none⟩ = some (.map (some m)) := HM.out
  have hp : MapL Tryz.prog 35 (fun _ => True) (w.alloc (.cells cs.toArray 40)).drew m n f := HP.out
  clear HX HY HM HP
  refine wp_region_segsV [([0], [1]), ([2, 3, 4, 5, 6, 7, 8, 11, 12, 13, 14], [9]), ([10, 15, 16, 17], [18])] (by kernel_rfl) (by kernel_rfl) (by kernel_rfl) (by kernel_rfl)
    (SegV.mk (fun w' => Blk w' gS 34 ss.toArray ∧ Blk w' w.heap.size 40 cs.toArray ∧ w'.cell? ⟨gM, 0, none⟩ = some (.map (some m)) ∧ MapL Tryz.prog 35 (fun _ => True) w' m n f) (fun _ _ => trivial) ⟨hx, hy, hm, hp⟩ ?_)
  (refine HoistK.load (by rfl) (by kernel_rfl) 40 _ rfl w.heap.size 0 rfl cs _ (fun w' hw => hw.2.1.range) Tryz.underlying40 rfl HJ.out ?_; simp only [Act.put, setIfInBounds_toArray, getElem_toArray, getElem_cons_zero, set_cons_succ, set_cons_zero])
  refine HoistK.nil_ ?_
  simp only [opsAt, filterMap_cons, filterMap_nil, getElem?_toArray, getElem?_cons_succ, getElem?_cons_zero]
  refine EffS.cons_ fun _ hQ => ?_
  go_wp2_with fail
  refine (spends_any _ (Sh.rep_below H.out hb)).mono ?_
  rintro e w2 ⟨rfl, hb2⟩
  have hx2 := hx.below hb2 hx.lt
  have hy2 := hy.below hb2 hy.lt
  have hm2 := cell_low hm hb2
  have hp2 := hp.below hb2
  replace hb2 := hb.trans (hb2.mono hb.size)
  clear hx hy hb hm hp
  obtain ⟨b, hbs⟩ : ∃ b, b = spendsX x := ⟨_, rfl⟩
  rw [← hbs]
  have HSP := Lib.hid hbs.symm
  clear hbs
  go_wp2_with fail
  refine hQ _ _ ⟨hx2, hy2, hm2, hp2⟩ (EffS.nil_ (SegV.mk (fun w' => Blk w' gS 34 ss.toArray ∧ Blk w' w.heap.size 40 cs.toArray ∧ w'.cell? ⟨gM, 0, none⟩ = some (.map (some m)) ∧ MapL Tryz.prog 35 (fun _ => True) w' m n f) (fun _ h => h) ⟨hx2, hy2, hm2, hp2⟩ ?_))
  cases b
  · (refine HoistK.yes (by rfl) (by kernel_rfl) ⟨?_, fun w' hSw => ?_, ?_⟩; rotate_left; (· go_simp; try with_reducible rfl); simp only [Act.put, setIfInBounds_toArray, getElem_toArray, getElem_cons_succ, getElem_cons_zero, set_cons_succ, set_cons_zero])
    (refine HoistK.yes (by rfl) (by kernel_rfl) ⟨?_, fun w' hSw => ?_, ?_⟩; rotate_left; (· go_simp; try with_reducible rfl); simp only [Act.put, setIfInBounds_toArray, getElem_toArray, getElem_cons_succ, getElem_cons_zero, set_cons_succ, set_cons_zero])
    (refine HoistK.no (by rfl) (by kernel_rfl) ?_; simp only [Act.put, setIfInBounds_toArray, getElem_toArray, getElem_cons_succ, getElem_cons_zero, set_cons_succ, set_cons_zero])
    (refine HoistK.no (by rfl) (by kernel_rfl) ?_; simp only [Act.put, setIfInBounds_toArray, getElem_toArray, getElem_cons_succ, getElem_cons_zero, set_cons_succ, set_cons_zero])
    (refine HoistK.no (by rfl) (by kernel_rfl) ?_; simp only [Act.put, setIfInBounds_toArray, getElem_toArray, getElem_cons_succ, getElem_cons_zero, set_cons_succ, set_cons_zero])
    (refine HoistK.no (by rfl) (by kernel_rfl) ?_; simp only [Act.put, setIfInBounds_toArray, getElem_toArray, getElem_cons_succ, getElem_cons_zero, set_cons_succ, set_cons_zero])
    (refine HoistK.no (by rfl) (by kernel_rfl) ?_; simp only [Act.put, setIfInBounds_toArray, getElem_toArray, getElem_cons_succ, getElem_cons_zero, set_cons_succ, set_cons_zero])
    (refine HoistK.no (by rfl) (by kernel_rfl) ?_; simp only [Act.put, setIfInBounds_toArray, getElem_toArray, getElem_cons_succ, getElem_cons_zero, set_cons_succ, set_cons_zero])
    (refine HoistK.no (by rfl) (by kernel_rfl) ?_; simp only [Act.put, setIfInBounds_toArray, getElem_toArray, getElem_cons_succ, getElem_cons_zero, set_cons_succ, set_cons_zero])
    (refine HoistK.no (by rfl) (by kernel_rfl) ?_; simp only [Act.put, setIfInBounds_toArray, getElem_toArray, getElem_cons_succ, getElem_cons_zero, set_cons_succ, set_cons_zero])
    (refine HoistK.no (by rfl) (by kernel_rfl) ?_; simp only [Act.put, setIfInBounds_toArray, getElem_toArray, getElem_cons_succ, getElem_cons_zero, set_cons_succ, set_cons_zero])
    refine HoistK.nil_ ?_
    simp only [opsAt, filterMap_cons, filterMap_nil, getElem?_toArray, getElem?_cons_succ, getElem?_cons_zero]
    refine EffS.cons_ fun _ hQ => ?_
    go_wp2_with fail
    refine hQ _ _ ⟨hx2, hy2, hm2, hp2⟩ (EffS.nil_ (SegV.mk (fun w' => Blk w' gS 34 ss.toArray ∧ Blk w' w.heap.size 40 cs.toArray ∧ w'.cell? ⟨gM, 0, none⟩ = some (.map (some m)) ∧ MapL Tryz.prog 35 (fun _ => True) w' m n f) (fun _ h => h) ⟨hx2, hy2, hm2, hp2⟩ ?_))
    (refine HoistK.no (by rfl) (by kernel_rfl) ?_; simp only [Act.put, setIfInBounds_toArray, getElem_toArray, getElem_cons_succ, getElem_cons_zero, set_cons_succ, set_cons_zero])
    (refine HoistK.no (by rfl) (by kernel_rfl) ?_; simp only [Act.put, setIfInBounds_toArray, getElem_toArray, getElem_cons_succ, getElem_cons_zero, set_cons_succ, set_cons_zero])
    (refine HoistK.no (by rfl) (by kernel_rfl) ?_; simp only [Act.put, setIfInBounds_toArray, getElem_toArray, getElem_cons_succ, getElem_cons_zero, set_cons_succ, set_cons_zero])
    (refine HoistK.yes (by rfl) (by kernel_rfl) ⟨?_, fun w' hSw => ?_, ?_⟩; rotate_left; (· go_simp; try with_reducible rfl); simp only [Act.put, setIfInBounds_toArray, getElem_toArray, getElem_cons_succ, getElem_cons_zero, set_cons_succ, set_cons_zero])
    refine HoistK.nil_ ?_
    simp only [opsAt, filterMap_cons, filterMap_nil, getElem?_toArray, getElem?_cons_succ, getElem?_cons_zero]
    refine EffS.cons_ fun _ hQ => ?_
    go_wp2_with fail
    refine hQ _ _ ⟨hx2, hy2, hm2, hp2⟩ (EffS.nil_ fun _ hQ => ?_)
    go_wp2_with fail
    go_ret
    exact ⟨by rw [show fitsX l out x = true from by unfold fitsX fitsP; rw [HSP.out]; rfl]; rfl, hb2⟩
  · (refine HoistK.yes (by rfl) (by kernel_rfl) ⟨?_, fun w' hSw => ?_, ?_⟩; rotate_left; (· go_simp; try with_reducible rfl); simp only [Act.put, setIfInBounds_toArray, getElem_toArray, getElem_cons_succ, getElem_cons_zero, set_cons_succ, set_cons_zero])
    iterate 2 (refine HoistK.yes (by rfl) (by kernel_rfl) ⟨?_, fun w' hSw => ?_, ?_⟩; rotate_left; (· go_simp; try with_reducible rfl); simp only [Act.put, setIfInBounds_toArray, getElem_toArray, getElem_cons_succ, getElem_cons_zero, set_cons_succ, set_cons_zero])
    (refine HoistK.yes (by rfl) (by kernel_rfl) ⟨?_, fun w' hSw => ?_, ?_⟩; rotate_left; (· have hcc : w'.cell? ⟨w.heap.size, 4, none⟩ = some (.int .u64 (nonceX x)) := (by rw [hSw.2.1.cell, getElem?_toArray, HC4.out]); go_simp; try with_reducible rfl); simp only [Act.put, setIfInBounds_toArray, getElem_toArray, getElem_cons_succ, getElem_cons_zero, set_cons_succ, set_cons_zero])
    (refine HoistK.load (by rfl) (by kernel_rfl) 34 _ rfl gS 0 rfl ss _ (fun w' hw => hw.1.range) Tryz.underlying34 rfl HI.out ?_; simp only [Act.put, setIfInBounds_toArray, getElem_toArray, getElem_cons_succ, getElem_cons_zero, set_cons_succ, set_cons_zero])
    (refine HoistK.yes (by rfl) (by kernel_rfl) ⟨?_, fun w' hSw => ?_, ?_⟩; rotate_left; (· go_simp; try with_reducible rfl); simp only [Act.put, setIfInBounds_toArray, getElem_toArray, getElem_cons_succ, getElem_cons_zero, set_cons_succ, set_cons_zero])
    (refine HoistK.yes (by rfl) (by kernel_rfl) ⟨?_, fun w' hSw => ?_, ?_⟩; rotate_left; (· have hcc : w'.cell? ⟨w.heap.size, 1, none⟩ = some (.int .u64 (fromX x)) := (by rw [hSw.2.1.cell, getElem?_toArray, HC1.out]); go_simp; try with_reducible rfl); simp only [Act.put, setIfInBounds_toArray, getElem_toArray, getElem_cons_succ, getElem_cons_zero, set_cons_succ, set_cons_zero])
    (refine HoistK.yes (by rfl) (by kernel_rfl) ⟨?_, fun w' hSw => ?_, ?_⟩; rotate_left; (· have hcc := hSw.2.2.1; go_simp; try with_reducible rfl); simp only [Act.put, setIfInBounds_toArray, getElem_toArray, getElem_cons_succ, getElem_cons_zero, set_cons_succ, set_cons_zero])
    (refine HoistK.yes (by rfl) (by kernel_rfl) ⟨?_, fun w' hSw => ?_, ?_⟩; rotate_left; (· go_simp; try with_reducible rfl); simp only [Act.put, setIfInBounds_toArray, getElem_toArray, getElem_cons_succ, getElem_cons_zero, set_cons_succ, set_cons_zero])
    (refine HoistK.yes (by rfl) (by kernel_rfl) ⟨?_, fun w' hSw => ?_, ?_⟩; rotate_left; (· have hcc : w'.cell? ⟨w.heap.size, 1, none⟩ = some (.int .u64 (fromX x)) := (by rw [hSw.2.1.cell, getElem?_toArray, HC1.out]); go_simp; try with_reducible rfl); simp only [Act.put, setIfInBounds_toArray, getElem_toArray, getElem_cons_succ, getElem_cons_zero, set_cons_succ, set_cons_zero])
    (refine HoistK.yes (by rfl) (by kernel_rfl) ⟨?_, fun w' hSw => ?_, ?_⟩; rotate_left; (· have hlk := hSw.2.2.2.lookup (t := 81) (int_keyed Tryz.underlying35) Tryz.underlying81 (zero_u64 w') (l := .int .u64 (fromX x)) trivial HKEY.out; rw [HCNT.out] at hlk; go_simp; try with_reducible rfl); simp only [Act.put, setIfInBounds_toArray, getElem_toArray, getElem_cons_succ, getElem_cons_zero, set_cons_succ, set_cons_zero])
    refine HoistK.nil_ ?_
    simp only [opsAt, filterMap_cons, filterMap_nil, getElem?_toArray, getElem?_cons_succ, getElem?_cons_zero]
    refine EffS.cons_ fun _ hQ => ?_
    go_wp2_with fail
    refine (account_any _ (HS.out.below hb2) (fromX x)).mono ?_
    rintro e w3 ⟨rfl, hb3⟩
    have hx3 := hx2.below hb3 hx2.lt
    have hy3 := hy2.below hb3 hy2.lt
    have hm3 := cell_low hm2 hb3
    have hp3 := hp2.below hb3
    have hb23 := hb2.trans (hb3.mono hb2.size)
    obtain ⟨a, ha⟩ : ∃ a, a = acctP l (fromX x) := ⟨_, rfl⟩
    have HA := Lib.hid ha
    rw [← ha]
    clear ha hb3
    go_wp2_with fail
    refine hQ _ _ ⟨hx3, hy3, hm3, hp3⟩ (EffS.nil_ (SegV.mk (fun w' => Blk w' gS 34 ss.toArray ∧ Blk w' w.heap.size 40 cs.toArray ∧ w'.cell? ⟨gM, 0, none⟩ = some (.map (some m)) ∧ MapL Tryz.prog 35 (fun _ => True) w' m n f) (fun _ h => h) ⟨hx3, hy3, hm3, hp3⟩ ?_))
    (refine HoistK.yes (by rfl) (by kernel_rfl) ⟨?_, fun w' hSw => ?_, ?_⟩; rotate_left; (· have hfn := field_nonce a w'; unfold acs; go_simp; try with_reducible rfl); simp only [Act.put, setIfInBounds_toArray, getElem_toArray, getElem_cons_succ, getElem_cons_zero, set_cons_succ, set_cons_zero])
    iterate 3 (refine HoistK.yes (by rfl) (by kernel_rfl) ⟨?_, fun w' hSw => ?_, ?_⟩; rotate_left; (· go_simp; try with_reducible rfl); simp only [Act.put, setIfInBounds_toArray, getElem_toArray, getElem_cons_succ, getElem_cons_zero, set_cons_succ, set_cons_zero])
    refine HoistK.nil_ ?_
    simp only [opsAt, filterMap_cons, filterMap_nil, getElem?_toArray, getElem?_cons_succ, getElem?_cons_zero]
    refine EffS.cons_ fun _ hQ => ?_
    go_wp2_with fail
    refine hQ _ _ ⟨hx3, hy3, hm3, hp3⟩ (EffS.nil_ fun _ hQ => ?_)
    go_wp2_with fail
    go_ret
    refine ⟨?_, hb23⟩
    rw [show fitsX l out x = (nonceX x == (a.2.2.1 + (cntP spendsX fromX out (fromX x) : Int)) % 18446744073709551616) from by unfold fitsX fitsP baseX; rw [HSP.out, ← HA.out]; rfl]
    rw [← wrap_u]
    rfl
end
section
open Go.RowKit Go.Maps
attribute [-simp] Tryz.isAgg40 Tryz.typeInfo40 Tryz.isAgg37 Tryz.typeInfo37
theorem fl_len {m : Nat} : ∀ (css : List (List Value)), (∀ c ∈ css, c.length = m) → css.flatten.length = css.length * m
  | [], _ => by simp
  | c :: css, h => by
    rw [List.flatten_cons, List.length_append, fl_len css fun x hx => h x (List.mem_cons_of_mem _ hx), h c (List.mem_cons_self ..), List.length_cons, Nat.succ_mul]
    omega
theorem fl_take {m : Nat} : ∀ (css : List (List Value)) (i : Nat), (∀ c ∈ css, c.length = m) → i ≤ css.length → css.flatten.take (i * m) = (css.take i).flatten
  | _, 0, _, _ => by simp
  | [], _ + 1, _, h => by simp at h
  | c :: css, i + 1, h, hi => by
    have hc := h c (List.mem_cons_self ..)
    rw [List.flatten_cons, List.take_succ_cons, List.flatten_cons, ← fl_take css i (fun x hx => h x (List.mem_cons_of_mem _ hx)) (by simpa using hi), List.take_append, Nat.succ_mul, hc, List.take_of_length_le (by omega), Nat.add_sub_cancel]
theorem fl_drop {m : Nat} (css : List (List Value)) (i : Nat) (h : ∀ c ∈ css, c.length = m) (hi : i ≤ css.length) : css.flatten.drop (i * m) = (css.drop i).flatten := by
  have h1 : css.flatten = (css.take i).flatten ++ (css.drop i).flatten := by rw [← List.flatten_append, List.take_append_drop]
  have h2 : (css.take i).flatten.length = i * m := by rw [fl_len _ fun c hc => h c (List.mem_of_mem_take hc), List.length_take, Nat.min_eq_left hi]
  rw [h1, ← h2, List.drop_left]
def zTxv : Value := .agg (([.int .i64 0, .int .u64 0, .int .u64 0, .int .u64 0, .int .u64 0, .int .i64 0, .int .i64 0] ++ List.replicate 32 (.int .u8 0) ++ [.int .i64 0, .slice none 0 0] : List Value)).toArray
theorem zero_tx (w : World) : (zeroValue 40).run Tryz.prog w = .ok zTxv w := by kernel_rfl
set_option maxHeartbeats 800000 in
set_option maxRecDepth 100000 in
theorem delcs_any (v : Value) (gs : List (List Value)) (i : Nat) (hi : i < gs.length) (hg : ∀ c ∈ gs, c.length = 41) (h1 : ∀ g ∈ gs, ∀ u ∈ g, u.oneCell' = true) (w : World) (hown : Own w 40 41 v gs.length gs.flatten) (hbig : gs.length ≤ 1048576) :
    Calls Tryz.prog 39 #[v, .int .i64 i, .int .i64 (i + 1)] w fun e w' => ∃ v', e = .returned v' ∧ v'.ownBlock = v.ownBlock ∧
      Own w' 40 41 v' (gs.eraseIdx i).length (gs.eraseIdx i).flatten ∧ Chg (fun b => v.ownBlock = some b) w w' := by
  obtain ⟨g, cap, rfl, _, hglt⟩ := World.ownsRow.form hown (by omega)
  obtain ⟨hnc, hcm⟩ := hown.cap_le
  have hcm2 : cap ≤ 1099511627776 * 1099511627776 := by unfold maxLen at hcm; omega
  have HCM := Lib.hid hcm
  clear hcm
  have hi0 : (0 : Int) ≤ (i : Int) := Int.natCast_nonneg _
  have hi1 : (i : Int) + 1 ≤ (gs.length : Int) := by omega
  have hi2 : (gs.length : Int) ≤ (cap : Int) := by omega
  have hne : ((i : Int) == (i : Int) + 1) = false := by simp; omega
  have hsrc : Cs w (fun b => b = g) 41 (.slice (some ⟨g, (i + 1) * 41, none⟩) (gs.length - (i + 1)) (cap - (i + 1))) (gs.length - (i + 1)) (gs.drop (i + 1)).flatten := by
    have hcs := Cs.of_own hown (S := fun b => b = g) (fun k hk => by simp [Value.ownBlock] at hk; exact hk.symm)
    obtain ⟨hl, A, cap', e, h2, h3, hp⟩ := hcs
    injection e with e1 e2 e3
    subst e1; subst e3
    refine ⟨by rw [fl_len _ fun c hc => hg c (List.mem_of_mem_drop hc), List.length_drop], some ⟨g, (i + 1) * 41, none⟩, cap - (i + 1), rfl, by omega, Nat.le_trans (Nat.sub_le _ _) h3, fun hpos => ⟨g, (i + 1) * 41, rfl, rfl, hglt, fun j u hu => ?_⟩⟩
    obtain ⟨b, off, e, _, _, hc⟩ := hp (by omega)
    simp only [Option.some.injEq, Addr.mk.injEq, and_true] at e
    obtain ⟨rfl, rfl⟩ := e
    have := hc ((i + 1) * 41 + j) u (by rw [← hu, ← fl_drop gs (i + 1) hg (by omega), List.getElem?_drop])
    simpa using this
  have hone : ∀ u ∈ (gs.drop (i + 1)).flatten, u.oneCell' = true := fun u hu => by
    obtain ⟨c, hc, hu⟩ := List.mem_flatten.1 hu
    exact h1 c (List.mem_of_mem_drop hc) u hu
  have hflt := fl_take gs i hg (by omega)
  have hfll := fl_len gs hg
  obtain ⟨n, hn⟩ : ∃ n, n = gs.length := ⟨_, rfl⟩
  rw [← hn] at hi hbig hnc hi1 hi2 hsrc hown hfll
  have HN := Lib.hid hn
  have HFT := Lib.hid hflt
  have HONE := Lib.hid hone
  clear hn hflt hone h1 hfll
  rw [show (Value.slice (some ⟨g, 0, none⟩) gs.length cap) = .slice (some ⟨g, 0, none⟩) n cap by rw [HN.out]]
  go_enter Tryz.func39, Tryz.ntmps39
  go_wp2
  have hic : i ≤ cap := by omega
  have hic1 : i + 1 ≤ n := by omega
  have hi3 : (0 : Int) ≤ (i : Int) + 1 := by omega
  have fin : ∀ (n' : Nat) (w1 : World), n' = n - 1 → Own w1 40 41 (.slice (some ⟨g, 0, none⟩) n' cap) n' ((gs.take i).flatten ++ (gs.drop (i + 1)).flatten) → Chg (fun b => b = g) w w1 →
      ∃ w2, (∀ ty, (Builtin.clear_ #[46] ty #[.slice (some ⟨g, n' * 41, none⟩) (n - n') (cap - n')]).run Tryz.prog w1 = .ok (.tuple #[]) w2) ∧
        Own w2 40 41 (.slice (some ⟨g, 0, none⟩) n' cap) (gs.eraseIdx i).length (gs.eraseIdx i).flatten ∧ Chg (fun b => (Value.slice (some ⟨g, 0, none⟩) n cap).ownBlock = some b) w w2 := by
    intro n' w1 hn' ho hc
    obtain ⟨w2, hr, ho2, hc2⟩ := run_clear_tail w1 (ty := 0) (size := 41) Tryz.underlying46 zero_tx rfl (by decide) (by decide) ho (n' * 41) (n - n') (cap - n') (by omega) (Nat.le_refl _) (by omega)
    refine ⟨w2, fun ty => hr, ?_, (hc.trans hc2 (fun b hb => Or.inl hb)).mono (fun b hb => by subst hb; rfl)⟩
    rw [← List.flatten_append, ← List.eraseIdx_eq_take_drop_succ] at ho2
    have he : (gs.eraseIdx i).length = n' := by rw [List.length_eraseIdx, if_pos (by have := HN.out; omega)]; have := HN.out; omega
    rw [he]; exact ho2
  have Hfin := Lib.hid fin; clear fin
  by_cases hcap : cap = i + 1
  · subst hcap
    have hsrc0 : Cs w (fun b => b = g) 41 (.slice (some ⟨g, 0, none⟩) 0 0) 0 [] := ⟨rfl, _, 0, rfl, by omega, by simp [maxLen], fun h => by omega⟩
    have hi9 : (i : Int) ≤ (i : Int) + 1 := by omega
    go_region_held3 (fun _ => True) (trivial) ((refine step_fits _ (by rfl) _ _ _ (by rfl) Tryz.underlying46 info_tx (hown.drew.short (k := i) (by omega)) (by rfl) (hsrc0.drew) (by rfl) (by simp) (by omega) ?_; intro w1 hown1 hg1))
    rw [HFT.out, List.append_nil] at hown1
    have hdrop : (gs.drop (i + 1)).flatten = [] := by rw [List.drop_of_length_le (by have := HN.out; omega)]; rfl
    rw [Nat.add_zero] at hown1
    obtain ⟨w2, hr2, ho2, hc2⟩ := Hfin.out i w1 (by omega) (by rw [hdrop, List.append_nil]; exact hown1) ⟨hg1.os, hg1.tape, hg1.output, hg1.size, hg1.block⟩
    have hni : n = i + 1 := by omega
    subst hni
    rw [Nat.add_sub_cancel_left] at hr2
    clear hdrop
    go_wp2
    go_ret
    exact ⟨_, rfl, rfl, ho2, hc2⟩
  · have hcap' : ((cap : Int) == (i : Int) + 1) = false := by simp; omega
    go_region_held3 (fun _ => True) (trivial) ((refine step_fits _ (by rfl) _ _ _ (by rfl) Tryz.underlying46 info_tx (hown.drew.short (k := i) (by omega)) (by rfl) (hsrc.drew) (by rfl) HONE.out (by omega) ?_; intro w1 hown1 hg1))
    rw [HFT.out] at hown1
    generalize hn' : i + (n - (i + 1)) = n' at *
    obtain ⟨w2, hr2, ho2, hc2⟩ := Hfin.out n' w1 (by omega) hown1 ⟨hg1.os, hg1.tape, hg1.output, hg1.size, hg1.block⟩
    have hn1 : (n' : Int) ≤ (n : Int) := by omega
    have hn2 : (n' : Int) < (cap : Int) := by omega
    have hn3 : ((cap : Int) == (n' : Int)) = false := by simp; omega
    have hn4 : ¬ cap = n' := by omega
    have hn5 : (0 : Int) ≤ (n' : Int) := by omega
    have Hn := Lib.hid hn'; clear hn'
    go_wp2
    go_ret
    exact ⟨_, rfl, rfl, ho2, hc2⟩
end
section
open Go.RowKit Go.Maps
attribute [-simp] Tryz.isAgg40 Tryz.typeInfo40 Tryz.isAgg37 Tryz.typeInfo37
theorem Two.erase {α β : Type} {R : α → β → Prop} {l : List α} {m : List β} (h : Two R l m) (i : Nat) : Two R (l.eraseIdx i) (m.eraseIdx i) := by
  induction h generalizing i with
  | nil => exact .nil
  | cons h t ih =>
    cases i with
    | zero => exact t
    | succ i => exact .cons h (ih i)
theorem two_cells {w : World} {S : Nat → Prop} {X : List TxE} {css : List (List Value)} (h : Two (tTx.rep w S) X css) : (∀ c ∈ css, c.length = 41) ∧ ∀ c ∈ css, ∀ u ∈ c, u.oneCell' = true := by
  induction h with
  | nil => exact ⟨fun c h => (by cases h), fun c h => (by cases h)⟩
  | cons h t ih =>
    refine ⟨fun c hc => ?_, fun c hc => ?_⟩
    · rcases List.mem_cons.1 hc with rfl | hc
      · exact Sh.rep_size _ _ _ h
      · exact ih.1 c hc
    · rcases List.mem_cons.1 hc with rfl | hc
      · exact Sh.rep_one _ _ _ h
      · exact ih.2 c hc
theorem del_any (w : World) {S : Nat → Prop} {v : Value} {X : List TxE} (h : TxsO S w v X) {i : Nat} (hi : i < X.length) (hl : X.length ≤ 1048576) :
    Calls Tryz.prog 39 #[v, .int .i64 i, .int .i64 (i + 1)] w fun e w' => ∃ v', e = .returned v' ∧ v'.ownBlock = v.ownBlock ∧ TxsO S w' v' (X.eraseIdx i) ∧ Chg (fun b => v.ownBlock = some b) w w' := by
  obtain ⟨css, ho, hS, ht⟩ := h
  have hlen := ht.length
  obtain ⟨c1, c2⟩ := two_cells ht
  rw [hlen] at hi hl ho
  refine (delcs_any v css i hi c1 c2 w ho hl).mono ?_
  rintro e w' ⟨v', rfl, hb, ho', hc⟩
  refine ⟨v', rfl, hb, ⟨css.eraseIdx i, ?_, fun b h => hS b (hb ▸ h), (ht.map fun a c h => Sh.rep_chg h hc fun b hb h => hS b h hb).erase i⟩, hc⟩
  rw [(ht.erase i).length]
  exact ho'
theorem TxsO.at_ {S : Nat → Prop} {w : World} {v : Value} {X : List TxE} (h : TxsO S w v X) {k : Nat} (hk : k < X.length) :
    ∃ b cap C, v = .slice (some ⟨b, 0, none⟩) X.length cap ∧ w.rangeAt b (k * 41) C ∧ C.length = 41 ∧ tTx.rep w S X[k] C ∧ v.ownBlock = some b := by
  obtain ⟨css, ho, hS, ht⟩ := h
  obtain ⟨c1, _⟩ := two_cells ht
  obtain ⟨C, hC, hr⟩ := ht.get k hk
  have hcs := Cs.of_own ho (S := fun b => v.ownBlock = some b) fun _ h => h
  obtain ⟨_, A, cap, rfl, _, _, hp⟩ := hcs
  obtain ⟨b, off, rfl, hb, _, hc⟩ := hp (by omega)
  obtain ⟨b', cap', e, _⟩ := World.ownsRow.form ho (by omega)
  injection e with e
  injection e with e
  injection e with e1 e2
  subst e1; subst e2
  refine ⟨b, cap, C, rfl, fun j u hu => ?_, Sh.rep_size _ _ _ hr, hr, hb⟩
  have hl : C.length = 41 := Sh.rep_size _ _ _ hr
  have hj : j < 41 := by have := (List.getElem?_eq_some_iff.1 hu).1; omega
  have := hc (k * 41 + j) u (by rw [flatten_get css k C c1 hC j hj]; exact hu)
  simpa using this
def idxX (l : List (Int × Int × Int × Unit)) (out : List TxE) (X : List TxE) : Int := match X.findIdx? (fitsX l out) with | some i => i | none => -1
set_option maxHeartbeats 4000000 in
set_option maxRecDepth 100000 in
theorem indexFits_any (w : World) {S T : Nat → Prop} {v : Value} {X : List TxE} {l : List (Int × Int × Int × Unit)} {ss : List Value} {out : List TxE} {gS gM m : Nat} (h : TxsO T w v X) (hl : X.length ≤ 1048576) (hs : StA w S l ss) (hS : Blk w gS 34 ss.toArray) (hM : w.cell? ⟨gM, 0, none⟩ = some (.map (some m))) (hc : SpI w m out) :
    Calls Tryz.prog 38 #[v, .func (Fn.func 36) #[] #[.pointer (some ⟨gS, 0, none⟩), .pointer (some ⟨gM, 0, none⟩)]] w fun e w' => e = .returned (.int .i64 (idxX l out X)) ∧ Below w.heap.size w w' := by
  obtain ⟨A, cap, rfl⟩ := h.form
  have H := Lib.hid h
  have HS := Lib.hid hs
  have HB := Lib.hid hS
  have HM := Lib.hid hM
  have HC := Lib.hid hc
  obtain ⟨n, hn⟩ : ∃ n, n = X.length := ⟨_, rfl⟩
  rw [← hn] at hl ⊢
  have HN := Lib.hid hn
  clear h hs hS hM hc hn
  go_enter Tryz.func38, Tryz.ntmps38
  go_wp2_with fail
  go_loopw [8] (fun i wr => ∃ k : Nat, k ≤ n ∧ i = .int .i64 k ∧ Hid (Below w.heap.size w wr) ∧ Hid (∀ j (hj : j < k) (hj2 : j < X.length), fitsX l out X[j] = false)) (fun i _ => n - (intOf i).toNat)
  case atStart => exact ⟨0, Nat.zero_le _, rfl, Lib.hid (Below.refl _ _), Lib.hid fun j hj => absurd hj (Nat.not_lt_zero _)⟩
  case round =>
    obtain ⟨k, hk, rfl, hb, hne⟩ := hrel
    by_cases hlt : k < n
    · have hltX : k < X.length := by have := HN.out; omega
      obtain ⟨b, cap', C, e, hr, hCl, hrep, _⟩ := (H.out.below hb.out).at_ hltX
      injection e with e1 e2 e3
      subst e1; subst e3
      clear e2
      have HR := Lib.hid hr
      have HJ := Lib.hid (tx_size hCl)
      have HF := Lib.hid (fits_any wr (HS.out.below hb.out) hrep (HB.out.below hb.out HB.out.lt) (cell_low HM.out hb.out) (HC.out.keep (hb.out.block m HC.out.lt)))
      have HX := Lib.hid (show X[k]? = some X[k] from List.getElem?_eq_getElem hltX)
      obtain ⟨x, hx⟩ : ∃ x, x = X[k] := ⟨_, rfl⟩
      rw [← hx] at HX HF
      clear hr hCl hrep hx hltX
      go_wp2_with (refine wpList_load_mid rfl 40 _ rfl b (k * 41) rfl C _ HR.out Tryz.underlying40 rfl HJ.out ?_)
      refine HF.out.mono ?_
      rintro e w2 ⟨rfl, hb2⟩
      have HB2 := Lib.hid (hb.out.trans (hb2.mono hb.out.size))
      obtain ⟨q, hq⟩ : ∃ q, q = fitsX l out x := ⟨_, rfl⟩
      have HQ := Lib.hid hq
      rw [← hq]
      clear hb2 hq HF HR
      cases q
      · have HN2 := Lib.hid (show ∀ j (hj : j < k + 1) (hj2 : j < X.length), fitsX l out X[j] = false from fun j hj hj2 => by
          by_cases e : j = k
          · subst e
            have := HX.out
            rw [List.getElem?_eq_getElem hj2] at this
            rw [Option.some.inj this]
            exact HQ.out.symm
          · exact hne.out j (by omega) hj2)
        clear hne
        go_wp2_with fail
        exact ⟨⟨k + 1, by omega, by push_cast; rfl, HB2, HN2⟩, by simp only [intOf]; omega⟩
      · have HI := Lib.hid (show idxX l out X = (k : Int) from by
          have hkX : k < X.length := by have := HN.out; omega
          have : X.findIdx? (fitsX l out) = some k := by
            rw [List.findIdx?_eq_some_iff_getElem]
            refine ⟨hkX, ?_, fun j hj => by rw [hne.out j hj (by omega)]; simp⟩
            have h2 := HX.out
            rw [List.getElem?_eq_getElem hkX] at h2
            rw [Option.some.inj h2]
            exact HQ.out.symm
          unfold idxX; rw [this])
        clear hne
        go_wp2_with fail
        go_ret
        exact ⟨by rw [HI.out]; rfl, HB2.out⟩
    · have hk' : k = n := by omega
      subst hk'
      have HI := Lib.hid (show idxX l out X = -1 from by
        have : X.findIdx? (fitsX l out) = none := by
          rw [List.findIdx?_eq_none_iff]
          intro x hx
          obtain ⟨j, hj, rfl⟩ := List.getElem_of_mem hx
          exact hne.out j (by have := HN.out; omega) hj
        unfold idxX; rw [this])
      clear hne
      go_wp2_with fail
      go_ret
      exact ⟨by rw [HI.out]; rfl, hb.out⟩
end
section
open Go.RowKit Go.Maps
attribute [-simp] Tryz.isAgg34 Tryz.typeInfo34 Tryz.isAgg40 Tryz.typeInfo40 Tryz.isAgg37 Tryz.typeInfo37 Tryz.isAgg57 Tryz.typeInfo57
theorem cntP_snoc (out : List TxE) (x : TxE) (a : Int) : cntP spendsX fromX (out ++ [x]) a = cntP spendsX fromX out a + if spendsX x && fromX x == a then 1 else 0 := by
  unfold cntP
  rw [List.filter_append, List.length_append]
  congr 1
  by_cases h : (spendsX x && fromX x == a) = true
  · rw [if_pos h, List.filter_cons, if_pos h]; rfl
  · rw [if_neg h, List.filter_cons, if_neg h]; rfl
theorem cntP_le (out : List TxE) (a : Int) : cntP spendsX fromX out a ≤ out.length := List.length_filter_le _ _
def nextX (l : List (Int × Int × Int × Unit)) (n : Nat) (X : List TxE) : List TxE := nextP spendsX fromX nonceX (baseX l) n X []
theorem SpI.same {w : World} {m : Nat} {out : List TxE} (h : SpI w m out) {x : TxE} (hx : spendsX x = false) : SpI w m (out ++ [x]) := by
  obtain ⟨n, f, h1, h2, h3⟩ := h
  refine ⟨n, f, h1, by rw [List.length_append]; omega, fun a => ?_⟩
  rw [h3, cntP_snoc, hx]
  rfl
theorem SpI.look {w : World} {m : Nat} {out : List TxE} (h : SpI w m out) {x : TxE} (hx : (Lit.int .u64 (fromX x)).wf = true) :
    (Instr.lookup 81 (.map (some m)) (.int .u64 (fromX x)) false).run Tryz.prog w = .ok (.int .u64 (cntP spendsX fromX out (fromX x))) w := by
  obtain ⟨n, f, h1, h2, h3⟩ := h
  have := h1.lookup (t := 81) (int_keyed Tryz.underlying35) Tryz.underlying81 (zero_u64 w) (l := .int .u64 (fromX x)) trivial (keyOf_int_mk Tryz.underlying35 hx)
  rw [h3] at this
  exact this
theorem SpI.more {w : World} {m : Nat} {out : List TxE} (h : SpI w m out) {x : TxE} (hx : spendsX x = true) (hw : (Lit.int .u64 (fromX x)).wf = true) (hl : out.length ≤ 1048576) :
    ∃ w', (Instr.mapUpdate 81 (.map (some m)) (.int .u64 (fromX x)) (.int .u64 (IntKind.u64.wrap (cntP spendsX fromX out (fromX x) + 1)))).run Tryz.prog w = .ok () w' ∧ SpI w' m (out ++ [x]) ∧ Chg (fun b => b = m) w w' := by
  obtain ⟨n, f, h1, h2, h3⟩ := h
  obtain ⟨w', hr, hm, hc⟩ := h1.put (t := 81) (int_keyed Tryz.underlying35) Tryz.underlying81 (by simp only [maxLen]; omega) (l := .int .u64 (fromX x)) trivial (keyOf_int_mk Tryz.underlying35 hw) (.int .u64 (IntKind.u64.wrap (cntP spendsX fromX out (fromX x) + 1)))
  refine ⟨w', hr, ⟨n + 1, _, hm, by rw [List.length_append]; simp; omega, fun a => ?_⟩, hc⟩
  rw [cntP_snoc, hx, Bool.true_and]
  by_cases e : fromX x = a
  · subst e
    rw [putL_same]
    have := cntP_le out (fromX x)
    simp [IntKind.wrap, IntKind.signed, IntKind.bits]
    omega
  · rw [putL_other (by intro h; injection h with _ h; exact e h.symm), h3]
    have : (fromX x == a) = false := by simpa using e
    rw [this]
    rfl
theorem heap_lt_ {w : World} {b : Nat} {o : Obj} (h : w.heap[b]? = some o) : b < w.heap.size := (Array.getElem?_eq_some_iff.1 h).1
def NxR (w : World) (gS m : Nat) (T : Nat → Prop) (ss : List Value) (wr : World) : Prop :=
  Blk wr gS 34 ss.toArray ∧ wr.cell? ⟨m + 1, 0, none⟩ = some (.map (some m)) ∧ Below w.heap.size w wr ∧ m + 2 ≤ wr.heap.size ∧ ∀ k, T k → Nw w.heap.size wr k
theorem NxR.chg {w wr w' : World} {gS m : Nat} {T P : Nat → Prop} {ss : List Value} (h : NxR w gS m T ss wr) (hc : Chg P wr w') (hP : ∀ k, P k → k ≠ gS ∧ k ≠ m + 1 ∧ w.heap.size ≤ k ∧ ¬ T k) : NxR w gS m T ss w' := by
  obtain ⟨h1, h2, h3, h4, h5⟩ := h
  refine ⟨h1.chg hc fun h => (hP _ h).1 rfl, (World.cell?_of_block (a := ⟨m + 1, 0, none⟩) (hc.block (m + 1) (by omega) fun h => (hP _ h).2.1 rfl)).trans h2, h3.trans (hc.below h3.size fun k hk => (hP k hk).2.2.1), Nat.le_trans h4 hc.size, fun k hk => ?_⟩
  have hk2 := h5 k hk
  have hlt : k < wr.heap.size := by
    obtain ⟨_, _, _, h⟩ := hk2
    exact heap_lt_ h
  exact hk2.to (Nat.le_refl _) (hc.block k hlt fun h => (hP k h).2.2.2 hk)
def NxF (w : World) (gS m : Nat) (T : Nat → Prop) (ss : List Value) (a b : Value) (X out : List TxE) (wr : World) : Prop :=
  TxsO T wr a X ∧ TxsO T wr b out ∧ NxR w gS m T ss wr
theorem NxR.below {w wr w' : World} {gS m : Nat} {T : Nat → Prop} {ss : List Value} (h : NxR w gS m T ss wr) (hb : Below wr.heap.size wr w') : NxR w gS m T ss w' := by
  obtain ⟨h1, h2, h3, h4, h5⟩ := h
  refine ⟨h1.below hb h1.lt, cell_low h2 hb, h3.trans (hb.mono h3.size), Nat.le_trans h4 hb.size, fun k hk => ?_⟩
  have hk2 := h5 k hk
  have hlt : k < wr.heap.size := by
    obtain ⟨_, _, _, h⟩ := hk2
    exact heap_lt_ h
  exact hk2.to (Nat.le_refl _) (hb.block k hlt)
theorem NxF.below {w wr w' : World} {gS m : Nat} {T : Nat → Prop} {ss : List Value} {a b : Value} {X out : List TxE} (h : NxF w gS m T ss a b X out wr) (hb : Below wr.heap.size wr w') : NxF w gS m T ss a b X out w' :=
  ⟨h.1.below hb, h.2.1.below hb, h.2.2.below hb⟩
theorem TxsO.chg {w w' : World} {T P : Nat → Prop} {v : Value} {X : List TxE} (h : TxsO T w v X) (hc : Chg P w w') (hT : ∀ k, T k → ¬ P k) (hv : ∀ k, v.ownBlock = some k → ¬ P k) : TxsO T w' v X := by
  have n1 := h
  obtain ⟨_, _, n1, _⟩ := n1
  exact h.keep hc.size (fun k hk hlt => hc.block k hlt (hk.elim (hT k) (hv k))) (fun _ h _ => h) n1
theorem NxF.put {w wr w' : World} {gS m : Nat} {T : Nat → Prop} {ss : List Value} {a b : Value} {X out : List TxE} (h : NxF w gS m T ss a b X out wr) (hc : Chg (fun k => k = m) wr w') (hT : ∀ k, T k → k < m) (ha : ∀ k, a.ownBlock = some k → k < m) (hb : ∀ k, b.ownBlock = some k → m + 2 ≤ k) (hg : gS < m) (hw : w.heap.size ≤ m) : NxF w gS m T ss a b X out w' := by
  obtain ⟨h1, h2, h3⟩ := h
  refine ⟨h1.chg hc (fun k hk e => ?_) (fun k hk e => ?_), h2.chg hc (fun k hk e => ?_) (fun k hk e => ?_), h3.chg hc fun k e => ?_⟩
  · have := hT k hk; have e : k = m := e; omega
  · have := ha k hk; have e : k = m := e; omega
  · have := hT k hk; have e : k = m := e; omega
  · have := hb k hk; have e : k = m := e; omega
  · have e : k = m := e
    subst e
    exact ⟨by omega, by omega, hw, fun h => by have := hT k h; omega⟩
theorem NxF.app {w w5 w6 : World} {gS m : Nat} {T : Nat → Prop} {ss : List Value} {a o o' : Value} {X out : List TxE} {css : List (List Value)} {x : TxE} {C : List Value} {ob : Obj} (ha : TxsO T w5 a X) (hns : ∀ b, o.ownBlock = some b → ¬ T b) (htwo : Two (tTx.rep w5 T) out css) (hR : NxR w gS m T ss w5) (hsp : SpI w5 m (out ++ [x])) (hr : tTx.rep w5 T x C)
    (ho6 : Own w6 40 41 o' (out.length + 1) (css.flatten ++ C)) (hc6 : Chg (fun b => o.ownBlock = some b) (w5.alloc ob) w6) (hat : o'.ownBlock = o.ownBlock ∨ o'.ownBlock = some (w5.alloc ob).heap.size)
    (hT : ∀ k, T k → k < m) (hak : ∀ k, a.ownBlock = some k → k < m) (hok : ∀ k, o.ownBlock = some k → m + 2 ≤ k) (hg : gS < m) (hw : w.heap.size ≤ m) :
    NxF w gS m T ss a o' X (out ++ [x]) w6 ∧ SpI w6 m (out ++ [x]) ∧ ∀ k, o'.ownBlock = some k → m + 2 ≤ k := by
  have hal := (Below.refl w5.heap.size w5).alloc (Nat.le_refl _) ob
  have hz : (w5.alloc ob).heap.size = w5.heap.size + 1 := by simp
  have h2 := hR.2.2.2.1
  have hok' : ∀ k, o'.ownBlock = some k → m + 2 ≤ k := fun k hk => by
    rcases hat with h | h
    · exact hok k (h ▸ hk)
    · rw [h, hz] at hk; injection hk with hk; omega
  refine ⟨⟨(ha.below hal).chg hc6 (fun k hk e => hns k e hk) (fun k hk e => ?_), ?_, (hR.below hal).chg hc6 fun k e => ⟨?_, ?_, ?_, hns k e⟩⟩, ?_, hok'⟩
  · have := hak k hk; have := hok k e; omega
  · exact TxsO.snoc (S' := T) hns htwo (Below.refl _ _) hr (Below.refl _ _) ho6 hc6 (fun _ h _ => h) (fun b h _ h' => hns b h' h) (fun _ h _ => h) fun b h h' => by have := hok' b h; have := hT b h'; omega
  · have := hok k e; omega
  · have := hok k e; omega
  · have := hok k e; omega
  · exact (hsp.keep (hal.block m hsp.lt)).keep (hc6.block m (by omega) fun e => by have := hok m e; omega)
theorem NxF.del {w w6 w7 : World} {gS m : Nat} {T : Nat → Prop} {ss : List Value} {a a' b : Value} {X X' out : List TxE} (h : NxF w gS m T ss a b X out w6) (hsp : SpI w6 m out) (ha : TxsO T w7 a' X') (hc : Chg (fun k => a.ownBlock = some k) w6 w7)
    (hak : ∀ k, a.ownBlock = some k → k < m ∧ gS < k ∧ w.heap.size ≤ k) (hok : ∀ k, b.ownBlock = some k → m + 2 ≤ k) : NxF w gS m T ss a' b X' out w7 ∧ SpI w7 m out := by
  obtain ⟨h1, h2, h3⟩ := h
  have n1 := h1
  obtain ⟨_, _, n1, _⟩ := n1
  refine ⟨⟨ha, h2.chg hc (fun k hk e => n1 k e hk) (fun k hk e => ?_), h3.chg hc fun k e => ⟨?_, ?_, ?_, n1 k e⟩⟩, hsp.keep (hc.block m hsp.lt fun e => ?_)⟩
  · have := (hak k e).1; have := hok k hk; omega
  · have := (hak k e).2.1; omega
  · have := (hak k e).1; omega
  · exact (hak k e).2.2
  · have := (hak m e).1; omega
theorem NxF.done {w wr : World} {gS m : Nat} {T : Nat → Prop} {ss : List Value} {a b : Value} {X out : List TxE} (h : NxF w gS m T ss a b X out wr) (hb : ∀ k, b.ownBlock = some k → m + 2 ≤ k) (hw : w.heap.size ≤ m) (hT : ∀ k, T k → k < m) : TxsN w.heap.size wr b out := by
  obtain ⟨_, h2, h3⟩ := h
  refine ⟨fun k hk => by have := hb k hk; omega, h2.keep (Nat.le_refl _) (fun _ _ _ => rfl) (fun k hk _ => ⟨h3.2.2.2.2 k hk, fun e => ?_⟩) fun k hk h => h.2 hk⟩
  have := hb k e; have := hT k hk; omega
def lenV : Value → Nat
  | .slice _ n _ => n
  | _ => 0
def NextI (w : World) (gS m : Nat) (T : Nat → Prop) (ss : List Value) (vL : Value) (l : List (Int × Int × Int × Unit)) (X0 : List TxE) (N : Nat) (a b : Value) (wr : World) : Prop :=
  ∃ X out, X.length ≤ 32 ∧ out.length ≤ N ∧ nextX l N X0 = nextP spendsX fromX nonceX (baseX l) (N - out.length) X out ∧ NxF w gS m T ss a b X out wr ∧ SpI wr m out ∧ a.ownBlock = vL.ownBlock ∧ ∀ k, b.ownBlock = some k → m + 2 ≤ k
set_option maxHeartbeats 8000000 in
set_option maxRecDepth 100000 in
theorem poolNext_any (w : World) {S : Nat → Prop} {sent : Value} {g most : Nat} {v : Value} {X : List TxE} {l : List (Int × Int × Int × Unit)} {ss : List Value} (hp : PoolX w g v most X) (hk : Pk w sent) (hs : StA w S l ss) (n : Int) :
    Calls Tryz.prog 15 #[.pointer (some ⟨g, 0, none⟩), .agg ss.toArray, .int .i64 n] w fun e w' => ∃ v', e = .returned v' ∧ TxsN w.heap.size w' v' (nextX l (min n 8).toNat X) ∧ Below w.heap.size w w' := by
  have hal := (Below.refl w.heap.size w).alloc (Nat.le_refl _) (.cells ss.toArray 34)
  have hgt : g < w.heap.size := hp.1.lt
  have HA := Lib.hid (poolAll_any (w.alloc (.cells ss.toArray 34)) (X := X) (most := most) (v := v) (g := g) ⟨hp.1.below hal, hp.2⟩ (hk.below hal))
  have hXl : X.length ≤ 32 := by have h1 := hp.1.1; have h2 := hp.1.2.1; rw [List.length_map] at h2; omega
  have HB := Lib.hid (Blk.new w 34 ss.toArray)
  have HAL := Lib.hid hal
  have HS := Lib.hid (hs.below hal)
  have HXL := Lib.hid hXl
  have HS0 := Lib.hid hs
  have hmk := fun w => run_makeMap (P := Tryz.prog) 81 w
  obtain ⟨N, hN⟩ : ∃ N : Nat, N = (min n 8).toNat := ⟨_, rfl⟩
  rw [← hN]
  have HN := Lib.hid hN
  clear hal hp hk hs hXl hN
  go_enter Tryz.func15, Tryz.ntmps15
  go_wp2_with fail
  all_goals
    refine HA.out.mono ?_
    rintro e wA ⟨vL, rfl, htx, hbA⟩
    obtain ⟨hvL, htx⟩ := htx
    obtain ⟨T, hT⟩ : ∃ T : Nat → Prop, T = fun b => Nw (w.alloc (.cells ss.toArray 34)).heap.size wA b ∧ vL.ownBlock ≠ some b := ⟨_, rfl⟩
    rw [← hT] at htx
    have hTlt : ∀ b, T b → b < wA.heap.size := fun b hb => by
      rw [hT] at hb
      obtain ⟨⟨_, cs, t, hh⟩, _⟩ := hb
      exact heap_lt_ hh
    have HT := Lib.hid hT
    have HTL := Lib.hid hTlt
    have HVL := Lib.hid hvL
    have HTX := Lib.hid htx
    have hb0 : Below w.heap.size w wA := HAL.out.trans (hbA.mono HAL.out.size)
    have hS0 := HS.out.below hbA
    have hB0 := HB.out.below hbA HB.out.lt
    obtain ⟨wM, hwM⟩ : ∃ wM, wM = (wA.alloc (.map #[] 0)).alloc (.cells #[.map (some wA.heap.size)] 81) := ⟨_, rfl⟩
    have hbM : Below wA.heap.size wA wM := by rw [hwM]; exact ((Below.refl _ wA).alloc (Nat.le_refl _) _).alloc (by simp) _
    have hSM := (SpI.made wA).keep (w' := wM) (by rw [hwM]; exact Below.heap_alloc _ _ _ (by simp))
    have hHM : wM.cell? ⟨wA.heap.size + 1, 0, none⟩ = some (.map (some wA.heap.size)) := by
      have h := (Blk.new (wA.alloc (.map #[] 0)) 81 #[.map (some wA.heap.size)]).cell 0
      rw [show (wA.alloc (.map #[] 0)).heap.size = wA.heap.size + 1 by simp] at h
      rw [hwM]; exact h
    have HBM := Lib.hid (hb0.trans (hbM.mono hb0.size))
    have HXM := Lib.hid (HTX.out.below hbM)
    have HSM := Lib.hid (hS0.below hbM)
    have HBS := Lib.hid (hB0.below hbM hB0.lt)
    have HSP := Lib.hid hSM
    have HHM := Lib.hid hHM
    have hzM : wM.heap.size = wA.heap.size + 2 := by rw [hwM]; simp
    have HWM := Lib.hid hwM
    have HZM := Lib.hid hzM
    have HGA := Lib.hid (show w.heap.size < wA.heap.size from by have := hbA.size; rw [World.size_alloc] at this; omega)
    have HTN := Lib.hid (show ∀ k, T k → Nw w.heap.size wM k from fun k hk => by
      have hlt := hTlt k hk
      rw [hT] at hk
      exact hk.1.to (by simp) (hbM.block k hlt))
    clear hT hTlt hvL htx hb0 hS0 hB0 hbM hSM hHM hbA hwM hzM
    go_wp2_with fail
    rw [← HWM.out]
    have HVM := Lib.hid (show ∀ k, vL.ownBlock = some k → k < wA.heap.size from fun k hk => HTX.out.lt hk)
    obtain ⟨m, hm⟩ : ∃ m, m = wA.heap.size := ⟨_, rfl⟩
    rw [← hm] at HTL HSP HHM HZM HGA HVM ⊢
    have hst : NextI w w.heap.size m T ss vL l X N vL (.slice none 0 0) wM := ⟨X, [], HXL.out, Nat.zero_le _, rfl, ⟨HXM.out, TxsO.nil_ _ _, HBS.out, HHM.out, HBM.out, Nat.le_of_eq HZM.out.symm, HTN.out⟩, HSP.out, rfl, fun k hk => by simp [Value.ownBlock] at hk⟩
    have HST := Lib.hid hst
    clear hst hm HSM HBS HSP HHM HXM HT HTN HBM HA HB hmk
    go_loopw [7, 10] (fun a b wr => Hid (NextI w w.heap.size m T ss vL l X N a b wr)) (fun _ b _ => N - lenV b)
    case atStart => exact HST
    case round =>
      obtain ⟨X1, out, hx1, ho1, hnx, hF, hsp, hoa, hob⟩ := hrel.out
      obtain ⟨Aa, ca, rfl⟩ := hF.1.form
      obtain ⟨Ab, cb, rfl⟩ := hF.2.1.form
      obtain ⟨n1, hn1⟩ : ∃ n1, n1 = X1.length := ⟨_, rfl⟩
      obtain ⟨n2, hn2⟩ : ∃ n2, n2 = out.length := ⟨_, rfl⟩
      have HFF := Lib.hid hF
      have HSP := Lib.hid hsp
      have HNX := Lib.hid hnx
      have HOA := Lib.hid hoa
      have HOB := Lib.hid hob
      have HSA := Lib.hid (HS0.out.below hF.2.2.2.2.1)
      have HI := Lib.hid (indexFits_any wr hF.1 (by omega) HSA.out hF.2.2.1 hF.2.2.2.1 hsp)
      rw [← hn1] at HI HFF HOA hx1
      rw [← hn2] at HFF HOB ho1
      rw [← hn1, ← hn2]
      have HN1 := Lib.hid hn1
      have HN2 := Lib.hid hn2
      clear hF hsp hnx hoa hob hrel hn1 hn2
      by_cases hlt : n2 < N
      · have hlz : ∀ z : Int, ((z = 8 ∧ 8 ≤ n) ∨ (z = n ∧ n ≤ 8)) → (n2 : Int) < z := by have := HN.out; omega
        first | have hl8 := hlz 8 (.inl ⟨rfl, by omega⟩) | have hl8 := hlz n (.inr ⟨rfl, by omega⟩)
        clear hlz
        go_wp2_with fail
        refine HI.out.mono ?_
        rintro e w1 ⟨rfl, hb1⟩
        cases hfi : X1.findIdx? (fitsX l out) with
        | none =>
          have hid : idxX l out X1 = -1 := by unfold idxX; rw [hfi]
          rw [hid]
          have HFI := Lib.hid hfi
          have HB1 := Lib.hid hb1
          clear hid hfi hb1 HI
          have HE := Lib.hid (show nextX l N X = out from by
            rw [HNX.out]
            obtain ⟨k, hk⟩ : ∃ k, N - out.length = k + 1 := ⟨N - out.length - 1, by have := HN2.out; omega⟩
            rw [hk]
            exact (nextP_none HFI.out).1)
          have HD := Lib.hid ((HFF.out.below HB1.out).done HOB.out (Nat.le_of_lt HGA.out) HTL.out)
          have HBB := Lib.hid (HFF.out.2.2.below HB1.out).2.2.1
          go_wp2_with fail
          go_ret
          exact ⟨_, rfl, by rw [HE.out]; exact HD.out, HBB.out⟩
        | some i =>
          have hid : idxX l out X1 = (i : Int) := by unfold idxX; rw [hfi]
          rw [hid]
          have HFI := Lib.hid hfi
          have HF1 := Lib.hid (HFF.out.below hb1)
          have HSP1 := Lib.hid (HSP.out.keep (hb1.block m HSP.out.lt))
          have hiX : i < X1.length := (List.findIdx?_eq_some_iff_getElem.1 hfi).1
          have hin : (i : Int) < (n1 : Int) := by have := HN1.out; omega
          have hin0 : ¬ ((i : Int) < 0) := by omega
          obtain ⟨b, cap', C, e, hr, hCl, hrep, hbo⟩ := HF1.out.1.at_ hiX
          rw [← HN1.out] at e
          injection e with e1 e2 e3
          subst e1; subst e3
          clear e2
          obtain ⟨x, hx⟩ : ∃ x, x = X1[i] := ⟨_, rfl⟩
          rw [← hx] at hrep
          have HR := Lib.hid hr
          have HJ := Lib.hid (tx_size hCl)
          have HREP := Lib.hid hrep
          have HCL := Lib.hid hCl
          have HC1 := Lib.hid (Sh.rep_one _ _ _ hrep)
          have HX := Lib.hid hx
          have HIX := Lib.hid hiX
          clear hid hfi hb1 HI HFF HSP hr hrep hCl hbo hx
          go_wp2_with (first
            | (refine wpList_load_mid rfl 40 _ rfl b (i * 41) rfl C _ HR.out Tryz.underlying40 rfl HJ.out ?_)
            | (refine wpList_store_blk (cs0 := [.int .i64 0, .int .u64 0, .int .u64 0, .int .u64 0, .int .u64 0, .int .i64 0, .int .i64 0] ++ List.replicate 32 (.int .u8 0) ++ [.int .i64 0, .slice none 0 0]) (cs := C) rfl 40 _ _ rfl (Blk.new w1 _ _) rfl rfl (by rw [HCL.out]; rfl) HJ.out HC1.out ?_; intro w4 hb4 hc4; have HB4 := Lib.hid hb4; have HC4 := Lib.hid hc4; clear hb4 hc4)
            | (refine wpList_load_blk' rfl 40 _ rfl HB4.out rfl Tryz.underlying40 rfl HJ.out ?_))
          have hal1 := (Below.refl w1.heap.size w1).alloc (Nat.le_refl _) (.cells (([.int .i64 0, .int .u64 0, .int .u64 0, .int .u64 0, .int .u64 0, .int .i64 0, .int .i64 0] ++ List.replicate 32 (.int .u8 0) ++ [.int .i64 0, .slice none 0 0] : List Value)).toArray 40)
          have hb14 := hal1.trans (HC4.out.below hal1.size fun k hk => Nat.le_of_eq hk.symm)
          have hr4 := Sh.rep_to (fun k _ hlt => ⟨ltle hlt hb14.size, hb14.block k hlt⟩) (fun _ h _ => h) _ _ _ HREP.out
          refine (spends_any w4 hr4).mono ?_
          rintro e w5 ⟨rfl, hb45⟩
          have hb15 := hb14.trans (hb45.mono hb14.size)
          have hf5 := HF1.out.below hb15
          have hsp5 := HSP1.out.keep (hb15.block m HSP1.out.lt)
          have hr5 := Sh.rep_to (fun k _ hlt => ⟨ltle hlt hb15.size, hb15.block k hlt⟩) (fun _ h _ => h) _ _ _ HREP.out
          have hb5 := HB4.out.below hb45 HB4.out.lt
          have hfw := from_wf HREP.out
          have hct := (tx_cells HREP.out).2.1
          have hcm : w5.cell? ⟨m + 1, 0, none⟩ = some (.map (some m)) := hf5.2.2.2.1
          have hc5 : w5.cell? ⟨w1.heap.size, 1, none⟩ = some (.int .u64 (fromX x)) := by rw [hb5.cell, getElem?_toArray, hct]
          have HRX := Lib.hid (show nextX l N X = nextP spendsX fromX nonceX (baseX l) (N - (out ++ [x]).length) (X1.eraseIdx i) (out ++ [x]) from by
            rw [HNX.out]
            obtain ⟨k, hk⟩ : ∃ k, N - out.length = k + 1 := ⟨N - out.length - 1, by have := HN2.out; omega⟩
            rw [hk, (nextP_some HFI.out HIX.out).1, HX.out]
            congr 1
            rw [List.length_append, List.length_cons, List.length_nil]; omega)
          have HAK := Lib.hid (show ∀ k, (Value.slice (some ⟨b, 0, none⟩) n1 ca).ownBlock = some k → k < m ∧ w.heap.size < k ∧ w.heap.size ≤ k from fun k hk => by
            rw [HOA.out] at hk
            have h1 := HVM.out k hk
            have h2 := HVL.out k hk
            rw [World.size_alloc] at h2
            exact ⟨h1, h2, by omega⟩)
          have HU2 := Lib.hid (show n2 + 1 ≤ maxLen ∧ (n2 + 1) * 120 ≤ 140737488355328 from by
            have h1 := HN.out
            exact ⟨by simp only [maxLen]; omega, by omega⟩)
          obtain ⟨q, hq⟩ : ∃ q, q = spendsX x := ⟨_, rfl⟩
          rw [← hq]
          obtain ⟨cN, hcN⟩ : ∃ cN : Int, cN = (cntP spendsX fromX out (fromX x) : Nat) := ⟨_, rfl⟩
          have hlk := hsp5.look hfw
          rw [← hcN] at hlk
          have h6 : ∃ w6, ((q = false ∧ w6 = w5) ∨ (q = true ∧ (Instr.mapUpdate 81 (.map (some m)) (.int .u64 (fromX x)) (.int .u64 (IntKind.u64.wrap (cN + 1)))).run Tryz.prog w5 = .ok () w6)) ∧ NxF w w.heap.size m T ss (.slice (some ⟨b, 0, none⟩) n1 ca) (.slice Ab n2 cb) X1 out w6 ∧ SpI w6 m (out ++ [x]) := by
            cases q
            · exact ⟨w5, .inl ⟨rfl, rfl⟩, hf5, hsp5.same hq.symm⟩
            · obtain ⟨w6, h1, h2, h3⟩ := hsp5.more hq.symm hfw (by have := HN.out; have := HN2.out; omega)
              refine ⟨w6, .inr ⟨rfl, by rw [hcN]; exact h1⟩, hf5.put h3 HTL.out (fun k hk => (HAK.out k hk).1) HOB.out HGA.out (Nat.le_of_lt HGA.out), h2⟩
          obtain ⟨w6, hor, hf6, hs6⟩ := h6
          obtain ⟨bz, cap2, C2, e, hr6, hCl6, hrep6, _⟩ := hf6.1.at_ HIX.out
          injection e with e1 e2 e3
          injection e1 with e1
          injection e1 with e1 _ _
          subst e1; subst e3
          rw [← HX.out] at hrep6
          obtain ⟨css, ho6, hns6, htw6⟩ := hf6.2.1
          rw [← HN2.out] at ho6
          have HRA := Lib.hid hr6
          have HJ6 := Lib.hid (tx_size hCl6)
          have HL6 := Lib.hid hCl6
          have HI6 := Lib.hid (show (Tryz.prog.info? 40).map (fun i => (i.zero.map (fun z => z.cells.size), i.size)) = some (some C2.length, C2.length) from by rw [hCl6]; exact sizes_tx)
          have HO6 := Lib.hid (show ∀ ob, Own (w6.alloc ob) 40 41 (.slice Ab n2 cb) n2 css.flatten from fun ob => own_keep ho6 fun b hb => Below.heap_alloc w6 ob b (own_lt ho6 hb))
          have HS6 := Lib.hid (Cs.of_new w6 40 (size := 41) 1 (cs := C2) (by rw [hCl6]) (by simp only [maxLen]; decide))
          have H16 := Lib.hid (Sh.rep_one _ _ _ hrep6)
          have HREP6 := Lib.hid hrep6
          have HNS6 := Lib.hid hns6
          have HTW6 := Lib.hid htw6
          have HF6 := Lib.hid hf6
          have HSP6 := Lib.hid hs6
          have HX1 := Lib.hid (show X1.length ≤ 32 by have := HN1.out; omega)
          clear hal1 hb14 hr4 hb45 hb15 hf5 hr5 hb5 hct hq HB4 HC4 HREP HF1 HSP1 hfw hsp5 hcN hf6 hs6 hr6 hCl6 hrep6 ho6 hns6 htw6 e2 HR HJ HCL HC1 HFI
          rcases hor with ⟨rfl, rfl⟩ | ⟨rfl, hmu⟩
          all_goals
            go_wp2_with (first
              | (refine wpList_load_mid rfl 40 _ rfl b (i * 41) rfl C2 _ HRA.out Tryz.underlying40 rfl HJ6.out ?_)
              | (refine wpList_row1 rfl 46 40 _ rfl Tryz.underlying46 (.agg C2.toArray) rfl C2 rfl HI6.out (by rw [HL6.out]; decide) (by rw [HL6.out]; decide) ?_)
              | (at_builtin; refine wpList_app _ rfl _ _ _ rfl Tryz.underlying46 info_tx rfl (by decide) (HO6.out _) rfl HS6.out rfl H16.out HU2.out.1 HU2.out.2 ?_; intro v7 w7 ho7 hc7 hnil7 hat7; clear hnil7; have HO7 := Lib.hid ho7; clear ho7; have HC7 := Lib.hid hc7; clear hc7; have HAT7 := Lib.hid hat7; clear hat7))
            obtain ⟨hf7, hs7, hb7⟩ := NxF.app HF6.out.1 HNS6.out HTW6.out HF6.out.2.2 HSP6.out HREP6.out (by rw [← HN2.out]; exact HO7.out) HC7.out HAT7.out HTL.out (fun k hk => (HAK.out k hk).1) HOB.out HGA.out (Nat.le_of_lt HGA.out)
            have hd := del_any w7 hf7.1 HIX.out (by have := HX1.out; omega)
            have HXL7 := Lib.hid (show (X1.eraseIdx i).length ≤ 32 from Nat.le_trans (List.length_eraseIdx_le ..) HX1.out)
            have HOL := Lib.hid (show (out ++ [x]).length = n2 + 1 from by rw [List.length_append, ← HN2.out]; rfl)
            obtain ⟨A7, c7, rfl⟩ := HO7.out.form
            refine hd.mono ?_
            rintro e w8 ⟨v8, rfl, hob8, hx8, hc8⟩
            obtain ⟨hf8, hs8⟩ := NxF.del hf7 hs7 hx8 hc8 HAK.out hb7
            have HST := Lib.hid (show NextI w w.heap.size m T ss vL l X N v8 (.slice A7 (n2 + 1) c7) w8 from ⟨X1.eraseIdx i, out ++ [x], HXL7.out, by rw [HOL.out]; omega, HRX.out, hf8, hs8, hob8.trans HOA.out, hb7⟩)
            clear hf7 hs7 hb7 hd hob8 hx8 hc8 hf8 hs8
            go_wp2_with fail
            exact ⟨HST, by simp only [lenV]; omega⟩
      · have e : n2 = N := by omega
        subst e
        have hlz : ∀ z : Int, ((z = 8 ∧ 8 ≤ n) ∨ (z = n ∧ n ≤ 8)) → ¬ (n2 : Int) < z := by have := HN.out; omega
        first | have hl8 := hlz 8 (.inl ⟨rfl, by omega⟩) | have hl8 := hlz n (.inr ⟨rfl, by omega⟩)
        have HE := Lib.hid (show nextX l n2 X = out from by
          rw [HNX.out, ← HN2.out, Nat.sub_self]; rfl)
        have HD := Lib.hid (HFF.out.done HOB.out (Nat.le_of_lt HGA.out) HTL.out)
        have HBB := Lib.hid HFF.out.2.2.2.2.1
        clear hlz HI
        go_wp2_with fail
        go_ret
        exact ⟨_, rfl, by rw [HE.out]; exact HD.out, HBB.out⟩
end
section
open Go.RowKit Go.Maps
attribute [-simp] Tryz.isAgg34 Tryz.typeInfo34 Tryz.isAgg40 Tryz.typeInfo40 Tryz.isAgg37 Tryz.typeInfo37 Tryz.isAgg57 Tryz.typeInfo57
def DnI (w : World) (m : Nat) (D : List (List UInt8)) : Prop :=
  ∃ n f, MapL Tryz.prog 9 (fun _ => True) w m n f ∧ n ≤ D.length ∧ ∀ b : List UInt8, (f (.string b)).getD (.bool false) = .bool (decide (b ∈ D))
theorem DnI.lt {w : World} {m : Nat} {D : List (List UInt8)} (h : DnI w m D) : m < w.heap.size := by
  obtain ⟨n, f, h, _⟩ := h
  exact h.lt
theorem DnI.keep {w w' : World} {m : Nat} {D : List (List UInt8)} (h : DnI w m D) (hk : w'.heap[m]? = w.heap[m]?) : DnI w' m D := by
  obtain ⟨n, f, h, r⟩ := h
  exact ⟨n, f, h.keep hk, r⟩
theorem DnI.made (w : World) : DnI (w.alloc (.map #[] 0)) w.heap.size [] := ⟨0, _, MapL.made _ _ _ w, Nat.le_refl _, fun _ => rfl⟩
theorem key_str {b : List UInt8} (h : b.length ≤ 1099511627776) : keyOf Tryz.prog 9 (strV b) = some (.string b) :=
  WideMaps.keyOf_string_mk (P := Tryz.prog) Tryz.underlying9 (s := str b) (by show b.toArray.size ≤ maxLen; rw [List.size_toArray]; simp only [maxLen]; omega)
theorem DnI.more {w : World} {m : Nat} {D : List (List UInt8)} (h : DnI w m D) {b : List UInt8} (hb : b.length ≤ 1099511627776) (hl : D.length < maxLen) :
    ∃ w', (Instr.mapUpdate 93 (.map (some m)) (.string (str b)) (.bool true)).run Tryz.prog w = .ok () w' ∧ DnI w' m (D ++ [b]) ∧ Chg (fun b => b = m) w w' := by
  obtain ⟨n, f, h1, h2, h3⟩ := h
  obtain ⟨w', hr, hm, hc⟩ := h1.put (t := 93) (string_keyed Tryz.underlying9) Tryz.underlying93 (by omega) (l := .string b) trivial (key_str hb) (.bool true)
  refine ⟨w', hr, ⟨n + 1, _, hm, by rw [List.length_append]; simp; omega, fun a => ?_⟩, hc⟩
  by_cases e : b = a
  · subst e
    rw [putL_same]
    simp
  · rw [putL_other (by intro h; injection h with h; exact e h.symm), h3]
    have : ¬ a = b := fun h => e h.symm
    simp [this]
def goneX (l : List (Int × Int × Int × Unit)) (D : List (List UInt8)) (b : List UInt8) (x : TxE) : Bool := decide (b ∈ D) || staleX l x
theorem zero_bool (w : World) : (zeroValue 4).run Tryz.prog w = .ok (.bool false) w := by kernel_rfl
set_option maxHeartbeats 8000000 in
set_option maxRecDepth 100000 in
theorem gone_any (w : World) {S : Nat → Prop} {sent : Value} {l : List (Int × Int × Int × Unit)} {ss : List Value} {x : TxE} {bs : List UInt8} {D : List (List UInt8)} {gS gM m : Nat} (hs : StA w S l ss) (hS : Blk w gS 34 ss.toArray) (hM : w.cell? ⟨gM, 0, none⟩ = some (.map (some m))) (hc : DnI w m D)
    (hx : tTx.dec bs = some x) (hl : bs.length ≤ 65536) (hk : Pk w sent) :
    Calls Tryz.prog 42 #[strV bs, .pointer (some ⟨gM, 0, none⟩), .pointer (some ⟨gS, 0, none⟩)] w fun e w' => e = .returned (.bool (goneX l D bs x)) ∧ Below w.heap.size w w' := by
  obtain ⟨n, f, hmap, _, hcnt⟩ := hc
  have hkey := key_str (b := bs) (by omega)
  have HI := Lib.hid (st_of hs)
  have HS := Lib.hid hs
  have HKEY := Lib.hid hkey
  have HCNT := Lib.hid (hcnt bs)
  have HX := Lib.hid hS
  have HM := Lib.hid hM
  have HP := Lib.hid hmap
  have HPK := Lib.hid hk
  have HDX := Lib.hid hx
  have HLX := Lib.hid hl
  clear hs hkey hcnt hmap hS hM hk hx hl
  unfold strV at HKEY ⊢
  go_enter Tryz.func42, Tryz.ntmps42
  go_wp2_with fail
  have hx := HX.out.drew
  have hm : w.drew.cell? ⟨gM, 0, none⟩ = some (.map (some m)) := HM.out
  have hp : MapL Tryz.prog 9 (fun _ => True) w.drew m n f := HP.out
  have hb := (Below.refl w.heap.size w).drew
  clear HX HM HP
  obtain ⟨q, hq⟩ : ∃ q, q = decide (bs ∈ D) := ⟨_, rfl⟩
  rw [← hq] at HCNT
  have HQ := Lib.hid hq
  clear hq
  refine wp_region_segsV [([0, 1, 2, 3, 4, 5], [6]), ([], [7]), ([8], [9])] (by kernel_rfl) (by kernel_rfl) (by kernel_rfl) (by kernel_rfl)
    (SegV.mk (fun w' => Blk w' gS 34 ss.toArray ∧ w'.cell? ⟨gM, 0, none⟩ = some (.map (some m)) ∧ MapL Tryz.prog 9 (fun _ => True) w' m n f) (fun _ _ => trivial) ⟨hx, hm, hp⟩ ?_)
  (refine HoistK.yes (by rfl) (by kernel_rfl) ⟨?_, fun w' hSw => ?_, ?_⟩; rotate_left; (· have hcc := hSw.2.1; go_simp; try with_reducible rfl); simp only [Act.put, setIfInBounds_toArray, getElem_toArray, getElem_cons_zero, set_cons_succ, set_cons_zero])
  (refine HoistK.yes (by rfl) (by kernel_rfl) ⟨?_, fun w' hSw => ?_, ?_⟩; rotate_left; (· go_simp; try with_reducible rfl); simp only [Act.put, setIfInBounds_toArray, getElem_toArray, getElem_cons_succ, getElem_cons_zero, set_cons_succ, set_cons_zero])
  (refine HoistK.yes (by rfl) (by kernel_rfl) ⟨?_, fun w' hSw => ?_, ?_⟩; rotate_left; (· have hlk := hSw.2.2.lookup (t := 93) (string_keyed Tryz.underlying9) Tryz.underlying93 (zero_bool w') (l := .string bs) trivial HKEY.out; rw [HCNT.out] at hlk; go_simp; try with_reducible rfl); simp only [Act.put, setIfInBounds_toArray, getElem_toArray, getElem_cons_succ, getElem_cons_zero, set_cons_succ, set_cons_zero])
  (refine HoistK.yes (by rfl) (by kernel_rfl) ⟨?_, fun w' hSw => ?_, ?_⟩; rotate_left; (· go_simp; try with_reducible rfl); simp only [Act.put, setIfInBounds_toArray, getElem_toArray, getElem_cons_succ, getElem_cons_zero, set_cons_succ, set_cons_zero])
  cases q
  · (refine HoistK.load (by rfl) (by kernel_rfl) 34 _ rfl gS 0 rfl ss _ (fun w' hw => hw.1.range) Tryz.underlying34 rfl HI.out ?_; simp only [Act.put, setIfInBounds_toArray, getElem_toArray, getElem_cons_succ, getElem_cons_zero, set_cons_succ, set_cons_zero])
    (refine HoistK.yes (by rfl) (by kernel_rfl) ⟨?_, fun w' hSw => ?_, ?_⟩; rotate_left; (· go_simp; try with_reducible rfl); simp only [Act.put, setIfInBounds_toArray, getElem_toArray, getElem_cons_succ, getElem_cons_zero, set_cons_succ, set_cons_zero])
    refine HoistK.nil_ ?_
    simp only [opsAt, filterMap_cons, filterMap_nil, getElem?_toArray, getElem?_cons_succ, getElem?_cons_zero]
    refine EffS.cons_ fun _ hQ => ?_
    go_wp2_with fail
    have hrd := poolRead_any (bs := bs) (x := x) w.drew HDX.out (by have := HLX.out; omega) (HPK.out.below hb)
    unfold strV at hrd
    refine hrd.mono ?_
    rintro e w3 ⟨cs, rfl, hrep, hb3⟩
    have hx3 := hx.below hb3 hx.lt
    have hm3 := cell_low hm hb3
    have hp3 := hp.below hb3
    have hs3 := (HS.out.below hb).below hb3
    have hb23 := hb.trans (hb3.mono hb.size)
    clear hrd
    go_wp2_with fail
    refine hQ _ _ ⟨hx3, hm3, hp3⟩ (EffS.nil_ (SegV.mk (fun w' => Blk w' gS 34 ss.toArray ∧ w'.cell? ⟨gM, 0, none⟩ = some (.map (some m)) ∧ MapL Tryz.prog 9 (fun _ => True) w' m n f) (fun _ h => h) ⟨hx3, hm3, hp3⟩ ?_))
    refine HoistK.nil_ ?_
    simp only [opsAt, filterMap_cons, filterMap_nil, getElem?_toArray, getElem?_cons_succ, getElem?_cons_zero]
    refine EffS.cons_ fun _ hQ => ?_
    go_wp2_with fail
    refine (stale_any w3 hs3 hrep).mono ?_
    rintro e w4 ⟨rfl, hb4⟩
    have hx4 := hx3.below hb4 hx3.lt
    have hm4 := cell_low hm3 hb4
    have hp4 := hp3.below hb4
    have hb24 := hb23.trans (hb4.mono hb23.size)
    obtain ⟨r, hr⟩ : ∃ r, r = staleX l x := ⟨_, rfl⟩
    rw [← hr]
    have HR := Lib.hid hr
    clear hr
    go_wp2_with fail
    refine hQ _ _ ⟨hx4, hm4, hp4⟩ (EffS.nil_ (SegV.mk (fun w' => Blk w' gS 34 ss.toArray ∧ w'.cell? ⟨gM, 0, none⟩ = some (.map (some m)) ∧ MapL Tryz.prog 9 (fun _ => True) w' m n f) (fun _ h => h) ⟨hx4, hm4, hp4⟩ ?_))
    (refine HoistK.yes (by rfl) (by kernel_rfl) ⟨?_, fun w' hSw => ?_, ?_⟩; rotate_left; (· go_simp; try with_reducible rfl); simp only [Act.put, setIfInBounds_toArray, getElem_toArray, getElem_cons_succ, getElem_cons_zero, set_cons_succ, set_cons_zero])
    refine HoistK.nil_ ?_
    simp only [opsAt, filterMap_cons, filterMap_nil, getElem?_toArray, getElem?_cons_succ, getElem?_cons_zero]
    refine EffS.cons_ fun _ hQ => ?_
    go_wp2_with fail
    refine hQ _ _ ⟨hx4, hm4, hp4⟩ (EffS.nil_ fun _ hQ => ?_)
    go_wp2_with fail
    go_ret
    exact ⟨by rw [show goneX l D bs x = r from by unfold goneX; rw [← HQ.out, ← HR.out]; rfl]; rfl, hb24⟩
  · (refine HoistK.no (by rfl) (by kernel_rfl) ?_; simp only [Act.put, setIfInBounds_toArray, getElem_toArray, getElem_cons_succ, getElem_cons_zero, set_cons_succ, set_cons_zero])
    (refine HoistK.no (by rfl) (by kernel_rfl) ?_; simp only [Act.put, setIfInBounds_toArray, getElem_toArray, getElem_cons_succ, getElem_cons_zero, set_cons_succ, set_cons_zero])
    refine HoistK.nil_ ?_
    simp only [opsAt, filterMap_cons, filterMap_nil, getElem?_toArray, getElem?_cons_succ, getElem?_cons_zero]
    refine EffS.cons_ fun _ hQ => ?_
    go_wp2_with fail
    refine hQ _ _ ⟨hx, hm, hp⟩ (EffS.nil_ (SegV.mk (fun w' => Blk w' gS 34 ss.toArray ∧ w'.cell? ⟨gM, 0, none⟩ = some (.map (some m)) ∧ MapL Tryz.prog 9 (fun _ => True) w' m n f) (fun _ h => h) ⟨hx, hm, hp⟩ ?_))
    refine HoistK.nil_ ?_
    simp only [opsAt, filterMap_cons, filterMap_nil, getElem?_toArray, getElem?_cons_succ, getElem?_cons_zero]
    refine EffS.cons_ fun _ hQ => ?_
    go_wp2_with fail
    refine hQ _ _ ⟨hx, hm, hp⟩ (EffS.nil_ (SegV.mk (fun w' => Blk w' gS 34 ss.toArray ∧ w'.cell? ⟨gM, 0, none⟩ = some (.map (some m)) ∧ MapL Tryz.prog 9 (fun _ => True) w' m n f) (fun _ h => h) ⟨hx, hm, hp⟩ ?_))
    (refine HoistK.yes (by rfl) (by kernel_rfl) ⟨?_, fun w' hSw => ?_, ?_⟩; rotate_left; (· go_simp; try with_reducible rfl); simp only [Act.put, setIfInBounds_toArray, getElem_toArray, getElem_cons_succ, getElem_cons_zero, set_cons_succ, set_cons_zero])
    refine HoistK.nil_ ?_
    simp only [opsAt, filterMap_cons, filterMap_nil, getElem?_toArray, getElem?_cons_succ, getElem?_cons_zero]
    refine EffS.cons_ fun _ hQ => ?_
    go_wp2_with fail
    refine hQ _ _ ⟨hx, hm, hp⟩ (EffS.nil_ fun _ hQ => ?_)
    go_wp2_with fail
    go_ret
    exact ⟨by rw [show goneX l D bs x = true from by unfold goneX; rw [← HQ.out]; rfl]; rfl, hb⟩
end
section
open Go.RowKit Go.Maps
def strX (x : TxE) : Value := strV (tTx.enc x)
abbrev goneP (l : List (Int × Int × Int × Unit)) (D : List (List UInt8)) (x : TxE) : Bool := goneX l D (tTx.enc x) x
def wellX (X : List TxE) : Prop := ∀ x ∈ X, tTx.dec (tTx.enc x) = some x ∧ (tTx.enc x).length ≤ 65536
def idxG (l : List (Int × Int × Int × Unit)) (D : List (List UInt8)) (X : List TxE) : Int := match X.findIdx? (goneP l D) with | some i => i | none => -1
def GoneW (w : World) (S : Nat → Prop) (sent : Value) (l : List (Int × Int × Int × Unit)) (ss : List Value) (D : List (List UInt8)) (gS gM m : Nat) : Prop :=
  StA w S l ss ∧ Blk w gS 34 ss.toArray ∧ w.cell? ⟨gM, 0, none⟩ = some (.map (some m)) ∧ DnI w m D ∧ Pk w sent
theorem GoneW.below {w w' : World} {S : Nat → Prop} {sent : Value} {l : List (Int × Int × Int × Unit)} {ss : List Value} {D : List (List UInt8)} {gS gM m : Nat} (h : GoneW w S sent l ss D gS gM m) (hb : Below w.heap.size w w') : GoneW w' S sent l ss D gS gM m :=
  ⟨h.1.below hb, h.2.1.below hb h.2.1.lt, cell_low h.2.2.1 hb, h.2.2.2.1.keep (hb.block m h.2.2.2.1.lt), h.2.2.2.2.below hb⟩
abbrev goneF (gS gM : Nat) : Value := .func (Fn.func 42) #[] #[.pointer (some ⟨gM, 0, none⟩), .pointer (some ⟨gS, 0, none⟩)]
set_option maxHeartbeats 4000000 in
set_option maxRecDepth 100000 in
theorem indexGone_any (w : World) {S T : Nat → Prop} {sent v : Value} {X : List TxE} {l : List (Int × Int × Int × Unit)} {ss : List Value} {D : List (List UInt8)} {gS gM m : Nat} (h : Cs w T 1 v X.length (X.map strX)) (hl : X.length ≤ 1048576) (hw : wellX X) (hg : GoneW w S sent l ss D gS gM m) :
    Calls Tryz.prog 57 #[v, goneF gS gM] w fun e w' => e = .returned (.int .i64 (idxG l D X)) ∧ Below w.heap.size w w' := by
  obtain ⟨A, cap, rfl⟩ := h.form
  have H := Lib.hid h
  have HG := Lib.hid hg
  have HW := Lib.hid hw
  obtain ⟨n, hn⟩ : ∃ n, n = X.length := ⟨_, rfl⟩
  rw [← hn] at hl ⊢
  have HN := Lib.hid hn
  clear h hg hw hn
  go_enter Tryz.func57, Tryz.ntmps57
  go_wp2_with fail
  go_loopw [8] (fun i wr => ∃ k : Nat, k ≤ n ∧ i = .int .i64 k ∧ Hid (Below w.heap.size w wr) ∧ Hid (∀ j (hj : j < k) (hj2 : j < X.length), goneP l D X[j] = false)) (fun i _ => n - (intOf i).toNat)
  case atStart => exact ⟨0, Nat.zero_le _, rfl, Lib.hid (Below.refl _ _), Lib.hid fun j hj => absurd hj (Nat.not_lt_zero _)⟩
  case round =>
    obtain ⟨k, hk, rfl, hb, hne⟩ := hrel
    by_cases hlt : k < n
    · have hltX : k < X.length := by have := HN.out; omega
      obtain ⟨_, A', c', e, _, _, hp⟩ := H.out.below hb.out
      injection e with e1 e2 e3
      subst e1 e3
      clear e2
      obtain ⟨bb, off, rfl, _, _, hc⟩ := hp (by omega)
      have hck : wr.cell? ⟨bb, off + k, none⟩ = some (strX X[k]) := hc k _ (by simp [hltX])
      have HX := Lib.hid (show X[k]? = some X[k] from List.getElem?_eq_getElem hltX)
      have hwx := HW.out _ (List.getElem_mem hltX)
      obtain ⟨x, hx⟩ : ∃ x, x = X[k] := ⟨_, rfl⟩
      rw [← hx] at HX hck hwx
      obtain ⟨bs, hbs⟩ : ∃ bs, bs = tTx.enc x := ⟨_, rfl⟩
      unfold strX at hck
      rw [← hbs] at hck hwx
      obtain ⟨q1, q2, q3, q4, q5⟩ := HG.out.below hb.out
      have HF := Lib.hid (gone_any wr q1 q2 q3 q4 hwx.1 hwx.2 q5)
      have HBS := Lib.hid hbs
      clear hx hltX hp hc hbs hwx q1 q2 q3 q4 q5
      unfold strV at HF hck
      go_wp2_with fail
      refine HF.out.mono ?_
      rintro e w2 ⟨rfl, hb2⟩
      have HB2 := Lib.hid (hb.out.trans (hb2.mono hb.out.size))
      obtain ⟨q, hq⟩ : ∃ q, q = goneX l D bs x := ⟨_, rfl⟩
      have HQ := Lib.hid (show q = goneP l D x by rw [hq, HBS.out])
      rw [← hq]
      clear hb2 hq HF
      cases q
      · have HN2 := Lib.hid (show ∀ j (hj : j < k + 1) (hj2 : j < X.length), goneP l D X[j] = false from fun j hj hj2 => by
          by_cases e : j = k
          · subst e
            have := HX.out
            rw [List.getElem?_eq_getElem hj2] at this
            rw [Option.some.inj this]
            exact HQ.out.symm
          · exact hne.out j (by omega) hj2)
        clear hne
        go_wp2_with fail
        exact ⟨⟨k + 1, by omega, by push_cast; rfl, HB2, HN2⟩, by simp only [intOf]; omega⟩
      · have HI := Lib.hid (show idxG l D X = (k : Int) from by
          have hkX : k < X.length := by have := HN.out; omega
          have : X.findIdx? (goneP l D) = some k := by
            rw [List.findIdx?_eq_some_iff_getElem]
            refine ⟨hkX, ?_, fun j hj => by rw [hne.out j hj (by omega)]; simp⟩
            have h2 := HX.out
            rw [List.getElem?_eq_getElem hkX] at h2
            rw [Option.some.inj h2]
            exact HQ.out.symm
          unfold idxG; rw [this])
        clear hne
        go_wp2_with fail
        go_ret
        exact ⟨by rw [HI.out]; rfl, HB2.out⟩
    · have hk' : k = n := by omega
      subst hk'
      have HI := Lib.hid (show idxG l D X = -1 from by
        have : X.findIdx? (goneP l D) = none := by
          rw [List.findIdx?_eq_none_iff]
          intro x hx
          obtain ⟨j, hj, rfl⟩ := List.getElem_of_mem hx
          exact hne.out j (by have := HN.out; omega) hj
        unfold idxG; rw [this])
      clear hne
      go_wp2_with fail
      go_ret
      exact ⟨by rw [HI.out]; rfl, hb.out⟩
end
section
open Go.RowKit Go.Maps
def stayX (l : List (Int × Int × Int × Unit)) (D : List (List UInt8)) (X : List TxE) : List TxE := X.filter fun x => !goneP l D x
theorem stayX_snoc (l : List (Int × Int × Int × Unit)) (D : List (List UInt8)) (X : List TxE) {k : Nat} (hk : k < X.length) : stayX l D (X.take (k + 1)) = stayX l D (X.take k) ++ if goneP l D X[k] then [] else [X[k]] := by
  unfold stayX
  rw [List.take_succ_eq_append_getElem hk, List.filter_append, List.filter_cons]
  cases goneP l D X[k] <;> rfl
theorem stayX_len (l : List (Int × Int × Int × Unit)) (D : List (List UInt8)) (X : List TxE) (k : Nat) : (stayX l D (X.take k)).length ≤ k := Nat.le_trans (List.length_filter_le _ _) (by rw [List.length_take]; omega)
def DfI (wr : World) (g n cap : Nat) (l : List (Int × Int × Int × Unit)) (D : List (List UInt8)) (X : List TxE) (i k : Nat) : Prop :=
  ∃ cur : Array Value, Blk wr g 9 cur ∧ cur.size = cap ∧ i = (stayX l D (X.take k)).length ∧ i < k ∧ k ≤ n ∧ (∀ j (h : j < (stayX l D (X.take k)).length), cur[j]? = some (strX (stayX l D (X.take k))[j])) ∧ ∀ j (h : j < X.length), k ≤ j → cur[j]? = some (strX X[j])
theorem DfI.gone {wr w' : World} {g n cap : Nat} {l : List (Int × Int × Int × Unit)} {D : List (List UInt8)} {X : List TxE} {i k : Nat} (h : DfI wr g n cap l D X i k) (hk : k < n) (hn : n = X.length) (hb : Below wr.heap.size wr w') {x : TxE} (hx : X[k]? = some x) (hg : goneP l D x = true) : DfI w' g n cap l D X i (k + 1) := by
  obtain ⟨cur, h1, h2, h3, h4, h5, h6, h7⟩ := h
  have hkX : k < X.length := by omega
  rw [List.getElem?_eq_getElem hkX] at hx
  have hx := Option.some.inj hx
  have hs := stayX_snoc l D X hkX
  rw [hx, hg, if_pos rfl, List.append_nil] at hs
  refine ⟨cur, h1.below hb h1.lt, h2, by rw [hs]; exact h3, by omega, by omega, fun j hj => ?_, fun j hj hle => h7 j hj (by omega)⟩
  have hj' : j < (stayX l D (X.take k)).length := by rw [← hs]; exact hj
  rw [h6 j hj']
  congr 2
  simp only [hs]
theorem DfI.stay {wr w2 w' : World} {g n cap : Nat} {l : List (Int × Int × Int × Unit)} {D : List (List UInt8)} {X : List TxE} {i k : Nat} (h : DfI wr g n cap l D X i k) (hk : k < n) (hn : n = X.length) (hb : Below wr.heap.size wr w2) {x : TxE} (hx : X[k]? = some x) (hg : goneP l D x = false) (hnc : n ≤ cap) (hw : w' = w2.setCell ⟨g, i, none⟩ (strX x)) : DfI w' g n cap l D X (i + 1) (k + 1) := by
  obtain ⟨cur, h1, h2, h3, h4, h5, h6, h7⟩ := h
  have hkX : k < X.length := by omega
  rw [List.getElem?_eq_getElem hkX] at hx
  have hx := Option.some.inj hx
  have hs := stayX_snoc l D X hkX
  rw [hx, hg] at hs
  have hs : stayX l D (X.take (k + 1)) = stayX l D (X.take k) ++ [x] := hs
  have hlen : (stayX l D (X.take (k + 1))).length = i + 1 := by rw [hs, List.length_append, ← h3]; rfl
  refine ⟨cur.setIfInBounds i (strX x), by rw [hw]; exact (h1.below hb h1.lt).set_ i _, by simp [h2], hlen.symm, by omega, by omega, fun j hj => ?_, fun j hj hle => ?_⟩
  · rw [hlen] at hj
    by_cases e : j = i
    · subst e
      rw [Array.getElem?_setIfInBounds_self, if_pos (by omega)]
      congr 2
      simp only [hs]
      rw [List.getElem_append_right (by omega)]
      simp [h3]
    · rw [Array.getElem?_setIfInBounds_ne (by omega), h6 j (by omega)]
      congr 2
      simp only [hs]
      rw [List.getElem_append_left (by omega)]
  · rw [Array.getElem?_setIfInBounds_ne (by omega), h7 j hj (by omega)]
theorem DfI.own {wr : World} {g n cap : Nat} {l : List (Int × Int × Int × Unit)} {D : List (List UInt8)} {X : List TxE} {i k : Nat} (h : DfI wr g n cap l D X i k) (hk : k = X.length) (hn : n = X.length) (hnc : n ≤ cap) (hc : cap ≤ maxLen) : i = (stayX l D X).length ∧ i < n ∧ Own wr 9 1 (.slice (some ⟨g, 0, none⟩) i cap) i ((stayX l D X).map strX) := by
  obtain ⟨cur, h1, h2, h3, h4, h5, h6, h7⟩ := h
  subst hk
  rw [List.take_length] at h3 h6
  refine ⟨h3, by omega, ⟨by rw [List.length_map, Nat.mul_one, h3], .inr ⟨g, cap, cur, rfl, Nat.zero_le _, h1, by omega, hc, by omega, ?_⟩⟩⟩
  refine List.ext_getElem? fun j => ?_
  by_cases hj : j < i
  · rw [List.getElem?_take, if_pos (by omega), Array.getElem?_toList, h6 j (by omega), List.getElem?_map, List.getElem?_eq_getElem (by omega)]
    rfl
  · rw [List.getElem?_eq_none, List.getElem?_eq_none]
    · rw [List.length_map]; omega
    · rw [List.length_take]; omega
def GoneB (V : Nat → Prop) (w0 w : World) (S : Nat → Prop) (sent : Value) (l : List (Int × Int × Int × Unit)) (ss : List Value) (D : List (List UInt8)) (gS gM m : Nat) : Prop :=
  (∀ w', Chg V w0 w' → StA w' S l ss ∧ Pk w' sent) ∧ Chg V w0 w ∧ Blk w gS 34 ss.toArray ∧ w.cell? ⟨gM, 0, none⟩ = some (.map (some m)) ∧ DnI w m D
theorem GoneB.at_ {V : Nat → Prop} {w0 w : World} {S : Nat → Prop} {sent : Value} {l : List (Int × Int × Int × Unit)} {ss : List Value} {D : List (List UInt8)} {gS gM m : Nat} (h : GoneB V w0 w S sent l ss D gS gM m) : GoneW w S sent l ss D gS gM m :=
  ⟨(h.1 w h.2.1).1, h.2.2.1, h.2.2.2.1, h.2.2.2.2, (h.1 w h.2.1).2⟩
theorem GoneB.chg {V : Nat → Prop} {w0 w w' : World} {S P : Nat → Prop} {sent : Value} {l : List (Int × Int × Int × Unit)} {ss : List Value} {D : List (List UInt8)} {gS gM m : Nat} (h : GoneB V w0 w S sent l ss D gS gM m) (hc : Chg P w w') (hP : ∀ b, P b → V b ∧ b ≠ gS ∧ b ≠ gM ∧ b ≠ m) : GoneB V w0 w' S sent l ss D gS gM m := by
  obtain ⟨h1, h2, h4, h5, h6⟩ := h
  exact ⟨h1, h2.trans hc fun k hk => .inl (hP k hk).1, h4.chg hc fun h => (hP _ h).2.1 rfl, (World.cell?_of_block (a := ⟨gM, 0, none⟩) (hc.block gM (Go.Lib.lt_of_cell h5) fun h => (hP _ h).2.2.1 rfl)).trans h5, h6.keep (hc.block m h6.lt fun h => (hP _ h).2.2.2 rfl)⟩
theorem zero_strg (w : World) : (zeroValue 9).run Tryz.prog w = .ok (.string ⟨#[]⟩) w := by kernel_rfl
set_option maxHeartbeats 8000000 in
set_option maxRecDepth 100000 in
theorem delGone_any (w0 w : World) {S V : Nat → Prop} {sent v : Value} {X : List TxE} {l : List (Int × Int × Int × Unit)} {ss : List Value} {D : List (List UInt8)} {gS gM m : Nat} (h : Own w 9 1 v X.length (X.map strX)) (hl : X.length ≤ 1048576) (hw : wellX X) (hg : GoneB V w0 w S sent l ss D gS gM m) (hv : ∀ b, v.ownBlock = some b → V b ∧ b ≠ gS ∧ b ≠ gM ∧ b ≠ m) :
    Calls Tryz.prog 41 #[v, goneF gS gM] w fun e w' => ∃ v', e = .returned v' ∧ v'.ownBlock = v.ownBlock ∧ Own w' 9 1 v' (stayX l D X).length ((stayX l D X).map strX) ∧ Chg (fun b => v.ownBlock = some b) w w' := by
  have HI := Lib.hid (indexGone_any w (Cs.of_own h (S := fun _ => True) fun _ _ => trivial) hl hw hg.at_)
  have hcap := h
  obtain ⟨A, cap, rfl⟩ := h.form
  have hcap := hcap.cap_le
  have H := Lib.hid h
  have HG := Lib.hid hg
  have HW := Lib.hid hw
  have HV := Lib.hid hv
  obtain ⟨n, hn⟩ : ∃ n, n = X.length := ⟨_, rfl⟩
  rw [← hn] at hl hcap
  rw [← hn] at HI H HV ⊢
  obtain ⟨hnc, hcm⟩ := hcap
  have HCM := Lib.hid hcm
  have hcm2 : cap ≤ 1099511627776 * 1099511627776 := by unfold maxLen at hcm; omega
  have HN := Lib.hid hn
  clear h hg hw hn hv hcm
  go_enter Tryz.func41, Tryz.ntmps41
  go_wp2_with fail
  refine HI.out.mono ?_
  rintro e w1 ⟨rfl, hb1⟩
  cases hfi : X.findIdx? (goneP l D) with
  | none =>
    have hid : idxG l D X = -1 := by unfold idxG; rw [hfi]
    rw [hid]
    have HE := Lib.hid (show stayX l D X = X from List.filter_eq_self.2 fun x hx => by rw [List.findIdx?_eq_none_iff.1 hfi x hx]; rfl)
    have HO1 := Lib.hid (own_keep H.out fun b hb => hb1.block b (own_lt H.out hb))
    have HC1 := Lib.hid (Chg.of_below hb1 fun b => (Value.slice A n cap).ownBlock = some b)
    clear hid hfi hb1 HI
    go_wp2_with fail
    go_ret
    exact ⟨_, rfl, rfl, by rw [HE.out, ← HN.out]; exact HO1.out, HC1.out⟩
  | some i =>
    have hid : idxG l D X = (i : Int) := by unfold idxG; rw [hfi]
    rw [hid]
    have hf := List.findIdx?_eq_some_iff_getElem.1 hfi
    have hin : i < n := by rw [HN.out]; exact hf.1
    obtain ⟨g, cap', e, _, hglt⟩ := World.ownsRow.form H.out (by omega)
    injection e with e1 e2 e3
    subst e1; subst e3
    clear e2
    have hst : DfI w1 g n cap l D X i (i + 1) := by
      have hs : stayX l D (X.take (i + 1)) = X.take i := by
        rw [stayX_snoc l D X hf.1, if_pos hf.2.1, List.append_nil]
        refine List.filter_eq_self.2 fun x hx => ?_
        obtain ⟨j, hj, rfl⟩ := List.getElem_of_mem hx
        rw [List.length_take] at hj
        rw [List.getElem_take]
        have := hf.2.2 j (by omega)
        simpa using this
      have ho := H.out
      obtain ⟨_, ⟨h, _⟩ | ⟨g', cap', cur, e, _, hh, _, _, hcs, ht⟩⟩ := ho
      · cases h
      · injection e with e1 e2 e3
        injection e1 with e1
        injection e1 with e1 _ _
        subst e1; subst e3
        have hget : ∀ j (h : j < X.length), cur[j]? = some (strX X[j]) := fun j hj => by
          have h1 : (cur.toList.take (n * 1))[j]? = (X.map strX)[j]? := by rw [ht]
          rw [List.getElem?_take, if_pos (by have := HN.out; omega), Array.getElem?_toList, List.getElem?_map, List.getElem?_eq_getElem hj] at h1
          exact h1
        refine ⟨cur, (show Blk w g 9 cur from hh).below hb1 hglt, by omega, by rw [hs, List.length_take]; have := hf.1; omega, by omega, by omega, fun j hj => ?_, fun j hj _ => hget j hj⟩
        have hj2 : j < X.length := by rw [hs, List.length_take] at hj; omega
        rw [hget j hj2]
        congr 2
        simp only [hs, List.getElem_take]
    have HST := Lib.hid hst
    have HC0 := Lib.hid (Chg.of_below hb1 fun b => b = g)
    have hne : ((i : Int) == -1) = false := by simp
    have hne2 : ¬ (i : Int) = -1 := by omega
    clear hid hfi hb1 HI hst hf
    go_wp2_with fail
    have HG0 := Lib.hid (show ∀ b, b = g → V b ∧ b ≠ gS ∧ b ≠ gM ∧ b ≠ m from fun b hb => HV.out b (by rw [hb]; rfl))
    go_loopw [5, 6] (fun a b wr => ∃ i k : Nat, a = .int .i64 i ∧ b = .int .i64 k ∧ Hid (DfI wr g n cap l D X i k) ∧ Hid (Chg (fun b => b = g) w wr)) (fun _ b _ => n - (intOf b).toNat)
    case atStart => exact ⟨i, i + 1, rfl, by push_cast; rfl, HST, HC0⟩
    case round =>
      obtain ⟨p, k, rfl, rfl, hd, hc⟩ := hrel
      have hpk : p < k ∧ k ≤ n := ⟨by have := hd.out; obtain ⟨_, _, _, _, h, _⟩ := this; exact h, by have := hd.out; obtain ⟨_, _, _, _, _, h, _⟩ := this; exact h⟩
      obtain ⟨hpk, hkn⟩ := hpk
      by_cases hlt : k < n
      · have hkX : k < X.length := by rw [← HN.out]; exact hlt
        have hwx := HW.out _ (List.getElem_mem hkX)
        have HX := Lib.hid (show X[k]? = some X[k] from List.getElem?_eq_getElem hkX)
        have hd1 := hd.out
        obtain ⟨cur, hbk, hcz, -, -, -, -, h7⟩ := hd1
        have hck : wr.cell? ⟨g, k, none⟩ = some (strX X[k]) := by rw [hbk.cell]; exact h7 k hkX (Nat.le_refl _)
        obtain ⟨x, hx⟩ : ∃ x, x = X[k] := ⟨_, rfl⟩
        rw [← hx] at HX hck hwx
        obtain ⟨bs, hbs⟩ : ∃ bs, bs = tTx.enc x := ⟨_, rfl⟩
        unfold strX at hck
        rw [← hbs] at hck hwx
        obtain ⟨q1, q2, q3, q4, q5⟩ := (HG.out.chg hc.out HG0.out).at_
        have HF := Lib.hid (gone_any wr q1 q2 q3 q4 hwx.1 hwx.2 q5)
        have HBS := Lib.hid hbs
        have HBK := Lib.hid hbk
        have HCZ := Lib.hid hcz
        clear hx hkX h7 hbs hwx q1 q2 q3 q4 q5 hbk hcz
        unfold strV at HF hck
        go_wp2_with fail
        refine HF.out.mono ?_
        rintro e w2 ⟨rfl, hb2⟩
        have HC2 := Lib.hid (hc.out.trans (Chg.of_below hb2 fun _ => False) fun _ h => h.elim)
        have hfr : w2.frozen? ⟨g, p, none⟩ = false := (HBK.out.below hb2 HBK.out.lt).frozen p
        have hcp : w2.cell? ⟨g, p, none⟩ = some (cur[p]'(by have := HCZ.out; omega)) := by rw [(HBK.out.below hb2 HBK.out.lt).cell]; exact Array.getElem?_eq_getElem _
        obtain ⟨old, hold⟩ : ∃ old, old = cur[p]'(by have := HCZ.out; omega) := ⟨_, rfl⟩
        rw [← hold] at hcp
        have HB2 := Lib.hid hb2
        obtain ⟨q, hq⟩ : ∃ q, q = goneX l D bs x := ⟨_, rfl⟩
        have HQ := Lib.hid (show q = goneP l D x by rw [hq, HBS.out])
        rw [← hq]
        have hpn : (p : Int) < (n : Int) := by omega
        clear hb2 hq HF hold
        cases q
        · have HD2 := Lib.hid (hd.out.stay hlt HN.out HB2.out HX.out HQ.out.symm hnc (by unfold strX strV; rw [← HBS.out]))
          have HC3 := Lib.hid (HC2.out.setIn p (.string (str bs)))
          clear hd hc
          go_wp2_with fail
          exact ⟨⟨p + 1, k + 1, by push_cast; rfl, by push_cast; rfl, HD2, HC3⟩, by simp only [intOf]; omega⟩
        · have HD2 := Lib.hid (hd.out.gone hlt HN.out HB2.out HX.out HQ.out.symm)
          clear hd hc
          go_wp2_with fail
          exact ⟨⟨p, k + 1, rfl, by push_cast; rfl, HD2, HC2⟩, by simp only [intOf]; omega⟩
      · have hk' : k = n := by omega
        subst hk'
        obtain ⟨e1, -, ho⟩ := hd.out.own HN.out HN.out hnc HCM.out
        obtain ⟨w3, hr, ho3, hc3⟩ := run_clear_tail wr (ty := 0) (size := 1) Tryz.underlying67 zero_strg rfl (by decide) (by decide) ho p (k - p) (cap - p) (by omega) (by omega) (by omega)
        have HFO := Lib.hid (show Own w3 9 1 (.slice (some ⟨g, 0, none⟩) p cap) (stayX l D X).length ((stayX l D X).map strX) by rw [← e1]; exact ho3)
        have HFC := Lib.hid ((hc.out.trans hc3 fun _ h => .inl h).mono (M' := fun b => (Value.slice (some ⟨g, 0, none⟩) k cap).ownBlock = some b) fun b hb => by subst hb; rfl)
        have hn1 : (p : Int) ≤ (k : Int) := by omega
        have hn2 : (p : Int) < (cap : Int) := by omega
        have hn3 : ((cap : Int) == (p : Int)) = false := by simp; omega
        have hn4 : ¬ cap = p := by omega
        have hn5 : (0 : Int) ≤ (p : Int) := by omega
        have hn6 : p ≤ cap := by omega
        have hn7 : p ≤ k := by omega
        clear hd hc e1 ho ho3 hc3
        go_wp2_with fail
        go_ret
        exact ⟨_, rfl, rfl, HFO.out, HFC.out⟩
end
section
open Go.RowKit Go.Maps
attribute [-simp] Tryz.isAgg34 Tryz.typeInfo34 Tryz.isAgg40 Tryz.typeInfo40 Tryz.isAgg37 Tryz.typeInfo37
theorem TxsO.list {S : Nat → Prop} {w : World} {v : Value} {X : List TxE} (h : TxsO S w v X) : (Sh.list tTx).rep w (fun b => S b ∨ v.ownBlock = some b) X [v] := by
  obtain ⟨css, ho, _, ht⟩ := h
  exact ⟨v, css, rfl, Cs.of_own ho fun k hk => .inr hk, ht.map fun x cs h => Sh.rep_sub h fun b hb _ => .inl hb⟩
def encsX (Y : List TxE) : List (List UInt8) := Y.map fun x => tTx.enc x
def DnR (w : World) (gS m : Nat) (ss : List Value) (D : List (List UInt8)) (wr : World) : Prop :=
  Blk wr gS 34 ss.toArray ∧ wr.cell? ⟨m + 1, 0, none⟩ = some (.map (some m)) ∧ DnI wr m D ∧ Below w.heap.size w wr
theorem DnR.below {w wr w' : World} {gS m : Nat} {ss : List Value} {D : List (List UInt8)} (h : DnR w gS m ss D wr) (hb : Below wr.heap.size wr w') : DnR w gS m ss D w' :=
  ⟨h.1.below hb h.1.lt, cell_low h.2.1 hb, h.2.2.1.keep (hb.block m h.2.2.1.lt), h.2.2.2.trans (hb.mono h.2.2.2.size)⟩
theorem DnR.put {w wr w' : World} {gS m : Nat} {ss : List Value} {D D' : List (List UInt8)} (h : DnR w gS m ss D wr) (hc : Chg (fun b => b = m) wr w') (hd : DnI w' m D') (hg : gS ≠ m) (hm : w.heap.size ≤ m) : DnR w gS m ss D' w' :=
  ⟨h.1.chg hc hg, (World.cell?_of_block (a := ⟨m + 1, 0, none⟩) (hc.block (m + 1) (Go.Lib.lt_of_cell h.2.1) fun h => by have h : m + 1 = m := h; omega)).trans h.2.1, hd, h.2.2.2.trans (hc.below h.2.2.2.size fun k hk => by have hk : k = m := hk; omega)⟩
theorem PoolX.own {w : World} {g most : Nat} {v : Value} {X : List TxE} (h : PoolX w g v most X) : Own w 9 1 v X.length (X.map strX) := by
  have := h.1.2.2.2.1
  rw [List.length_map, List.map_map] at this
  exact this
set_option maxHeartbeats 8000000 in
set_option maxRecDepth 100000 in
theorem poolDone_any (w : World) {S T : Nat → Prop} {sent v y : Value} {g most : Nat} {X Y : List TxE} {l : List (Int × Int × Int × Unit)} {ss : List Value} (hs : ∀ w', Chg (fun b => v.ownBlock = some b) w w' → StA w' S l ss ∧ Pk w' sent) (hp : PoolX w g v most X)
    (hy : (Sh.list tTx).rep w T Y [y]) (hyl : ∀ x ∈ Y, (tTx.enc x).length ≤ 1099511627776) :
    Calls Tryz.prog 19 #[.pointer (some ⟨g, 0, none⟩), .agg ss.toArray, y] w fun e w' => ∃ v', e = .returned (.tuple #[]) ∧ v'.ownBlock = v.ownBlock ∧ PoolX w' g v' most (stayX l (encsX Y) X) ∧ Chg (fun b => b = g ∨ v.ownBlock = some b) w w' := by
  obtain ⟨A, cap, rfl, hlen, hat⟩ := list_at hy
  have hgt : g < w.heap.size := hp.1.lt
  obtain ⟨wM, hwM⟩ : ∃ wM, wM = ((w.alloc (.cells ss.toArray 34)).alloc (.map #[] 0)).alloc (.cells #[.map (some (w.heap.size + 1))] 93) := ⟨_, rfl⟩
  have hbM : Below w.heap.size w wM := by rw [hwM]; exact (((Below.refl _ w).alloc (Nat.le_refl _) _).alloc (by simp) _).alloc (by simp; omega) _
  have hr0 : DnR w w.heap.size (w.heap.size + 1) ss [] wM := by
    refine ⟨?_, ?_, ?_, hbM⟩
    · rw [hwM]; exact ((Blk.new w 34 ss.toArray).alloc _).alloc _
    · have h := (Blk.new ((w.alloc (.cells ss.toArray 34)).alloc (.map #[] 0)) 93 #[.map (some (w.heap.size + 1))]).cell 0
      rw [show ((w.alloc (.cells ss.toArray 34)).alloc (.map #[] 0)).heap.size = w.heap.size + 1 + 1 by simp] at h
      rw [hwM]; exact h
    · have h := DnI.made (w.alloc (.cells ss.toArray 34))
      rw [show (w.alloc (.cells ss.toArray 34)).heap.size = w.heap.size + 1 by simp] at h
      rw [hwM]; exact h.keep (Below.heap_alloc _ _ _ (by simp))
  obtain ⟨n, hn⟩ : ∃ n, n = Y.length := ⟨_, rfl⟩
  have HR0 := Lib.hid hr0
  have HP := Lib.hid hp
  have HS := Lib.hid hs
  have HY := Lib.hid hy
  have HYL := Lib.hid hyl
  have HWM := Lib.hid hwM
  have HGT := Lib.hid hgt
  have HLEN := Lib.hid hlen
  have hmk := fun w => run_makeMap (P := Tryz.prog) 93 w
  have e0 : (Value.slice A Y.length cap) = .slice A n cap := by rw [hn]
  rw [e0] at HY ⊢
  have hnl : n ≤ 9223372036854775807 := by omega
  have HN := Lib.hid hn
  clear hr0 hp hs hy hyl hwM hbM hat hgt hlen e0 hn
  go_enter Tryz.func19, Tryz.ntmps19
  go_wp2_with fail
  rw [← HWM.out]
  have hD0 : encsX (Y.take 0) = [] := rfl
  go_loopw [12] (fun i wr => ∃ k : Nat, k ≤ n ∧ i = .int .i64 k ∧ Hid (DnR w w.heap.size (w.heap.size + 1) ss (encsX (Y.take k)) wr)) (fun i _ => n - (intOf i).toNat)
  case atStart => exact ⟨0, Nat.zero_le _, rfl, HR0⟩
  case round =>
    obtain ⟨k, hk, rfl, hd⟩ := hrel
    by_cases hlt : k < n
    · have hkY : k < Y.length := by rw [← HN.out]; exact hlt
      obtain ⟨_, _, e, _, hat⟩ := list_at (Sh.rep_below HY.out hd.out.2.2.2)
      injection e with e1 e2 e3
      subst e1; subst e3
      clear e2
      obtain ⟨b, off, C, rfl, hr, hrep, hCl, _⟩ := hat k hkY
      have hCl : C.length = 41 := hCl
      have hyl := HYL.out _ (List.getElem_mem hkY)
      have hT : Y.take (k + 1) = Y.take k ++ [Y[k]] := List.take_succ_eq_append_getElem hkY
      have HX := Lib.hid (show encsX (Y.take (k + 1)) = encsX (Y.take k) ++ [tTx.enc Y[k]] by rw [hT]; exact List.map_append)
      have hDl : (encsX (Y.take k)).length < maxLen := by unfold encsX; rw [List.length_map, List.length_take]; have := HLEN.out; simp only [maxLen]; omega
      obtain ⟨x, hx⟩ : ∃ x, x = Y[k] := ⟨_, rfl⟩
      rw [← hx] at HX hrep hyl
      have HRG := Lib.hid (show wr.rangeAt b (off + k * 41) C from hr)
      have HJ := Lib.hid (tx_size hCl)
      have HCL := Lib.hid hCl
      have HC1 := Lib.hid (Sh.rep_one _ _ _ hrep)
      have HREP := Lib.hid hrep
      have HYX := Lib.hid hyl
      have HDL := Lib.hid hDl
      clear hat hr hrep hCl hyl hT hx hkY hDl hmk
      go_wp2_with (first
        | (refine wpList_load_mid rfl 40 _ rfl b (off + k * 41) rfl C _ HRG.out Tryz.underlying40 rfl HJ.out ?_)
        | (refine wpList_store_blk (cs0 := [.int .i64 0, .int .u64 0, .int .u64 0, .int .u64 0, .int .u64 0, .int .i64 0, .int .i64 0] ++ List.replicate 32 (.int .u8 0) ++ [.int .i64 0, .slice none 0 0]) (cs := C) rfl 40 _ _ rfl (Blk.new wr _ _) rfl rfl (by rw [HCL.out]; rfl) HJ.out HC1.out ?_; intro w4 hb4 hc4; have HB4 := Lib.hid hb4; have HC4 := Lib.hid hc4; clear hb4 hc4))
      have hal1 := (Below.refl wr.heap.size wr).alloc (Nat.le_refl _) (.cells (([.int .i64 0, .int .u64 0, .int .u64 0, .int .u64 0, .int .u64 0, .int .i64 0, .int .i64 0] ++ List.replicate 32 (.int .u8 0) ++ [.int .i64 0, .slice none 0 0] : List Value)).toArray 40)
      have hb14 := hal1.trans (HC4.out.below hal1.size fun k hk => Nat.le_of_eq hk.symm)
      have hd4 := (hd.out.below hb14).below ((Below.refl w4.heap.size w4).drew)
      have hrep4 := Sh.rep_below (Sh.rep_below HREP.out hb14) ((Below.refl w4.heap.size w4).drew)
      have hb4 : Blk w4.drew wr.heap.size 40 C.toArray := HB4.out
      have hmne : wr.heap.size ≠ w.heap.size + 1 := fun e => by have := hd.out.2.2.1.lt; omega
      have hzr : w.heap.size + 1 + 1 < wr.heap.size := Go.Lib.lt_of_cell hd.out.2.1
      simp only [Act.put]
      refine wp_region_segsV [([0, 1], [2, 3, 4])] (by kernel_rfl) (by kernel_rfl) (by kernel_rfl) (by kernel_rfl)
        (SegV.mk (fun w' => w'.cell? ⟨w.heap.size + 1 + 1, 0, none⟩ = some (.map (some (w.heap.size + 1))) ∧ Blk w' wr.heap.size 40 C.toArray) (fun _ _ => trivial) ⟨hd4.2.1, hb4⟩ ?_)
      (refine HoistK.yes (by rfl) (by kernel_rfl) ⟨?_, fun w' hSw => ?_, ?_⟩; rotate_left; (· have hcc := hSw.1; go_simp; try with_reducible rfl); simp only [Act.put, setIfInBounds_toArray, getElem_toArray, getElem_cons_zero, set_cons_succ, set_cons_zero])
      (refine HoistK.load (by rfl) (by kernel_rfl) 40 _ rfl wr.heap.size 0 rfl C _ (fun w' hw => hw.2.range) Tryz.underlying40 rfl HJ.out ?_; simp only [Act.put, setIfInBounds_toArray, getElem_toArray, getElem_cons_succ, getElem_cons_zero, set_cons_succ, set_cons_zero])
      refine HoistK.nil_ ?_
      simp only [opsAt, filterMap_cons, filterMap_nil, getElem?_toArray, getElem?_cons_succ, getElem?_cons_zero]
      refine EffS.cons_ fun _ hQ => ?_
      go_wp2_with fail
      refine (tx_any _ hrep4 HYX.out).mono ?_
      rintro e w5 ⟨v5, rfl, f5⟩
      obtain ⟨bs, hbs⟩ : ∃ bs, bs = tTx.enc x := ⟨_, rfl⟩
      rw [← hbs] at f5 HYX HX
      clear hbs
      have hstr := run_str f5.1 Tryz.underlying77 Tryz.underlying5 Tryz.underlying9
      have hd5 := hd4.below f5.2
      have hb5 := hb4.below f5.2 hb4.lt
      obtain ⟨w6, hmu, hdn6, hc6⟩ := hd5.2.2.1.more HYX.out HDL.out
      have hd6 := hd5.put hc6 hdn6 (by omega) (by omega)
      have hb6 := hb5.chg hc6 hmne
      go_wp2_with fail
      refine hQ _ _ ⟨hd5.2.1, hb5⟩ (EffS.cons_ fun _ hQ => ?_)
      go_wp2_with fail
      refine hQ _ _ ⟨hd5.2.1, hb5⟩ (EffS.cons_ fun _ hQ => ?_)
      go_wp2_with fail
      refine hQ _ _ ⟨hd6.2.1, hb6⟩ (EffS.nil_ fun _ hQ => ?_)
      go_wp2_with fail
      exact ⟨⟨k + 1, by omega, by push_cast; rfl, Lib.hid (by rw [HX.out]; exact hd6)⟩, by simp only [intOf]; omega⟩
    · have hk' : k = n := by omega
      subst hk'
      have hY : Y.take k = Y := List.take_of_length_le (by have := HN.out; omega)
      rw [hY] at hd
      have hp1 := HP.out.1.below hd.out.2.2.2
      have hg1 := hp1.2.2.1.cell 1
      rw [show (#[Value.int .i64 (most : Int), v] : Array Value)[1]? = some v from rfl] at hg1
      have hX : PoolX wr g v most X := ⟨hp1, HP.out.2⟩
      have hgb : GoneB (fun b => v.ownBlock = some b) w wr S sent l ss (encsX Y) w.heap.size (w.heap.size + 1 + 1) (w.heap.size + 1) :=
        ⟨HS.out, Chg.of_below hd.out.2.2.2 _, hd.out.1, hd.out.2.1, hd.out.2.2.1⟩
      have hvl : ∀ b, v.ownBlock = some b → b < w.heap.size := fun b hb => own_lt HP.out.own hb
      have hx32 : X.length ≤ 32 := by have h1 := hp1.1; have h2 := hp1.2.1; rw [List.length_map] at h2; omega
      have HD := Lib.hid (delGone_any w wr hX.own (by omega) HP.out.2 hgb fun b hb => ⟨hb, by have := hvl b hb; omega, by have := hvl b hb; omega, by have := hvl b hb; omega⟩)
      have HP1 := Lib.hid hp1
      have HBR := Lib.hid hd.out.2.2.2
      clear hY hp1 hX hgb hvl hd hmk hx32
      go_wp2_with fail
      refine HD.out.mono ?_
      rintro e w7 ⟨v7, rfl, hob, ho, hc⟩
      have hgne : ¬ v.ownBlock = some g := HP1.out.2.2.2.2
      have hpb := HP1.out.2.2.1.chg hc hgne
      have hfr := hpb.frozen 1
      have hg2 := hpb.cell 1
      rw [show (#[Value.int .i64 (most : Int), v] : Array Value)[1]? = some v from rfl] at hg2
      obtain ⟨nS, hnS⟩ : ∃ nS, nS = (stayX l (encsX Y) X).length := ⟨_, rfl⟩
      rw [← hnS] at ho
      have HNS := Lib.hid hnS
      obtain ⟨A7, c7, rfl⟩ := ho.form
      have HPB := Lib.hid (hpb.set_ 1 (.slice A7 nS c7))
      have HO := Lib.hid ho
      have HC := Lib.hid hc
      have HOB := Lib.hid hob
      have HNE := Lib.hid hgne
      clear hpb ho hc hob hgne hnS
      go_wp2_with fail
      go_end0
      refine ⟨.slice A7 nS c7, rfl, HOB.out, ⟨⟨HP1.out.1, ?_, HPB.out, ?_, by rw [HOB.out]; exact HNE.out⟩, fun x hx => HP.out.2 x (List.mem_filter.1 hx).1⟩, ?_⟩
      · have h1 := HP1.out.2.1
        rw [List.length_map] at h1 ⊢
        exact Nat.le_trans (List.length_filter_le _ _) h1
      · have h1 := own_keep (w' := w7.setCell ⟨g, 1, none⟩ (.slice A7 nS c7)) HO.out fun k hk => Below.heap_setCell w7 ⟨g, 1, none⟩ _ k fun e => HNE.out (by rw [← HOB.out]; rw [hk]; exact congrArg some e)
        rw [List.length_map, ← HNS.out, List.map_map]
        exact h1
      · exact ((Chg.of_below HBR.out fun b => b = g ∨ v.ownBlock = some b).trans (HC.out.mono (M' := fun b => b = g ∨ v.ownBlock = some b) fun b hb => .inr hb) fun b hb => .inl hb).setCell (p := ⟨g, 1, none⟩) (.inl (.inl rfl)) _
end
section
open Go.RowKit Go.Maps
attribute [-simp] Tryz.isAgg34 Tryz.typeInfo34 Tryz.isAgg40 Tryz.typeInfo40 Tryz.isAgg37 Tryz.typeInfo37 Tryz.isAgg57 Tryz.typeInfo57
theorem Fs.rep_cons {w : World} {S : Nat → Prop} {s : Sh} {fs : Fs} {a : s.El} {b : fs.El} {c1 c2 : List Value} (h1 : s.rep w S a c1) (h2 : fs.rep w S b c2) : (Fs.cons s fs).rep w S (a, b) (c1 ++ c2) := ⟨c1, c2, rfl, h1, h2⟩
theorem wi (n : Int) (h : n = 0 ∨ n = 1 ∨ n = 2) : (nk true).wrap n = n := by rcases h with rfl | rfl | rfl <;> decide
theorem wu (n : Int) (h0 : 0 ≤ n) (h1 : n < 18446744073709551616) : (nk false).wrap n = n := by rw [wrap_u]; omega
theorem num_i (w : World) (S : Nat → Prop) (n : Int) (h : n = 0 ∨ n = 1 ∨ n = 2) : (Sh.num true).rep w S n [.int .i64 n] := ⟨rfl, wi n h⟩
theorem num_u (w : World) (S : Nat → Prop) (n : Int) (h0 : 0 ≤ n) (h1 : n < 18446744073709551616) : (Sh.num false).rep w S n [.int .u64 n] := ⟨rfl, wu n h0 h1⟩
theorem dig_0 (w : World) (S : Nat → Prop) : Sh.dig.rep w S (List.replicate 32 0) (List.replicate 32 (.int .u8 0)) := ⟨by unfold u8s; rw [List.map_replicate]; rfl, List.length_replicate ..⟩
theorem list_0 (w : World) (S : Nat → Prop) (s : Sh) : (Sh.list s).rep w S ([] : List s.El) [.slice none 0 0] := ⟨_, [], rfl, Cs.nil_ _ _ _, .nil⟩
def payX (n : Int) : TxE := (1, 1, 2, 1, n, 0, 0, List.replicate 32 0, 0, ([] : List tFact.El), ())
def payC (n : Int) : List Value := [.int .i64 1] ++ ([.int .u64 1] ++ ([.int .u64 2] ++ ([.int .u64 1] ++ ([.int .u64 n] ++ ([.int .i64 0] ++ ([.int .i64 0] ++ (List.replicate 32 (.int .u8 0) ++ ([.int .i64 0] ++ ([.slice none 0 0] ++ [])))))))))
theorem pay_rep (w : World) (S : Nat → Prop) {n : Int} (h0 : 0 ≤ n) (h1 : n < 18446744073709551616) : tTx.rep w S (payX n) (payC n) :=
  Fs.rep_cons (num_i w S 1 (by omega)) (Fs.rep_cons (num_u w S 1 (by omega) (by omega)) (Fs.rep_cons (num_u w S 2 (by omega) (by omega)) (Fs.rep_cons (num_u w S 1 (by omega) (by omega)) (Fs.rep_cons (num_u w S n h0 h1) (Fs.rep_cons (num_i w S 0 (by omega)) (Fs.rep_cons (num_i w S 0 (by omega)) (Fs.rep_cons (dig_0 w S) (Fs.rep_cons (num_i w S 0 (by omega)) (Fs.rep_cons (list_0 w S _) (rfl : Fs.nil.rep w S () []))))))))))
theorem results_cell {P : Program} {fn : Func} {a : Nat} {t : TypeId} (h : fn.results = #[.cell a t]) {tmps : Array Value} {p : Addr} (hp : tmps.getD a undef = .pointer (some p)) {wx : World} {v : Value} (hl : (loadVar t p).run P wx = .ok v wx) : (results fn tmps).run P wx = .ok v wx := by
  have hp' : tmps[a]?.getD undef = .pointer (some p) := by rw [← hp]; simp
  simp [results, h, hp', asAddr, hl]
theorem payC_len (n : Int) : (payC n).length = 41 := rfl
theorem build_pay (w : World) (n : Int) : (Instr.build 40 #[(0, .int .i64 1), (1, .int .u64 1), (2, .int .u64 2), (3, .int .u64 1), (4, .int .u64 n)]).run Tryz.prog w = .ok (.agg (payC n).toArray) w := by kernel_rfl
theorem payC_one (n : Int) : ∀ u ∈ payC n, u.oneCell' = true := by
  have h : (payC n).all (·.oneCell') = true := rfl
  exact fun u hu => List.all_eq_true.1 h u hu
set_option maxHeartbeats 4000000 in
set_option maxRecDepth 100000 in
theorem pay_any (w : World) (n : Int) : Calls Tryz.prog 27 #[.int .u64 n] w fun e w' => e = .returned (.agg (payC n).toArray) ∧ Below w.heap.size w w' := by
  have HJ := Lib.hid (tx_size (payC_len n))
  have HBU := Lib.hid (fun w => build_pay w n)
  have HC1 := Lib.hid (payC_one n)
  go_enter Tryz.func27, Tryz.ntmps27
  go_wp2_with (first
    | (refine wpList_build_ rfl 40 _ rfl #[(0, .int .i64 1), (1, .int .u64 1), (2, .int .u64 2), (3, .int .u64 1), (4, .int .u64 n)] (by simp [Act.eval]) _ HBU.out ?_)
    | (refine wpList_store_blk (cs0 := [.int .i64 0, .int .u64 0, .int .u64 0, .int .u64 0, .int .u64 0, .int .i64 0, .int .i64 0] ++ List.replicate 32 (.int .u8 0) ++ [.int .i64 0, .slice none 0 0]) (cs := payC n) rfl 40 _ _ rfl (Blk.new w _ _) rfl rfl rfl HJ.out HC1.out ?_; intro w4 hb4 hc4; have HB4 := Lib.hid hb4; have HC4 := Lib.hid hc4; clear hb4 hc4))
  have hld := run_loadVar_mid (P := Tryz.prog) w4 w.heap.size 0 40 (payC n) _ HB4.out.range Tryz.underlying40 rfl HJ.out
  refine bodyPost_ret (results_cell (P := Tryz.prog) Tryz.results27 (p := ⟨w.heap.size, 0, none⟩) rfl hld) rfl ⟨rfl, ?_⟩
  have hal := (Below.refl w.heap.size w).alloc (Nat.le_refl _) (.cells (([.int .i64 0, .int .u64 0, .int .u64 0, .int .u64 0, .int .u64 0, .int .i64 0, .int .i64 0] ++ List.replicate 32 (.int .u8 0) ++ [.int .i64 0, .slice none 0 0] : List Value)).toArray 40)
  exact hal.trans (HC4.out.below hal.size fun k hk => Nat.le_of_eq hk.symm)
end
section
open Go.RowKit Go.Maps
attribute [-simp] Tryz.isAgg34 Tryz.typeInfo34 Tryz.isAgg40 Tryz.typeInfo40 Tryz.isAgg37 Tryz.typeInfo37 Tryz.isAgg57 Tryz.typeInfo57
def addX (l : List (Int × Int × Int × Unit)) (most : Nat) (X : List TxE) (x : TxE) : List TxE := if addE l most (encsX X) x = 0 then X ++ [x] else X
theorem addX_encs (l : List (Int × Int × Int × Unit)) (most : Nat) (X : List TxE) (x : TxE) : encsX (addX l most X x) = addL l most (encsX X) x := by
  unfold addX addL
  by_cases h : addE l most (encsX X) x = 0
  · rw [if_pos h, if_pos h]; exact List.map_append
  · rw [if_neg h, if_neg h]
def AddX (w : World) (g : Nat) (v : Value) (most : Nat) (r : Int) (X' : List TxE) (e : Ending) (w' : World) : Prop :=
  e = .returned (.int .i64 r) ∧ ∃ v', PoolX w' g v' most X' ∧ Chg (fun b => b = g ∨ v.ownBlock = some b) w w' ∧ (v'.ownBlock = v.ownBlock ∨ ∃ k, v'.ownBlock = some k ∧ w.heap.size ≤ k)
theorem addX_any (w : World) {S T : Nat → Prop} {l : List (Int × Int × Int × Unit)} {ss cs : List Value} {x : TxE} {g most : Nat} {v : Value} {X : List TxE} (hs : StA w S l ss) (h : tTx.rep w T x cs) (hp : PoolX w g v most X) (hl : (tTx.enc x).length ≤ 1099511627776) :
    Calls Tryz.prog 13 #[.pointer (some ⟨g, 0, none⟩), .agg ss.toArray, .agg cs.toArray] w (AddX w g v most (addE l most (encsX X) x) (addX l most X x)) := by
  refine (add_any w hs h hp.1 hl).mono ?_
  rintro e w' ⟨rfl, v', hp', hc, hv⟩
  refine ⟨rfl, v', ⟨?_, ?_⟩, hc, hv⟩
  · have := addX_encs l most X x
    rw [show (addX l most X x).map (fun x => tTx.enc x) = addL l most (encsX X) x from this]
    exact hp'
  · intro y hy
    unfold addX at hy
    by_cases h0 : addE l most (encsX X) x = 0
    · rw [if_pos h0, List.mem_append, List.mem_singleton] at hy
      rcases hy with hy | rfl
      · exact hp.2 y hy
      · exact ⟨Sh.dec_enc tTx y (Sh.rep_wf tTx _ _ h) (by omega), (addE_ok h0).2.1⟩
    · rw [if_neg h0] at hy
      exact hp.2 y hy
abbrev lA : List (Int × Int × Int × Unit) := [(1, 0, 3, ())]
theorem acct_A : acctP lA 1 = (1, 0, 3, ()) := by
  unfold acctP
  have : bsP (lA.map (·.1)) 1 0 lA.length = 0 := by
    show bsP [1] 1 0 1 = 0
    unfold bsP
    rw [dif_pos (by decide)]
    have h : ¬ ([1] : List Int).getD ((0 + 1) / 2) 0 < 1 := by decide
    rw [if_neg h]
    unfold bsP
    rw [dif_neg (by decide)]
  rw [this]
  rfl
theorem form_pay (n : Int) : formX (payX n) = 0 := by
  unfold formX payX
  simp [kindX]
theorem stale_pay (n : Int) : staleX lA (payX n) = decide (n < 3) := by
  show (spendsX (payX n) && decide (n < (acctP lA 1).2.2.1)) = _
  rw [acct_A]
  rfl
set_option maxRecDepth 100000 in
theorem len4 : (tTx.enc (payX 4)).length ≤ 65536 := by decide +kernel
set_option maxRecDepth 100000 in
theorem len3 : (tTx.enc (payX 3)).length ≤ 65536 := by decide +kernel
set_option maxRecDepth 100000 in
theorem len2 : (tTx.enc (payX 2)).length ≤ 65536 := by decide +kernel
set_option maxRecDepth 100000 in
theorem ne34 : tTx.enc (payX 3) ≠ tTx.enc (payX 4) := by decide +kernel
set_option maxRecDepth 100000 in
theorem ne24 : tTx.enc (payX 2) ≠ tTx.enc (payX 4) := by decide +kernel
set_option maxRecDepth 100000 in
theorem ne23 : tTx.enc (payX 2) ≠ tTx.enc (payX 3) := by decide +kernel
theorem add1 : addE lA 3 (encsX []) (payX 4) = 0 := by
  unfold addE
  rw [if_neg (by rw [form_pay]; simp), if_neg (by have := len4; omega), if_neg (by simp [encsX]), stale_pay, if_neg (by decide), if_neg (by decide)]
theorem add2 : addE lA 3 (encsX [payX 4]) (payX 3) = 0 := by
  unfold addE
  rw [if_neg (by rw [form_pay]; simp), if_neg (by have := len3; omega), if_neg (by simp [encsX, ne34]), stale_pay, if_neg (by decide), if_neg (by decide)]
theorem add3 : addE lA 3 (encsX [payX 4, payX 3]) (payX 2) = 21 := by
  unfold addE
  rw [if_neg (by rw [form_pay]; simp), if_neg (by have := len2; omega), if_neg (by simp [encsX, ne24, ne23]), stale_pay, if_pos (by decide)]
theorem add4 : addE lA 3 (encsX [payX 4, payX 3]) (payX 4) = 31 := by
  unfold addE
  rw [if_neg (by rw [form_pay]; simp), if_neg (by have := len4; omega), if_pos (by simp [encsX])]
theorem fits_pay (out : List TxE) (n : Int) : fitsX lA out (payX n) = (n == (3 + (cntP spendsX fromX out 1 : Nat)) % 18446744073709551616) := by
  show (!spendsX (payX n) || n == (baseX lA 1 + cntP spendsX fromX out 1) % 18446744073709551616) = _
  unfold baseX
  rw [acct_A]
  rfl
theorem next_pay : nextX lA 8 [payX 4, payX 3] = [payX 3, payX 4] := by
  have c0 : cntP spendsX fromX [] 1 = 0 := rfl
  have c1 : cntP spendsX fromX [payX 3] 1 = 1 := rfl
  have f1 : List.findIdx? (fitsX lA []) [payX 4, payX 3] = some 1 := by
    have g1 : fitsX lA [] (payX 4) = false := by rw [fits_pay, c0]; decide
    have g2 : fitsX lA [] (payX 3) = true := by rw [fits_pay, c0]; decide
    rw [List.findIdx?_cons, g1, List.findIdx?_cons, g2]; rfl
  have f2 : List.findIdx? (fitsX lA [payX 3]) [payX 4] = some 0 := by
    have g1 : fitsX lA [payX 3] (payX 4) = true := by rw [fits_pay, c1]; decide
    rw [List.findIdx?_cons, g1]; rfl
  unfold nextX
  rw [(nextP_some (n := 7) f1 (by decide)).1]
  show nextP spendsX fromX nonceX (baseX lA) 7 [payX 4] [payX 3] = _
  rw [(nextP_some (n := 6) f2 (by decide)).1]
  show nextP spendsX fromX nonceX (baseX lA) 6 [] [payX 3, payX 4] = _
  exact (nextP_none (n := 5) rfl).1
theorem done_pay : stayX lA (encsX [payX 3]) [payX 4, payX 3] = [payX 4] := by
  have g4 : goneP lA (encsX [payX 3]) (payX 4) = false := by
    unfold goneP goneX
    rw [stale_pay, decide_eq_false (by simp [encsX, ne34.symm])]; decide
  have g3 : goneP lA (encsX [payX 3]) (payX 3) = true := by
    unfold goneP goneX
    rw [decide_eq_true (by simp [encsX])]; rfl
  unfold stayX
  rw [List.filter_cons, List.filter_cons]
  simp only [g4, g3]
  rfl
end
section
open Go.RowKit Go.Maps
attribute [-simp] Tryz.isAgg34 Tryz.typeInfo34 Tryz.isAgg40 Tryz.typeInfo40 Tryz.isAgg37 Tryz.typeInfo37 Tryz.isAgg57 Tryz.typeInfo57
theorem Two.take_ {α β : Type} {R : α → β → Prop} {l : List α} {m : List β} (h : Two R l m) : ∀ k, Two R (l.take k) (m.take k) := by
  induction h with
  | nil => intro k; simp only [List.take_nil]; exact .nil
  | cons h _ ih =>
    intro k
    cases k with
    | zero => exact .nil
    | succ k => exact .cons h (ih k)
theorem list_take {w : World} {S : Nat → Prop} {X : List TxE} {A : Option Addr} {n cap : Nat} (h : (Sh.list tTx).rep w S X [.slice A n cap]) {k : Nat} (hk : k ≤ n) : (Sh.list tTx).rep w S (X.take k) [.slice A k cap] := by
  obtain ⟨v', css, e, h1, h2⟩ := h
  obtain rfl : Value.slice A n cap = v' := by simpa using e
  obtain ⟨hl, A', cap', e, hn, hc, hp⟩ := h1
  injection e with e1 e2 e3
  subst e1; subst e3
  have hXn : List.length X = n := e2.symm
  have hlen := h2.length
  have c1 := fun c hc => (two_cells h2).1 c hc
  refine ⟨_, css.take k, rfl, ⟨?_, A, cap, ?_, ?_, hc, fun h0 => ?_⟩, ?_⟩
  · rw [fl_len (m := 41) _ fun c hc => c1 c (List.mem_of_mem_take hc), List.length_take]
    show min k css.length * 41 = (X.take k).length * 41
    rw [List.length_take]; omega
  · show Value.slice A k cap = .slice A (X.take k).length cap
    rw [List.length_take, Nat.min_eq_left (by omega)]
  · show (X.take k).length ≤ cap
    rw [List.length_take]; have hn : List.length X ≤ cap := hn; omega
  · have h0 : 0 < (X.take k).length := h0
    rw [List.length_take] at h0
    obtain ⟨b, off, rfl, hS, hlt, hc⟩ := hp (by show 0 < List.length X; omega)
    refine ⟨b, off, rfl, hS, hlt, fun j u hu => hc j u ?_⟩
    rw [← fl_take css k c1 (by omega), List.getElem?_take] at hu
    split at hu
    · exact hu
    · cases hu
  · exact h2.take_ k
def ssA (b : Nat) : List Value := [.int .i64 0, .slice (some ⟨b, 0, none⟩) 1 1, .slice none 0 0, .slice none 0 0, .slice none 0 0, .slice none 0 0]
def acA : List Value := [.int .u64 1, .int .u64 0, .int .u64 3]
theorem sta_A {w : World} {b : Nat} (h : Blk w b 57 acA.toArray) : StA w (fun _ => True) lA (ssA b) :=
  ⟨rfl, by simp [ssA, Value.oneCell'], by decide, _, 1, rfl, by decide, by simp only [maxLen]; decide, fun _ => ⟨b, 0, rfl, trivial, h.lt, fun k hk => by
    obtain rfl : k = 0 := by have : k < 1 := hk; omega
    exact h.range⟩⟩
theorem build_acct (w : World) : (Instr.build 57 #[(0, .int .u64 1), (2, .int .u64 3)]).run Tryz.prog w = .ok (.agg acA.toArray) w := by kernel_rfl
theorem build_state (w : World) (b : Nat) : (Instr.build 34 #[(1, .slice (some ⟨b, 0, none⟩) 1 1)]).run Tryz.prog w = .ok (.agg (ssA b).toArray) w := by kernel_rfl
def AwI (w w' : World) (g bA gS : Nat) (v : Value) (X : List TxE) : Prop :=
  PoolX w' g v 3 X ∧ Blk w' gS 34 (ssA bA).toArray ∧ Blk w' bA 57 acA.toArray ∧ Below w.heap.size w w' ∧ (∀ b, v.ownBlock = some b → b ≠ gS ∧ b ≠ bA ∧ w.heap.size ≤ b)
theorem AwI.below {w w' w2 : World} {g bA gS : Nat} {v : Value} {X : List TxE} (h : AwI w w' g bA gS v X) (hb : Below w'.heap.size w' w2) : AwI w w2 g bA gS v X :=
  ⟨⟨h.1.1.below hb, h.1.2⟩, h.2.1.below hb h.2.1.lt, h.2.2.1.below hb h.2.2.1.lt, h.2.2.2.1.trans (hb.mono h.2.2.2.1.size), h.2.2.2.2⟩
theorem AwI.to {w w' w2 : World} {g bA gS : Nat} {v v' : Value} {X X' : List TxE} (h : AwI w w' g bA gS v X) (hp : PoolX w2 g v' 3 X') (hc : Chg (fun b => b = g ∨ v.ownBlock = some b) w' w2) (hv : v'.ownBlock = v.ownBlock ∨ ∃ k, v'.ownBlock = some k ∧ w'.heap.size ≤ k) (hg : g ≠ gS ∧ g ≠ bA ∧ w.heap.size ≤ g) : AwI w w2 g bA gS v' X' := by
  obtain ⟨h1, h2, h3, h4, h5⟩ := h
  refine ⟨hp, h2.chg hc ?_, h3.chg hc ?_, h4.trans (hc.below h4.size ?_), fun b hb => ?_⟩
  · rintro (e | e)
    · exact hg.1 e.symm
    · exact (h5 _ e).1 rfl
  · rintro (e | e)
    · exact hg.2.1 e.symm
    · exact (h5 _ e).2.1 rfl
  · rintro b (e | e)
    · rw [e]; exact hg.2.2
    · exact (h5 _ e).2.2
  · rcases hv with e | ⟨k, e, hk⟩
    · exact h5 b (e ▸ hb)
    · rw [e] at hb; injection hb with hb; subst hb
      have := h2.lt; have := h3.lt; have := h4.size
      omega
set_option maxHeartbeats 16000000 in
set_option maxRecDepth 100000 in
theorem awakeP_any (w : World) {sent : Value} (hk : Pk w sent) : Calls Tryz.prog 9 #[] w fun e w' => e = .returned (.bool true) ∧ Below w.heap.size w w' := by
  have HK := Lib.hid hk
  have HN := Lib.hid (poolNew_any w 3)
  have HI := Lib.hid (show ∀ b, (Tryz.prog.info? 34).map (·.size) = some (ssA b).length from fun b => by show _ = some 6; kernel_rfl)
  have HBA := Lib.hid build_acct
  have HBS := Lib.hid build_state
  clear hk
  go_enter Tryz.func9, Tryz.ntmps9
  go_wp2_with fail
  refine HN.out.mono ?_
  rintro e wN ⟨rfl, hpN, hbN⟩
  have hpX : PoolX wN w.heap.size (.slice none 0 0) 3 [] := ⟨hpN, fun x hx => by cases hx⟩
  have HI := Lib.hid (HI.out wN.heap.size)
  have HPX := Lib.hid hpX
  have HBN := Lib.hid hbN
  have HGL := Lib.hid hpN.lt
  clear hpN hbN hpX HN
  go_wp2_with (first
    | (refine wpList_build_ rfl 57 _ rfl #[(0, .int .u64 1), (2, .int .u64 3)] (by simp [Act.eval]) _ HBA.out ?_)
    | (refine wpList_row1 rfl 28 57 _ rfl Tryz.underlying28 (.agg acA.toArray) rfl acA rfl (by kernel_rfl) (by decide) (by decide) ?_)
    | (refine wpList_build_ rfl 34 _ rfl #[(1, .slice (some ⟨wN.heap.size, 0, none⟩) 1 1)] (by simp [Act.eval]) _ (fun w => HBS.out w wN.heap.size) ?_)
    | (refine wpList_store_blk (cs0 := [.int .i64 0, .slice none 0 0, .slice none 0 0, .slice none 0 0, .slice none 0 0, .slice none 0 0]) (cs := ssA wN.heap.size) rfl 34 _ _ rfl (Blk.new (wN.alloc (.cells acA.toArray 57)) _ _) rfl rfl rfl HI.out (by simp [ssA, Value.oneCell']) ?_; intro w4 hb4 hc4; have HB4 := Lib.hid hb4; have HC4 := Lib.hid hc4; clear hb4 hc4))
  obtain ⟨w4, hw4⟩ : ∃ w4, w4 = (wN.alloc (.cells acA.toArray 57)).alloc (.cells (ssA wN.heap.size).toArray 34) := ⟨_, rfl⟩
  have e4 : (wN.alloc (.cells acA.toArray 57)).alloc (.cells #[.int .i64 0, .slice (some ⟨wN.heap.size, 0, none⟩) 1 1, .slice none 0 0, .slice none 0 0, .slice none 0 0, .slice none 0 0] 34) = w4 := hw4.symm
  rw [e4]
  clear e4
  have hbS : Below wN.heap.size wN w4 := by
    rw [hw4]
    exact ((Below.refl wN.heap.size wN).alloc (Nat.le_refl _) (.cells acA.toArray 57)).alloc (by simp) (.cells (ssA wN.heap.size).toArray 34)
  have hB4 : Blk w4 (wN.heap.size + 1) 34 (ssA wN.heap.size).toArray := by
    have h := Blk.new (wN.alloc (.cells acA.toArray 57)) 34 (ssA wN.heap.size).toArray
    rw [show (wN.alloc (.cells acA.toArray 57)).heap.size = wN.heap.size + 1 by simp] at h
    rw [hw4]; exact h
  have h0 : AwI w w4 w.heap.size wN.heap.size (wN.heap.size + 1) (.slice none 0 0) [] :=
    ⟨⟨HPX.out.1.below hbS, HPX.out.2⟩, hB4, by rw [hw4]; exact (Blk.new wN 57 acA.toArray).alloc _, HBN.out.trans (hbS.mono HBN.out.size), fun b hb => by simp [Value.ownBlock] at hb⟩
  have hgo : w.heap.size ≠ wN.heap.size + 1 ∧ w.heap.size ≠ wN.heap.size ∧ w.heap.size ≤ w.heap.size := by have := HGL.out; omega
  have HA0 := Lib.hid h0
  have HGO := Lib.hid hgo
  clear h0 hgo hbS hB4 hw4 HPX HBN HBA HBS
  refine wp_region_segsV [([0, 1], [2]), ([], [3]), ([], [4])] (by kernel_rfl) (by kernel_rfl) (by kernel_rfl) (by kernel_rfl)
    (SegV.mk (fun w' => Blk w' (wN.heap.size + 1) 34 (ssA wN.heap.size).toArray) (fun _ _ => trivial) HA0.out.2.1.drew ?_)
  (refine HoistK.yes (by rfl) (by kernel_rfl) ⟨?_, fun w' hSw => ?_, ?_⟩; rotate_left; (· go_simp; try with_reducible rfl); simp only [Act.put, setIfInBounds_toArray, getElem_toArray, getElem_cons_zero, set_cons_succ, set_cons_zero])
  (refine HoistK.load (by rfl) (by kernel_rfl) 34 _ rfl (wN.heap.size + 1) 0 rfl (ssA wN.heap.size) _ (fun w' hw => hw.range) Tryz.underlying34 rfl HI.out ?_; simp only [Act.put, setIfInBounds_toArray, getElem_toArray, getElem_cons_succ, getElem_cons_zero, set_cons_succ, set_cons_zero])
  refine HoistK.nil_ ?_
  simp only [opsAt, filterMap_cons, filterMap_nil, getElem?_toArray, getElem?_cons_succ, getElem?_cons_zero]
  refine EffS.cons_ fun _ hQ => ?_
  go_wp2_with fail
  refine (pay_any _ 4).mono ?_
  rintro e w5_0 ⟨rfl, hb5⟩
  have hA5 := (HA0.out.below ((Below.refl w4.heap.size w4).drew)).below hb5
  go_wp2_with fail
  refine hQ _ _ hA5.2.1 (EffS.nil_ (SegV.mk (fun w' => Blk w' (wN.heap.size + 1) 34 (ssA wN.heap.size).toArray) (fun _ h => h) hA5.2.1 ?_))
  refine HoistK.nil_ ?_
  simp only [opsAt, filterMap_cons, filterMap_nil, getElem?_toArray, getElem?_cons_succ, getElem?_cons_zero]
  refine EffS.cons_ fun _ hQ => ?_
  go_wp2_with fail
  refine (addX_any w5_0 (sta_A hA5.2.2.1) (pay_rep w5_0 (fun _ => True) (n := 4) (by decide) (by decide)) hA5.1 (by have := len4; omega)).mono ?_
  rintro e w7_0 ⟨rfl, v0, hpx, hc7, hv7⟩
  have hX2 : addX lA 3 [] (payX 4) = [payX 4] := by unfold addX; rw [add1]; rfl
  rw [hX2] at hpx
  rw [add1]
  have hA7 := hA5.to hpx hc7 hv7 HGO.out
  have HA1 := Lib.hid hA7
  clear hb5 hA5 hpx hc7 hv7 hX2 HA0
  go_wp2_with fail
  refine hQ _ _ hA7.2.1 (EffS.nil_ (SegV.mk (fun w' => Blk w' (wN.heap.size + 1) 34 (ssA wN.heap.size).toArray) (fun _ h => h) hA7.2.1 ?_))
  refine HoistK.nil_ ?_
  simp only [opsAt, filterMap_cons, filterMap_nil, getElem?_toArray, getElem?_cons_succ, getElem?_cons_zero]
  refine EffS.cons_ fun _ hQ => ?_
  go_wp2_with fail
  refine hQ _ _ hA7.2.1 (EffS.nil_ fun _ hQ => ?_)
  clear hA7
  go_wp2_with fail
  refine wp_region_segsV [([0, 1], [2]), ([], [3]), ([], [4])] (by kernel_rfl) (by kernel_rfl) (by kernel_rfl) (by kernel_rfl)
    (SegV.mk (fun w' => Blk w' (wN.heap.size + 1) 34 (ssA wN.heap.size).toArray) (fun _ _ => trivial) HA1.out.2.1.drew ?_)
  (refine HoistK.yes (by rfl) (by kernel_rfl) ⟨?_, fun w' hSw => ?_, ?_⟩; rotate_left; (· go_simp; try with_reducible rfl); simp only [Act.put, setIfInBounds_toArray, getElem_toArray, getElem_cons_zero, set_cons_succ, set_cons_zero])
  (refine HoistK.load (by rfl) (by kernel_rfl) 34 _ rfl (wN.heap.size + 1) 0 rfl (ssA wN.heap.size) _ (fun w' hw => hw.range) Tryz.underlying34 rfl HI.out ?_; simp only [Act.put, setIfInBounds_toArray, getElem_toArray, getElem_cons_succ, getElem_cons_zero, set_cons_succ, set_cons_zero])
  refine HoistK.nil_ ?_
  simp only [opsAt, filterMap_cons, filterMap_nil, getElem?_toArray, getElem?_cons_succ, getElem?_cons_zero]
  refine EffS.cons_ fun _ hQ => ?_
  go_wp2_with fail
  refine (pay_any _ 3).mono ?_
  rintro e w5_1 ⟨rfl, hb5⟩
  have hA5 := (HA1.out.below ((Below.refl w7_0.heap.size w7_0).drew)).below hb5
  go_wp2_with fail
  refine hQ _ _ hA5.2.1 (EffS.nil_ (SegV.mk (fun w' => Blk w' (wN.heap.size + 1) 34 (ssA wN.heap.size).toArray) (fun _ h => h) hA5.2.1 ?_))
  refine HoistK.nil_ ?_
  simp only [opsAt, filterMap_cons, filterMap_nil, getElem?_toArray, getElem?_cons_succ, getElem?_cons_zero]
  refine EffS.cons_ fun _ hQ => ?_
  go_wp2_with fail
  refine (addX_any w5_1 (sta_A hA5.2.2.1) (pay_rep w5_1 (fun _ => True) (n := 3) (by decide) (by decide)) hA5.1 (by have := len3; omega)).mono ?_
  rintro e w7_1 ⟨rfl, v1, hpx, hc7, hv7⟩
  have hX2 : addX lA 3 [payX 4] (payX 3) = [payX 4, payX 3] := by unfold addX; rw [add2]; rfl
  rw [hX2] at hpx
  rw [add2]
  have hA7 := hA5.to hpx hc7 hv7 HGO.out
  have HA2 := Lib.hid hA7
  clear hb5 hA5 hpx hc7 hv7 hX2 HA1
  go_wp2_with fail
  refine hQ _ _ hA7.2.1 (EffS.nil_ (SegV.mk (fun w' => Blk w' (wN.heap.size + 1) 34 (ssA wN.heap.size).toArray) (fun _ h => h) hA7.2.1 ?_))
  refine HoistK.nil_ ?_
  simp only [opsAt, filterMap_cons, filterMap_nil, getElem?_toArray, getElem?_cons_succ, getElem?_cons_zero]
  refine EffS.cons_ fun _ hQ => ?_
  go_wp2_with fail
  refine hQ _ _ hA7.2.1 (EffS.nil_ fun _ hQ => ?_)
  clear hA7
  go_wp2_with fail
  refine wp_region_segsV [([0, 1], [2]), ([], [3]), ([], [4])] (by kernel_rfl) (by kernel_rfl) (by kernel_rfl) (by kernel_rfl)
    (SegV.mk (fun w' => Blk w' (wN.heap.size + 1) 34 (ssA wN.heap.size).toArray) (fun _ _ => trivial) HA2.out.2.1.drew ?_)
  (refine HoistK.yes (by rfl) (by kernel_rfl) ⟨?_, fun w' hSw => ?_, ?_⟩; rotate_left; (· go_simp; try with_reducible rfl); simp only [Act.put, setIfInBounds_toArray, getElem_toArray, getElem_cons_zero, set_cons_succ, set_cons_zero])
  (refine HoistK.load (by rfl) (by kernel_rfl) 34 _ rfl (wN.heap.size + 1) 0 rfl (ssA wN.heap.size) _ (fun w' hw => hw.range) Tryz.underlying34 rfl HI.out ?_; simp only [Act.put, setIfInBounds_toArray, getElem_toArray, getElem_cons_succ, getElem_cons_zero, set_cons_succ, set_cons_zero])
  refine HoistK.nil_ ?_
  simp only [opsAt, filterMap_cons, filterMap_nil, getElem?_toArray, getElem?_cons_succ, getElem?_cons_zero]
  refine EffS.cons_ fun _ hQ => ?_
  go_wp2_with fail
  refine (pay_any _ 2).mono ?_
  rintro e w5_2 ⟨rfl, hb5⟩
  have hA5 := (HA2.out.below ((Below.refl w7_1.heap.size w7_1).drew)).below hb5
  go_wp2_with fail
  refine hQ _ _ hA5.2.1 (EffS.nil_ (SegV.mk (fun w' => Blk w' (wN.heap.size + 1) 34 (ssA wN.heap.size).toArray) (fun _ h => h) hA5.2.1 ?_))
  refine HoistK.nil_ ?_
  simp only [opsAt, filterMap_cons, filterMap_nil, getElem?_toArray, getElem?_cons_succ, getElem?_cons_zero]
  refine EffS.cons_ fun _ hQ => ?_
  go_wp2_with fail
  refine (addX_any w5_2 (sta_A hA5.2.2.1) (pay_rep w5_2 (fun _ => True) (n := 2) (by decide) (by decide)) hA5.1 (by have := len2; omega)).mono ?_
  rintro e w7_2 ⟨rfl, v2, hpx, hc7, hv7⟩
  have hX2 : addX lA 3 [payX 4, payX 3] (payX 2) = [payX 4, payX 3] := by unfold addX; rw [add3]; rfl
  rw [hX2] at hpx
  rw [add3]
  have hA7 := hA5.to hpx hc7 hv7 HGO.out
  have HA3 := Lib.hid hA7
  clear hb5 hA5 hpx hc7 hv7 hX2 HA2
  go_wp2_with fail
  refine hQ _ _ hA7.2.1 (EffS.nil_ (SegV.mk (fun w' => Blk w' (wN.heap.size + 1) 34 (ssA wN.heap.size).toArray) (fun _ h => h) hA7.2.1 ?_))
  refine HoistK.nil_ ?_
  simp only [opsAt, filterMap_cons, filterMap_nil, getElem?_toArray, getElem?_cons_succ, getElem?_cons_zero]
  refine EffS.cons_ fun _ hQ => ?_
  go_wp2_with fail
  refine hQ _ _ hA7.2.1 (EffS.nil_ fun _ hQ => ?_)
  clear hA7
  go_wp2_with fail
  refine wp_region_segsV [([0, 1], [2]), ([], [3]), ([], [4])] (by kernel_rfl) (by kernel_rfl) (by kernel_rfl) (by kernel_rfl)
    (SegV.mk (fun w' => Blk w' (wN.heap.size + 1) 34 (ssA wN.heap.size).toArray) (fun _ _ => trivial) HA3.out.2.1.drew ?_)
  (refine HoistK.yes (by rfl) (by kernel_rfl) ⟨?_, fun w' hSw => ?_, ?_⟩; rotate_left; (· go_simp; try with_reducible rfl); simp only [Act.put, setIfInBounds_toArray, getElem_toArray, getElem_cons_zero, set_cons_succ, set_cons_zero])
  (refine HoistK.load (by rfl) (by kernel_rfl) 34 _ rfl (wN.heap.size + 1) 0 rfl (ssA wN.heap.size) _ (fun w' hw => hw.range) Tryz.underlying34 rfl HI.out ?_; simp only [Act.put, setIfInBounds_toArray, getElem_toArray, getElem_cons_succ, getElem_cons_zero, set_cons_succ, set_cons_zero])
  refine HoistK.nil_ ?_
  simp only [opsAt, filterMap_cons, filterMap_nil, getElem?_toArray, getElem?_cons_succ, getElem?_cons_zero]
  refine EffS.cons_ fun _ hQ => ?_
  go_wp2_with fail
  refine (pay_any _ 4).mono ?_
  rintro e w5_3 ⟨rfl, hb5⟩
  have hA5 := (HA3.out.below ((Below.refl w7_2.heap.size w7_2).drew)).below hb5
  go_wp2_with fail
  refine hQ _ _ hA5.2.1 (EffS.nil_ (SegV.mk (fun w' => Blk w' (wN.heap.size + 1) 34 (ssA wN.heap.size).toArray) (fun _ h => h) hA5.2.1 ?_))
  refine HoistK.nil_ ?_
  simp only [opsAt, filterMap_cons, filterMap_nil, getElem?_toArray, getElem?_cons_succ, getElem?_cons_zero]
  refine EffS.cons_ fun _ hQ => ?_
  go_wp2_with fail
  refine (addX_any w5_3 (sta_A hA5.2.2.1) (pay_rep w5_3 (fun _ => True) (n := 4) (by decide) (by decide)) hA5.1 (by have := len4; omega)).mono ?_
  rintro e w7_3 ⟨rfl, v3, hpx, hc7, hv7⟩
  have hX2 : addX lA 3 [payX 4, payX 3] (payX 4) = [payX 4, payX 3] := by unfold addX; rw [add4]; rfl
  rw [hX2] at hpx
  rw [add4]
  have hA7 := hA5.to hpx hc7 hv7 HGO.out
  have HA4 := Lib.hid hA7
  clear hb5 hA5 hpx hc7 hv7 hX2 HA3
  go_wp2_with fail
  refine hQ _ _ hA7.2.1 (EffS.nil_ (SegV.mk (fun w' => Blk w' (wN.heap.size + 1) 34 (ssA wN.heap.size).toArray) (fun _ h => h) hA7.2.1 ?_))
  refine HoistK.nil_ ?_
  simp only [opsAt, filterMap_cons, filterMap_nil, getElem?_toArray, getElem?_cons_succ, getElem?_cons_zero]
  refine EffS.cons_ fun _ hQ => ?_
  go_wp2_with fail
  refine hQ _ _ hA7.2.1 (EffS.nil_ fun _ hQ => ?_)
  clear hA7
  go_wp2_with (refine wpList_load_blk' rfl 34 _ rfl HA4.out.2.1 rfl Tryz.underlying34 rfl HI.out ?_)
  have HNX := poolNext_any w7_3 HA4.out.1 (HK.out.below HA4.out.2.2.2.1) (sta_A HA4.out.2.2.1) 8
  rw [show (min (8 : Int) 8).toNat = 8 from rfl, next_pay] at HNX
  refine HNX.mono ?_
  rintro e w8 ⟨vL, rfl, htx, hb8⟩
  clear HNX
  have HA8 := Lib.hid (HA4.out.below hb8)
  obtain ⟨b, cap, C0, rfl, hr0, hCl0, hrep0, hob⟩ := htx.2.at_ (k := 0) (by decide)
  obtain ⟨b', cap', C1, e, hr1, hCl1, hrep1, _⟩ := htx.2.at_ (k := 1) (by decide)
  injection e with e1 e2 e3
  injection e1 with e1
  injection e1 with e1 _ _
  subst e1; subst e3
  have hc0 : w8.cell? ⟨b, 4, none⟩ = some (.int .u64 3) := hr0 4 _ (tx_cells hrep0).2.2.1
  have hc1 : w8.cell? ⟨b, 45, none⟩ = some (.int .u64 4) := hr1 4 _ (tx_cells hrep1).2.2.1
  have HTX := Lib.hid htx
  obtain ⟨hcap2, hcap3⟩ : 2 ≤ cap ∧ cap ≤ maxLen := by
    obtain ⟨_, ho, _⟩ := htx.2
    exact ho.cap_le
  have hcapA : (1 : Int) ≤ (cap : Int) := by omega
  have HC3 := Lib.hid hcap3
  clear hcap3
  have HAL := Lib.hid (poolAll_any w8 HA8.out.1 (HK.out.below HA8.out.2.2.2.1))
  clear hr0 hCl0 hrep0 hr1 hCl1 hrep1 htx hb8 HA4 hob e2
  go_wp2_with fail
  refine HAL.out.mono ?_
  rintro e w9 ⟨vA, rfl, htA, hb9⟩
  obtain ⟨AA, cA, rfl⟩ := htA.2.form
  have HA9 := Lib.hid (HA8.out.below hb9)
  have HLR := Lib.hid (Sh.rep_below (list_take (k := 1) HTX.out.2.list (by decide)) hb9)
  clear htA hb9 HAL HTX HA8 hc0 hc1
  go_wp2_with fail
  have hAd := HA9.out.below ((Below.refl w9.heap.size w9).drew)
  refine wp_region_segsV [([0, 1, 2, 3], [4])] (by kernel_rfl) (by kernel_rfl) (by kernel_rfl) (by kernel_rfl)
    (SegV.mk (fun w' => Blk w' (wN.heap.size + 1) 34 (ssA wN.heap.size).toArray) (fun _ _ => trivial) hAd.2.1 ?_)
  (refine HoistK.yes (by rfl) (by kernel_rfl) ⟨?_, fun w' hSw => ?_, ?_⟩; rotate_left; (· go_simp; try with_reducible rfl); simp only [Act.put, setIfInBounds_toArray, getElem_toArray, getElem_cons_zero, set_cons_succ, set_cons_zero])
  (refine HoistK.load (by rfl) (by kernel_rfl) 34 _ rfl (wN.heap.size + 1) 0 rfl (ssA wN.heap.size) _ (fun w' hw => hw.range) Tryz.underlying34 rfl HI.out ?_; simp only [Act.put, setIfInBounds_toArray, getElem_toArray, getElem_cons_succ, getElem_cons_zero, set_cons_succ, set_cons_zero])
  iterate 2 (refine HoistK.yes (by rfl) (by kernel_rfl) ⟨?_, fun w' hSw => ?_, ?_⟩; rotate_left; (· go_simp; try with_reducible rfl); simp only [Act.put, setIfInBounds_toArray, getElem_toArray, getElem_cons_succ, getElem_cons_zero, set_cons_succ, set_cons_zero])
  refine HoistK.nil_ ?_
  simp only [opsAt, filterMap_cons, filterMap_nil, getElem?_toArray, getElem?_cons_succ, getElem?_cons_zero]
  refine EffS.cons_ fun _ hQ => ?_
  go_wp2_with fail
  have hlr : (Sh.list tTx).rep w9.drew (fun k => (Nw w7_3.heap.size w8 k ∧ (Value.slice (some ⟨b, 0, none⟩) 2 cap).ownBlock ≠ some k) ∨ (Value.slice (some ⟨b, 0, none⟩) 2 cap).ownBlock = some k) [payX 3] [.slice (some ⟨b, 0, none⟩) 1 cap] := Sh.rep_below HLR.out ((Below.refl w9.heap.size w9).drew)
  refine (poolDone_any (sent := sent) w9.drew (S := fun _ => True) (l := lA) (fun w' hc => ⟨sta_A (hAd.2.2.1.chg hc fun h => (hAd.2.2.2.2 _ h).2.1 rfl), HK.out.below (hAd.2.2.2.1.trans (hc.below hAd.2.2.2.1.size fun k hk => (hAd.2.2.2.2 k hk).2.2))⟩) hAd.1 hlr (fun x hx => by
    obtain rfl : x = payX 3 := by simpa using hx
    have := len3; omega)).mono ?_
  rintro e w10 ⟨v10, rfl, hob10, hp10, hc10⟩
  rw [done_pay] at hp10
  have hA10 := hAd.to hp10 hc10 (.inl hob10) HGO.out
  have HA10 := Lib.hid hA10
  clear hlr hp10 hc10 hob10 hAd HA9
  go_wp2_with fail
  refine hQ _ _ hA10.2.1 (EffS.nil_ fun _ hQ => ?_)
  clear hA10
  have HAL := Lib.hid (poolAll_any w10 HA10.out.1 (HK.out.below HA10.out.2.2.2.1))
  go_wp2_with fail
  refine HAL.out.mono ?_
  rintro e w11 ⟨vB, rfl, htB, hb11⟩
  obtain ⟨AB, cB, rfl⟩ := htB.2.form
  have HB11 := Lib.hid (HA10.out.below hb11).2.2.2.1
  clear htB hb11 HAL HA10
  go_wp2_with fail
  go_ret
  exact ⟨rfl, HB11.out⟩
end
section
open Go.RowKit Go.Maps
attribute [-simp] Tryz.isAgg37 Tryz.typeInfo37
set_option maxHeartbeats 4000000 in
set_option maxRecDepth 100000 in
theorem above_any (w : World) (a b : List UInt8) (ha : a.length = 32) (hb : b.length = 32) : Calls Tryz.prog 28 #[.agg (u8s a).toArray, .agg (u8s b).toArray] w fun e w' => (∃ r, e = .returned (.bool r)) ∧ Below w.heap.size w w' := by
  have hal := ((Below.refl w.heap.size w).alloc (Nat.le_refl _) (.cells (u8s a).toArray 37)).alloc (by simp) (.cells (u8s b).toArray 37)
  have h1 := (Cs.of_new w 37 (size := 1) 32 (cs := u8s a) (by rw [u8s_length, ha]) (by simp only [maxLen]; decide)).below ((Below.refl _ (w.alloc (.cells (u8s a).toArray 37))).alloc (Nat.le_refl _) (.cells (u8s b).toArray 37))
  have h2 := Cs.of_new (w.alloc (.cells (u8s a).toArray 37)) 37 (size := 1) 32 (cs := u8s b) (by rw [u8s_length, hb]) (by simp only [maxLen]; decide)
  rw [show (w.alloc (.cells (u8s a).toArray 37)).heap.size = w.heap.size + 1 by simp] at h2
  have hs1 : ∀ n, (convert 77 9 (.slice (some ⟨w.heap.size, 0, none⟩) 32 32)).run Tryz.prog (((w.alloc (.cells (u8s a).toArray 37)).alloc (.cells (u8s b).toArray 37)).drewN n) = .ok (.string (str a)) (((w.alloc (.cells (u8s a).toArray 37)).alloc (.cells (u8s b).toArray 37)).drewN n) := fun n =>
    run_str (S := fun b => b = w.heap.size) ⟨by rw [ha]; exact h1.drewN n, by omega⟩ Tryz.underlying77 Tryz.underlying5 Tryz.underlying9
  have hs2 : ∀ n, (convert 77 9 (.slice (some ⟨w.heap.size + 1, 0, none⟩) 32 32)).run Tryz.prog (((w.alloc (.cells (u8s a).toArray 37)).alloc (.cells (u8s b).toArray 37)).drewN n) = .ok (.string (str b)) (((w.alloc (.cells (u8s a).toArray 37)).alloc (.cells (u8s b).toArray 37)).drewN n) := fun n =>
    run_str (S := fun b => b = w.heap.size + 1) ⟨by rw [hb]; exact h2.drewN n, by omega⟩ Tryz.underlying77 Tryz.underlying5 Tryz.underlying9
  have HAL := Lib.hid hal
  have HS1 := Lib.hid hs1
  have HS2 := Lib.hid hs2
  clear h1 h2 hal hs1 hs2
  go_enter Tryz.func28, Tryz.ntmps28
  go_wp2_with fail
  have hs1 := HS1.out
  have hs2 := HS2.out
  go_quiet (fail)
  all_goals
    go_wp2_with fail
    go_ret
    exact ⟨⟨_, rfl⟩, below_drewN HAL.out nq⟩
end
end Go.Proofs.YtkclkmjlodomkaaGreatDoor
