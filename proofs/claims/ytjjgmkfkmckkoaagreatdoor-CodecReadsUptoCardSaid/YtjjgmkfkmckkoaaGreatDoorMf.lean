/- Texts joined: CfT CgA CfH CgB CgR CrL CtP CuG CfX CgO CrM CtH. -/
import Derived.Test.YtjjgmkfkmckkoaaGreatDoorMc
import Derived.Test.YtjjgmkfkmckkoaaGreatDoorMb
import Derived.Test.YtjjgmkfkmckkoaaGreatDoorMe
import Derived.Test.YtjjgmkfkmckkoaaGreatDoorMa
import Derived.Test.YtjjgmkfkmckkoaaGreatDoorMd
namespace Go.Proofs.YtjjgmkfkmckkoaaGreatDoor
open List (setIfInBounds_toArray getElem_toArray getElem_cons_succ getElem_cons_zero set_cons_succ set_cons_zero filterMap_cons filterMap_nil getElem?_toArray getElem?_cons_succ getElem?_cons_zero)
section
open Go.RowKit Go.Maps
attribute [-simp] Tryz.isAgg36 Tryz.typeInfo36 Tryz.isAgg54 Tryz.typeInfo54
theorem size_allCommit_any : (Tryz.prog.info? 54).map (·.size) = some 38 := by kernel_rfl
theorem sizes_allCommit_any : (Tryz.prog.info? 54).map (fun i => (i.zero.map (fun z => z.cells.size), i.size)) = some (some 38, 38) := by kernel_rfl
theorem info_allCommit_any : (Tryz.prog.info? 54).map (fun i => (i.zero, i.size, i.bytes)) = some (some (.agg (([.slice none 0 0] ++ ([.int .i64 0, .int .i64 0, .int .i64 0] ++ List.replicate 32 (.int .u8 0) ++ [.slice none 0 0, .slice none 0 0]) : List Value)).toArray), 38, 128) := by kernel_rfl
set_option maxHeartbeats 8000000 in
set_option maxRecDepth 100000 in
theorem allCommit_any (w : World) {X : Nat → Prop} {E g : Nat} {sent : Value} {x : List UInt8} {rows : List (List UInt8)} {bad : Bool} (h : Pt w X E g sent (x :: rows) bad) (hxl : x.length ≤ 262144) :
    Calls Tryz.prog 93 #[.pointer (some ⟨g, 0, none⟩), .func (Fn.func 57) #[] #[]] w (Took (.list tCommit) w X E g sent x rows bad) := by
  have hgx := h.2.2.1
  have hgw := h.lt
  have hEw := h.2.2.2.2.1
  have HGX := Lib.hid hgx
  have HX1 := Lib.hid (show ∀ b, X b → b < w.heap.size from h.2.2.2.1)
  have H := Lib.hid (next_any _ h)
  clear h hgx
  go_enter Tryz.func93, Tryz.ntmps93
  go_wp2_with fail
  refine H.out.mono ?_
  rintro e w1 ⟨v1, rfl, hb1, hc1, hp1⟩
  have HSP := Lib.hid (split_any w1 hb1 (by omega))
  have hz1 := hc1.size
  have HP1 := Lib.hid hp1
  have HC1 := Lib.hid hc1
  obtain ⟨A1, c1, rfl⟩ := hb1.form
  clear hb1 hp1 hc1 H
  go_wp2_with fail
  refine HSP.out.mono ?_
  rintro e w2 ⟨hb2, ⟨hno, rfl⟩ | ⟨v2, l, hsp, rfl, hbss⟩⟩
  · have HNO := Lib.hid hno; clear hno
    have hp2 := HP1.out.below hb2
    obtain ⟨⟨sa, rfl⟩, hgl⟩ := hp2.1
    have hgl : w2.cell? ⟨gF, 0, none⟩ = some _ := hgl
    unfold gF at hgl
    have hlx := hp2.2.2.2.1
    have hE2 := hp2.2.2.2.2.1
    have hal := (Below.refl w2.heap.size w2).alloc (Nat.le_refl _) (.cells #[.string ⟨#[97, 32, 108, 105, 115, 116]⟩, .iface 237 (.pointer (some sa))] 158)
    have HBAD := Lib.hid (bad_any _ (hp2.below hal) (Chain.fresh _ ⟨fun h => absurd (hlx _ h) (Nat.lt_irrefl _), hE2⟩))
    have HC2 := Lib.hid (HC1.out.trans (Chg.of_below hb2 fun k => k = g) fun b h => .inl h)
    clear hp2 hlx hal hE2 hb2 HP1 HC1 HSP
    go_wp2_with fail
    refine HBAD.out.mono ?_
    rintro e w3 ⟨rfl, hc3, hp3⟩
    have HP3 := Lib.hid hp3
    have HC3 := Lib.hid hc3
    clear hp3 hc3 HBAD
    go_wp2_with fail
    refine wp_loop_rounds 1 ?_
    rw [rounds_succ]
    go_wp2
    go_ret
    exact ⟨[.slice none 0 0], true, rfl, (HC2.out.alloc _).trans HC3.out fun b h => .inl h, HP3.out, SOut.noList HNO.out rfl⟩
  · have hrl : ∀ y ∈ l, y.length ≤ 262144 := fun y hy => Nat.le_trans (joinP_mem_le hsp y hy) hxl
    have hll : l.length ≤ 32768 := by
      have h1 := splitB_back hsp
      have h2 := joinP_count l
      rw [← h1, joinB_length] at hxl
      omega
    obtain ⟨A2, c2, rfl⟩ := hbss.form
    have HROWS := Lib.hid (((hbss.read fun y hy => by have := hrl y hy; omega).lt_ (T := fun b => w1.heap.size ≤ b) fun b h => h.elim id id).subs (T := fun b => b ≠ g) fun b hb _ => by have := hb.1; omega)
    have HP2 := Lib.hid (HP1.out.below hb2)
    have HC2 := Lib.hid (HC1.out.trans (Chg.of_below hb2 fun k => k = g) fun b h => .inl h)
    have HSPL := Lib.hid hsp
    have HRL := Lib.hid hrl
    have hwS : w.heap.size ≤ w2.heap.size := Nat.le_trans hz1 hb2.size
    clear hbss hsp hrl hb2 HP1 HC1 HSP hxl
    go_wp2_with fail
    go_loopw [7, 28] (fun o i wr => ∃ k : Nat, k ≤ l.length ∧ i = .int .i64 k ∧ AllI 54 38 tCommit w w2 X E g sent rows bad l o k wr) (fun _ i _ => l.length - (intOf i).toNat)
    case atStart => exact ⟨0, Nat.zero_le _, rfl, AllI.start HP2.out⟩
    case round =>
      obtain ⟨k, hk, rfl, hI⟩ := hrel
      by_cases hlt : k < l.length
      · obtain ⟨css, bk, hown, hob, hlo, hpt, hch⟩ := hI
        obtain ⟨ba, oa, ua, rfl, hca, hua, _, hSb⟩ := (HROWS.out.chg hch (fun b hb h => hb h)).at_ hlt
        have htk : l.take (k + 1) = l.take k ++ [l[k]] := List.take_succ_eq_append_getElem hlt
        have hyl := HRL.out l[k] (List.getElem_mem hlt)
        obtain ⟨y, hy⟩ : ∃ y, y = l[k] := ⟨_, rfl⟩
        rw [← hy] at hua htk hyl
        have HR := Lib.hid (readCommit_any wr hua hyl hpt.1)
        obtain ⟨Ay, cy, rfl⟩ := hua.form
        obtain ⟨Ao, co, rfl⟩ := hown.form
        have HOWN := Lib.hid hown
        have HOB := Lib.hid hob
        have HLO := Lib.hid hlo
        have HPT := Lib.hid hpt
        have HCH := Lib.hid hch
        have HTK := Lib.hid htk
        have H63 := Lib.hid (show k + 1 ≤ maxLen ∧ (k + 1) * 128 ≤ 140737488355328 from ⟨by simp only [maxLen]; omega, by omega⟩)
        have hzr := hch.size
        clear hown hob hlo hpt hch htk hy hua hyl
        go_wp2_with fail
        refine HR.out.mono ?_
        rintro e w3 hro
        obtain ⟨C, err, bd, rfl, h1, hl, hb3, he, ho⟩ := hro.agg (fun _ => rfl)
        have hl : C.length = 38 := hl
        have HL := Lib.hid hl
        have HI := Lib.hid (show (Tryz.prog.info? 54).map (·.size) = some C.length from by rw [hl]; exact size_allCommit_any)
        have HI2 := Lib.hid (show (Tryz.prog.info? 54).map (fun i => (i.zero.map (fun z => z.cells.size), i.size)) = some (some C.length, C.length) from by rw [hl]; exact sizes_allCommit_any)
        have H1 := Lib.hid h1
        clear h1 hl
        have HB3 := Lib.hid hb3
        have HP3 := Lib.hid (HPT.out.below hb3)
        have HO := Lib.hid (ho.or_ bk)
        clear hro hb3 ho HR
        rcases he with ⟨rfl, rfl⟩ | ⟨rfl, hcn⟩
        · skip
          go_wp2_with (first
            | (refine wpList_store_blk (cs0 := ([.slice none 0 0] ++ ([.int .i64 0, .int .i64 0, .int .i64 0] ++ List.replicate 32 (.int .u8 0) ++ [.slice none 0 0, .slice none 0 0]) : List Value)) (cs := C) rfl 54 _ _ rfl (Blk.new w3 _ _) rfl rfl (by rw [HL.out]; rfl) HI.out H1.out ?_; intro w4 hb4 hc4; have HB4 := Lib.hid hb4; have HC4 := Lib.hid (show Chg (fun _ => False) w3 w4 from ((Chg.refl _ w3).alloc _).trans hc4 fun b h => .inr (Nat.le_of_eq h.symm)); clear hb4 hc4; have HO2 := Lib.hid (show ∀ ob, Own (w4.alloc ob) 54 38 (.slice Ao k co) k css.flatten from fun ob => own_keep HOWN.out fun b hb => (by have h1 := own_lt HOWN.out hb; have h2 := HOB.out b hb; have h3 := HB3.out.size; exact (Below.heap_alloc w4 ob b (ltle (ltle h1 h3) HC4.out.size)).trans ((HC4.out.block b (ltle h1 h3) id).trans (HB3.out.block b h1)))); have HS2 := Lib.hid (Cs.of_new w4 54 (size := 38) 1 (cs := C) (by rw [HL.out]) (by simp only [maxLen]; decide)))
            | (refine wpList_load_blk' rfl 54 _ rfl HB4.out rfl Tryz.underlying54 rfl HI.out ?_)
            | (refine wpList_row1 rfl 78 54 _ rfl Tryz.underlying78 (.agg C.toArray) rfl C rfl HI2.out (by rw [HL.out]; decide) (by rw [HL.out]; decide) ?_)
            | (at_builtin; refine wpList_app _ rfl _ _ _ rfl Tryz.underlying78 info_allCommit_any rfl (by decide) (HO2.out _) rfl HS2.out rfl H1.out H63.out.1 H63.out.2 ?_; intro v6 w6 ho6 hc6 hnil6 hat6; clear hnil6; have HO6 := Lib.hid ho6; clear ho6; have HC6 := Lib.hid hc6; clear hc6; have HAT6 := Lib.hid hat6; clear hat6))
          refine ⟨⟨k + 1, by omega, by push_cast; rfl, AllI.step hgw hwS HOWN.out HOB.out HLO.out HCH.out HB3.out (by have := HO.out; rw [Bool.or_false] at this; exact this) (HC4.out.mono (M' := fun b => b = g) fun _ h => h.elim) (HP3.out.chg HC4.out fun b h => h.elim) HTK.out HO6.out HC6.out HAT6.out⟩, ?_⟩
          simp only [intOf]; omega
        · skip
          obtain ⟨gw, rfl⟩ := hcn.form
          have HCN := Lib.hid hcn; clear hcn
          go_wp2_with (refine wpList_store_blk (cs0 := ([.slice none 0 0] ++ ([.int .i64 0, .int .i64 0, .int .i64 0] ++ List.replicate 32 (.int .u8 0) ++ [.slice none 0 0, .slice none 0 0]) : List Value)) (cs := C) rfl 54 _ _ rfl (Blk.new w3 _ _) rfl rfl (by rw [HL.out]; rfl) HI.out H1.out ?_; intro w4 hb4 hc4; have HB4 := Lib.hid hb4; have HC4 := Lib.hid (show Chg (fun _ => False) w3 w4 from ((Chg.refl _ w3).alloc _).trans hc4 fun b h => .inr (Nat.le_of_eq h.symm)); clear hb4 hc4)
          have hp4 := (HP3.out.chg HC4.out fun b h => h.elim)
          have hlx := hp4.2.2.2.1
          have hE4 := hp4.2.2.2.2.1
          have hz4 := HC4.out.size
          have hz3 := HB3.out.size
          have hal := (Below.refl w4.heap.size w4).alloc (Nat.le_refl _) (.cells #[.string ⟨#[105, 110, 32, 97, 32, 108, 105, 115, 116]⟩, .iface 154 (.pointer (some ⟨gw, 0, none⟩))] 158)
          have hcn4 := (HCN.out.to (w' := w4) (S' := fun b => ¬ (X b ∨ (Value.slice Ao k co).ownBlock = some b) ∧ E ≤ b) (fun b hb hlt => ⟨ltle hlt HC4.out.size, HC4.out.block b hlt id⟩) fun b hb hlt => ⟨fun h => h.elim (fun h => by have := HX1.out b h; omega) fun h => by have := own_lt HOWN.out h; omega, by omega⟩)
          have HBAD := Lib.hid (bad_any _ (hp4.below hal) (hcn4.freshMore _ ⟨fun h => absurd (hlx _ h) (Nat.lt_irrefl _), hE4⟩))
          clear hp4 hlx hal hcn4 hE4
          refine HBAD.out.mono ?_
          rintro e w5 ⟨rfl, hc5, hp5⟩
          have HP5 := Lib.hid hp5
          have HC35 := Lib.hid (show Chg (fun b => b = g) w3 w5 from ((HC4.out.mono (M' := fun b => b = g) fun _ h => h.elim).alloc _).trans hc5 fun b h => .inl h)
          have HB5 := Lib.hid ((HB4.out.alloc _).chg hc5 (fun h => by omega))
          clear hc5 hp5 HBAD
          have HO2 := Lib.hid (show ∀ ob, Own (w5.alloc ob) 54 38 (.slice Ao k co) k css.flatten from fun ob => own_keep HOWN.out fun b hb => (by have h1 := own_lt HOWN.out hb; have h2 := HOB.out b hb; have h3 := HB3.out.size; exact (Below.heap_alloc w5 ob b (ltle (ltle h1 h3) HC35.out.size)).trans ((HC35.out.block b (ltle h1 h3) (fun e => by omega)).trans (HB3.out.block b h1))))
          have HS2 := Lib.hid (Cs.of_new w5 54 (size := 38) 1 (cs := C) (by rw [HL.out]) (by simp only [maxLen]; decide))
          go_wp2_with (first
            | (refine wpList_load_blk' rfl 54 _ rfl HB5.out rfl Tryz.underlying54 rfl HI.out ?_)
            | (refine wpList_row1 rfl 78 54 _ rfl Tryz.underlying78 (.agg C.toArray) rfl C rfl HI2.out (by rw [HL.out]; decide) (by rw [HL.out]; decide) ?_)
            | (at_builtin; refine wpList_app _ rfl _ _ _ rfl Tryz.underlying78 info_allCommit_any rfl (by decide) (HO2.out _) rfl HS2.out rfl H1.out H63.out.1 H63.out.2 ?_; intro v6 w6 ho6 hc6 hnil6 hat6; clear hnil6; have HO6 := Lib.hid ho6; clear ho6; have HC6 := Lib.hid hc6; clear hc6; have HAT6 := Lib.hid hat6; clear hat6))
          refine ⟨⟨k + 1, by omega, by push_cast; rfl, AllI.step hgw hwS HOWN.out HOB.out HLO.out HCH.out HB3.out (by have := HO.out; rw [Bool.or_true] at this; exact this) HC35.out HP5.out HTK.out HO6.out HC6.out HAT6.out⟩, ?_⟩
          simp only [intOf]; omega
      · have hk' : k = l.length := by omega
        subst hk'
        have HI := Lib.hid hI
        clear hI
        go_wp2_with fail
        go_ret
        exact HI.out.out rfl HSPL.out (fun _ => rfl) HGX.out HC2.out
end
section
open Go.RowKit Go.Maps
attribute [-simp] Tryz.isAgg36 Tryz.typeInfo36 Tryz.isAgg72 Tryz.typeInfo72
theorem size_allTx_any : (Tryz.prog.info? 72).map (·.size) = some 41 := by kernel_rfl
theorem sizes_allTx_any : (Tryz.prog.info? 72).map (fun i => (i.zero.map (fun z => z.cells.size), i.size)) = some (some 41, 41) := by kernel_rfl
theorem info_allTx_any : (Tryz.prog.info? 72).map (fun i => (i.zero, i.size, i.bytes)) = some (some (.agg (([.int .i64 0, .int .u64 0, .int .u64 0, .int .u64 0, .int .u64 0, .int .i64 0, .int .i64 0] ++ List.replicate 32 (.int .u8 0) ++ [.int .i64 0, .slice none 0 0] : List Value)).toArray), 41, 120) := by kernel_rfl
set_option maxHeartbeats 8000000 in
set_option maxRecDepth 100000 in
theorem allTx_any (w : World) {X : Nat → Prop} {E g : Nat} {sent : Value} {x : List UInt8} {rows : List (List UInt8)} {bad : Bool} (h : Pt w X E g sent (x :: rows) bad) (hxl : x.length ≤ 262144) :
    Calls Tryz.prog 94 #[.pointer (some ⟨g, 0, none⟩), .func (Fn.func 61) #[] #[]] w (Took (.list tTx) w X E g sent x rows bad) := by
  have hgx := h.2.2.1
  have hgw := h.lt
  have hEw := h.2.2.2.2.1
  have HGX := Lib.hid hgx
  have HX1 := Lib.hid (show ∀ b, X b → b < w.heap.size from h.2.2.2.1)
  have H := Lib.hid (next_any _ h)
  clear h hgx
  go_enter Tryz.func94, Tryz.ntmps94
  go_wp2_with fail
  refine H.out.mono ?_
  rintro e w1 ⟨v1, rfl, hb1, hc1, hp1⟩
  have HSP := Lib.hid (split_any w1 hb1 (by omega))
  have hz1 := hc1.size
  have HP1 := Lib.hid hp1
  have HC1 := Lib.hid hc1
  obtain ⟨A1, c1, rfl⟩ := hb1.form
  clear hb1 hp1 hc1 H
  go_wp2_with fail
  refine HSP.out.mono ?_
  rintro e w2 ⟨hb2, ⟨hno, rfl⟩ | ⟨v2, l, hsp, rfl, hbss⟩⟩
  · have HNO := Lib.hid hno; clear hno
    have hp2 := HP1.out.below hb2
    obtain ⟨⟨sa, rfl⟩, hgl⟩ := hp2.1
    have hgl : w2.cell? ⟨gF, 0, none⟩ = some _ := hgl
    unfold gF at hgl
    have hlx := hp2.2.2.2.1
    have hE2 := hp2.2.2.2.2.1
    have hal := (Below.refl w2.heap.size w2).alloc (Nat.le_refl _) (.cells #[.string ⟨#[97, 32, 108, 105, 115, 116]⟩, .iface 237 (.pointer (some sa))] 158)
    have HBAD := Lib.hid (bad_any _ (hp2.below hal) (Chain.fresh _ ⟨fun h => absurd (hlx _ h) (Nat.lt_irrefl _), hE2⟩))
    have HC2 := Lib.hid (HC1.out.trans (Chg.of_below hb2 fun k => k = g) fun b h => .inl h)
    clear hp2 hlx hal hE2 hb2 HP1 HC1 HSP
    go_wp2_with fail
    refine HBAD.out.mono ?_
    rintro e w3 ⟨rfl, hc3, hp3⟩
    have HP3 := Lib.hid hp3
    have HC3 := Lib.hid hc3
    clear hp3 hc3 HBAD
    go_wp2_with fail
    refine wp_loop_rounds 1 ?_
    rw [rounds_succ]
    go_wp2
    go_ret
    exact ⟨[.slice none 0 0], true, rfl, (HC2.out.alloc _).trans HC3.out fun b h => .inl h, HP3.out, SOut.noList HNO.out rfl⟩
  · have hrl : ∀ y ∈ l, y.length ≤ 262144 := fun y hy => Nat.le_trans (joinP_mem_le hsp y hy) hxl
    have hll : l.length ≤ 32768 := by
      have h1 := splitB_back hsp
      have h2 := joinP_count l
      rw [← h1, joinB_length] at hxl
      omega
    obtain ⟨A2, c2, rfl⟩ := hbss.form
    have HROWS := Lib.hid (((hbss.read fun y hy => by have := hrl y hy; omega).lt_ (T := fun b => w1.heap.size ≤ b) fun b h => h.elim id id).subs (T := fun b => b ≠ g) fun b hb _ => by have := hb.1; omega)
    have HP2 := Lib.hid (HP1.out.below hb2)
    have HC2 := Lib.hid (HC1.out.trans (Chg.of_below hb2 fun k => k = g) fun b h => .inl h)
    have HSPL := Lib.hid hsp
    have HRL := Lib.hid hrl
    have hwS : w.heap.size ≤ w2.heap.size := Nat.le_trans hz1 hb2.size
    clear hbss hsp hrl hb2 HP1 HC1 HSP hxl
    go_wp2_with fail
    go_loopw [7, 28] (fun o i wr => ∃ k : Nat, k ≤ l.length ∧ i = .int .i64 k ∧ AllI 72 41 tTx w w2 X E g sent rows bad l o k wr) (fun _ i _ => l.length - (intOf i).toNat)
    case atStart => exact ⟨0, Nat.zero_le _, rfl, AllI.start HP2.out⟩
    case round =>
      obtain ⟨k, hk, rfl, hI⟩ := hrel
      by_cases hlt : k < l.length
      · obtain ⟨css, bk, hown, hob, hlo, hpt, hch⟩ := hI
        obtain ⟨ba, oa, ua, rfl, hca, hua, _, hSb⟩ := (HROWS.out.chg hch (fun b hb h => hb h)).at_ hlt
        have htk : l.take (k + 1) = l.take k ++ [l[k]] := List.take_succ_eq_append_getElem hlt
        have hyl := HRL.out l[k] (List.getElem_mem hlt)
        obtain ⟨y, hy⟩ : ∃ y, y = l[k] := ⟨_, rfl⟩
        rw [← hy] at hua htk hyl
        have HR := Lib.hid (readTx_any wr hua hyl hpt.1)
        obtain ⟨Ay, cy, rfl⟩ := hua.form
        obtain ⟨Ao, co, rfl⟩ := hown.form
        have HOWN := Lib.hid hown
        have HOB := Lib.hid hob
        have HLO := Lib.hid hlo
        have HPT := Lib.hid hpt
        have HCH := Lib.hid hch
        have HTK := Lib.hid htk
        have H63 := Lib.hid (show k + 1 ≤ maxLen ∧ (k + 1) * 120 ≤ 140737488355328 from ⟨by simp only [maxLen]; omega, by omega⟩)
        have hzr := hch.size
        clear hown hob hlo hpt hch htk hy hua hyl
        go_wp2_with fail
        refine HR.out.mono ?_
        rintro e w3 hro
        obtain ⟨C, err, bd, rfl, h1, hl, hb3, he, ho⟩ := hro.agg (fun _ => rfl)
        have hl : C.length = 41 := hl
        have HL := Lib.hid hl
        have HI := Lib.hid (show (Tryz.prog.info? 72).map (·.size) = some C.length from by rw [hl]; exact size_allTx_any)
        have HI2 := Lib.hid (show (Tryz.prog.info? 72).map (fun i => (i.zero.map (fun z => z.cells.size), i.size)) = some (some C.length, C.length) from by rw [hl]; exact sizes_allTx_any)
        have H1 := Lib.hid h1
        clear h1 hl
        have HB3 := Lib.hid hb3
        have HP3 := Lib.hid (HPT.out.below hb3)
        have HO := Lib.hid (ho.or_ bk)
        clear hro hb3 ho HR
        rcases he with ⟨rfl, rfl⟩ | ⟨rfl, hcn⟩
        · skip
          go_wp2_with (first
            | (refine wpList_store_blk (cs0 := ([.int .i64 0, .int .u64 0, .int .u64 0, .int .u64 0, .int .u64 0, .int .i64 0, .int .i64 0] ++ List.replicate 32 (.int .u8 0) ++ [.int .i64 0, .slice none 0 0] : List Value)) (cs := C) rfl 72 _ _ rfl (Blk.new w3 _ _) rfl rfl (by rw [HL.out]; rfl) HI.out H1.out ?_; intro w4 hb4 hc4; have HB4 := Lib.hid hb4; have HC4 := Lib.hid (show Chg (fun _ => False) w3 w4 from ((Chg.refl _ w3).alloc _).trans hc4 fun b h => .inr (Nat.le_of_eq h.symm)); clear hb4 hc4; have HO2 := Lib.hid (show ∀ ob, Own (w4.alloc ob) 72 41 (.slice Ao k co) k css.flatten from fun ob => own_keep HOWN.out fun b hb => (by have h1 := own_lt HOWN.out hb; have h2 := HOB.out b hb; have h3 := HB3.out.size; exact (Below.heap_alloc w4 ob b (ltle (ltle h1 h3) HC4.out.size)).trans ((HC4.out.block b (ltle h1 h3) id).trans (HB3.out.block b h1)))); have HS2 := Lib.hid (Cs.of_new w4 72 (size := 41) 1 (cs := C) (by rw [HL.out]) (by simp only [maxLen]; decide)))
            | (refine wpList_load_blk' rfl 72 _ rfl HB4.out rfl Tryz.underlying72 rfl HI.out ?_)
            | (refine wpList_row1 rfl 79 72 _ rfl Tryz.underlying79 (.agg C.toArray) rfl C rfl HI2.out (by rw [HL.out]; decide) (by rw [HL.out]; decide) ?_)
            | (at_builtin; refine wpList_app _ rfl _ _ _ rfl Tryz.underlying79 info_allTx_any rfl (by decide) (HO2.out _) rfl HS2.out rfl H1.out H63.out.1 H63.out.2 ?_; intro v6 w6 ho6 hc6 hnil6 hat6; clear hnil6; have HO6 := Lib.hid ho6; clear ho6; have HC6 := Lib.hid hc6; clear hc6; have HAT6 := Lib.hid hat6; clear hat6))
          refine ⟨⟨k + 1, by omega, by push_cast; rfl, AllI.step hgw hwS HOWN.out HOB.out HLO.out HCH.out HB3.out (by have := HO.out; rw [Bool.or_false] at this; exact this) (HC4.out.mono (M' := fun b => b = g) fun _ h => h.elim) (HP3.out.chg HC4.out fun b h => h.elim) HTK.out HO6.out HC6.out HAT6.out⟩, ?_⟩
          simp only [intOf]; omega
        · skip
          obtain ⟨gw, rfl⟩ := hcn.form
          have HCN := Lib.hid hcn; clear hcn
          go_wp2_with (refine wpList_store_blk (cs0 := ([.int .i64 0, .int .u64 0, .int .u64 0, .int .u64 0, .int .u64 0, .int .i64 0, .int .i64 0] ++ List.replicate 32 (.int .u8 0) ++ [.int .i64 0, .slice none 0 0] : List Value)) (cs := C) rfl 72 _ _ rfl (Blk.new w3 _ _) rfl rfl (by rw [HL.out]; rfl) HI.out H1.out ?_; intro w4 hb4 hc4; have HB4 := Lib.hid hb4; have HC4 := Lib.hid (show Chg (fun _ => False) w3 w4 from ((Chg.refl _ w3).alloc _).trans hc4 fun b h => .inr (Nat.le_of_eq h.symm)); clear hb4 hc4)
          have hp4 := (HP3.out.chg HC4.out fun b h => h.elim)
          have hlx := hp4.2.2.2.1
          have hE4 := hp4.2.2.2.2.1
          have hz4 := HC4.out.size
          have hz3 := HB3.out.size
          have hal := (Below.refl w4.heap.size w4).alloc (Nat.le_refl _) (.cells #[.string ⟨#[105, 110, 32, 97, 32, 108, 105, 115, 116]⟩, .iface 154 (.pointer (some ⟨gw, 0, none⟩))] 158)
          have hcn4 := (HCN.out.to (w' := w4) (S' := fun b => ¬ (X b ∨ (Value.slice Ao k co).ownBlock = some b) ∧ E ≤ b) (fun b hb hlt => ⟨ltle hlt HC4.out.size, HC4.out.block b hlt id⟩) fun b hb hlt => ⟨fun h => h.elim (fun h => by have := HX1.out b h; omega) fun h => by have := own_lt HOWN.out h; omega, by omega⟩)
          have HBAD := Lib.hid (bad_any _ (hp4.below hal) (hcn4.freshMore _ ⟨fun h => absurd (hlx _ h) (Nat.lt_irrefl _), hE4⟩))
          clear hp4 hlx hal hcn4 hE4
          refine HBAD.out.mono ?_
          rintro e w5 ⟨rfl, hc5, hp5⟩
          have HP5 := Lib.hid hp5
          have HC35 := Lib.hid (show Chg (fun b => b = g) w3 w5 from ((HC4.out.mono (M' := fun b => b = g) fun _ h => h.elim).alloc _).trans hc5 fun b h => .inl h)
          have HB5 := Lib.hid ((HB4.out.alloc _).chg hc5 (fun h => by omega))
          clear hc5 hp5 HBAD
          have HO2 := Lib.hid (show ∀ ob, Own (w5.alloc ob) 72 41 (.slice Ao k co) k css.flatten from fun ob => own_keep HOWN.out fun b hb => (by have h1 := own_lt HOWN.out hb; have h2 := HOB.out b hb; have h3 := HB3.out.size; exact (Below.heap_alloc w5 ob b (ltle (ltle h1 h3) HC35.out.size)).trans ((HC35.out.block b (ltle h1 h3) (fun e => by omega)).trans (HB3.out.block b h1))))
          have HS2 := Lib.hid (Cs.of_new w5 72 (size := 41) 1 (cs := C) (by rw [HL.out]) (by simp only [maxLen]; decide))
          go_wp2_with (first
            | (refine wpList_load_blk' rfl 72 _ rfl HB5.out rfl Tryz.underlying72 rfl HI.out ?_)
            | (refine wpList_row1 rfl 79 72 _ rfl Tryz.underlying79 (.agg C.toArray) rfl C rfl HI2.out (by rw [HL.out]; decide) (by rw [HL.out]; decide) ?_)
            | (at_builtin; refine wpList_app _ rfl _ _ _ rfl Tryz.underlying79 info_allTx_any rfl (by decide) (HO2.out _) rfl HS2.out rfl H1.out H63.out.1 H63.out.2 ?_; intro v6 w6 ho6 hc6 hnil6 hat6; clear hnil6; have HO6 := Lib.hid ho6; clear ho6; have HC6 := Lib.hid hc6; clear hc6; have HAT6 := Lib.hid hat6; clear hat6))
          refine ⟨⟨k + 1, by omega, by push_cast; rfl, AllI.step hgw hwS HOWN.out HOB.out HLO.out HCH.out HB3.out (by have := HO.out; rw [Bool.or_true] at this; exact this) HC35.out HP5.out HTK.out HO6.out HC6.out HAT6.out⟩, ?_⟩
          simp only [intOf]; omega
      · have hk' : k = l.length := by omega
        subst hk'
        have HI := Lib.hid hI
        clear hI
        go_wp2_with fail
        go_ret
        exact HI.out.out rfl HSPL.out (fun _ => rfl) HGX.out HC2.out
end
section
open Go.RowKit Go.Maps
attribute [-simp] Tryz.isAgg36 Tryz.typeInfo36 Tryz.isAgg81 Tryz.typeInfo81
theorem size_oneSig_any : (Tryz.prog.info? 81).map (·.size) = some 33 := by kernel_rfl
set_option maxHeartbeats 4000000 in
set_option maxRecDepth 100000 in
theorem oneSig_any (w : World) {X : Nat → Prop} {E g : Nat} {sent : Value} {x : List UInt8} {rows : List (List UInt8)} {bad : Bool} (h : Pt w X E g sent (x :: rows) bad) (hxl : x.length ≤ 262144) :
    Calls Tryz.prog 95 #[.pointer (some ⟨g, 0, none⟩), .func (Fn.func 84) #[] #[]] w (Took tSig w X E g sent x rows bad) := by
  have hgx := h.2.2.1
  have hgw := h.lt
  have hEw := h.2.2.2.2.1
  have hp0 := h.more ((Below.refl w.heap.size w).alloc (Nat.le_refl _) (.cells (([.int .i64 0] ++ List.replicate 32 (.int .u8 0) : List Value)).toArray 81)) (fun b => b = w.heap.size) (fun b hb => ⟨Nat.le_of_eq hb.symm, by rw [hb]; simp⟩)
  have H := Lib.hid (next_any _ hp0)
  have HN := Lib.hid (Blk.new w 81 (([.int .i64 0] ++ List.replicate 32 (.int .u8 0) : List Value)).toArray)
  have HGX := Lib.hid hgx
  have HX1 := Lib.hid (show ∀ b, X b → b < w.heap.size from h.2.2.2.1)
  clear h hp0 hgx
  go_enter Tryz.func95, Tryz.ntmps95
  go_wp2_with fail
  refine H.out.mono ?_
  rintro e w1 ⟨v1, rfl, hb1, hc1, hp1⟩
  have HK := Lib.hid (HN.out.chg hc1 (fun h => by omega))
  have hz1 : w.heap.size + 1 ≤ w1.heap.size := by simpa using hc1.size
  have HR := Lib.hid (readSig_any w1 hb1 hxl hp1.1)
  have HC1 := Lib.hid (show Chg (fun k => k = g) w w1 from ((Chg.refl (fun k => k = g) w).alloc _).trans hc1 fun b h => .inl h)
  have HP1 := Lib.hid hp1
  obtain ⟨A1, c1, rfl⟩ := hb1.form
  clear hb1 hp1 hc1 H HN hxl
  go_wp2_with fail
  refine HR.out.mono ?_
  rintro e w2 hro
  obtain ⟨C, err, bd, rfl, h1, hl, hb2, he, ho⟩ := hro.agg (fun _ => rfl)
  have hl : C.length = 33 := hl
  have hz2 := Nat.le_trans hz1 hb2.size
  have HI := Lib.hid (show (Tryz.prog.info? 81).map (·.size) = some C.length from by rw [hl]; exact size_oneSig_any)
  have H1 := Lib.hid h1
  have HL := Lib.hid hl
  have HP2 := Lib.hid (HP1.out.below hb2)
  have HK2 := Lib.hid (HK.out.below hb2 HK.out.lt)
  have HC2 := Lib.hid (HC1.out.trans (Chg.of_below hb2 fun k => k = g) fun b h => .inl h)
  have HO := Lib.hid (ho.or_ bad)
  clear hro h1 hl hb2 ho HR HP1 HK HC1
  rcases he with ⟨rfl, rfl⟩ | ⟨rfl, hch⟩
  · go_wp2_with (first
      | (refine wpList_store_blk (cs0 := ([.int .i64 0] ++ List.replicate 32 (.int .u8 0) : List Value)) (cs := C) rfl 81 _ _ rfl (Blk.new w2 _ _) rfl rfl (by rw [HL.out]; rfl) HI.out H1.out ?_; intro w3 hb3 hc3; have HB3 := Lib.hid hb3
         have HC3 := Lib.hid (show Chg (fun _ => False) w2 w3 from ((Chg.refl _ w2).alloc _).trans hc3 fun b h => .inr (Nat.le_of_eq h.symm)); clear hb3 hc3
         have HK3 := Lib.hid (HK2.out.chg HC3.out id))
      | (refine wpList_load_blk' rfl 81 _ rfl HB3.out rfl Tryz.underlying81 rfl HI.out ?_)
      | (refine wpList_store_blk (cs0 := ([.int .i64 0] ++ List.replicate 32 (.int .u8 0) : List Value)) (cs := C) rfl 81 _ _ rfl HK3.out rfl rfl (by rw [HL.out]; rfl) HI.out H1.out ?_; intro w9 hb9 hc9; have HB9 := Lib.hid hb9; have HC9 := Lib.hid hc9; clear hb9 hc9))
    have hld := run_loadVar_mid (P := Tryz.prog) w9 w.heap.size 0 81 C _ HB9.out.range Tryz.underlying81 rfl HI.out
    refine bodyPost_ret (v := .agg C.toArray) (by simp [results, Tryz.results95, asAddr, hld, Act.put]) rfl ?_
    have hp9 := (HP2.out.chg HC3.out fun b h => h.elim).chg HC9.out fun b h => ⟨.inr h, fun e => by omega⟩
    have ho9 := HO.out.nw (w' := w9) (k' := w.heap.size) (fun b hb hlt => ⟨ltle hlt (Nat.le_trans HC3.out.size HC9.out.size), (HC9.out.block b (ltle hlt HC3.out.size) (fun e => by omega)).trans (HC3.out.block b hlt id)⟩) (by omega)
    rw [Bool.or_false] at ho9
    exact ⟨C, bad, rfl, (HC2.out.trans (HC3.out.mono (M' := fun k => k = g) fun _ h => h.elim) fun b h => .inl h).trans HC9.out fun b h => .inr (Nat.le_of_eq h.symm), hp9.less (fun b h => .inl h) HGX.out, ho9⟩
  · obtain ⟨gw, rfl⟩ := hch.form
    have HCH := Lib.hid hch; clear hch
    go_wp2_with (first
      | (refine wpList_store_blk (cs0 := ([.int .i64 0] ++ List.replicate 32 (.int .u8 0) : List Value)) (cs := C) rfl 81 _ _ rfl (Blk.new w2 _ _) rfl rfl (by rw [HL.out]; rfl) HI.out H1.out ?_; intro w3 hb3 hc3; have HB3 := Lib.hid hb3
         have HC3 := Lib.hid (show Chg (fun _ => False) w2 w3 from ((Chg.refl _ w2).alloc _).trans hc3 fun b h => .inr (Nat.le_of_eq h.symm)); clear hb3 hc3
         have HK3 := Lib.hid (HK2.out.chg HC3.out id)))
    have hp3 := (HP2.out.chg HC3.out fun b h => h.elim)
    have hlx := hp3.2.2.2.1
    have hz3 := Nat.le_trans hz2 HC3.out.size
    have hal := (Below.refl w3.heap.size w3).alloc (Nat.le_refl _) (.cells #[.string ⟨#[119, 105, 116, 104, 105, 110]⟩, .iface 154 (.pointer (some ⟨gw, 0, none⟩))] 158)
    have hch3 := (HCH.out.to (w' := w3) (S' := fun b => ¬ (X b ∨ b = w.heap.size) ∧ E ≤ b) (fun b hb hlt => ⟨ltle hlt HC3.out.size, HC3.out.block b hlt id⟩) fun b hb hlt => ⟨fun h => h.elim (fun h => by have := HP2.out.2.2.2.1 b (.inl h); have := HX1.out b h; omega) fun h => by omega, by omega⟩)
    have HBAD := Lib.hid (bad_any _ (hp3.below hal) (hch3.freshMore _ ⟨fun h => absurd (hlx _ h) (Nat.lt_irrefl _), by omega⟩))
    clear hp3 hlx hal hch3
    refine HBAD.out.mono ?_
    rintro e w4 ⟨rfl, hc4, hp4⟩
    have HC4 := Lib.hid hc4
    have HP4 := Lib.hid hp4
    have hgg : ¬ w.heap.size = g := by omega
    have HK4 := Lib.hid ((HK3.out.alloc _).chg hc4 (fun h => hgg h))
    have HB4 := Lib.hid ((HB3.out.alloc _).chg hc4 (fun h => by omega))
    clear hc4 hp4 HBAD
    go_wp2_with (first
      | (refine wpList_load_blk' rfl 81 _ rfl HB4.out rfl Tryz.underlying81 rfl HI.out ?_)
      | (refine wpList_store_blk (cs0 := ([.int .i64 0] ++ List.replicate 32 (.int .u8 0) : List Value)) (cs := C) rfl 81 _ _ rfl HK4.out rfl rfl (by rw [HL.out]; rfl) HI.out H1.out ?_; intro w9 hb9 hc9; have HB9 := Lib.hid hb9; have HC9 := Lib.hid hc9; clear hb9 hc9))
    have hld := run_loadVar_mid (P := Tryz.prog) w9 w.heap.size 0 81 C _ HB9.out.range Tryz.underlying81 rfl HI.out
    refine bodyPost_ret (v := .agg C.toArray) (by simp [results, Tryz.results95, asAddr, hld, Act.put]) rfl ?_
    have hc34 : Chg (fun k => k = g) w2 w4 := ((HC3.out.mono (M' := fun k => k = g) fun _ h => h.elim).alloc _).trans HC4.out fun b h => .inl h
    have hp9 := HP4.out.chg HC9.out fun b h => ⟨.inr h, fun e => by omega⟩
    have ho9 := HO.out.nw (w' := w9) (k' := w.heap.size) (fun b hb hlt => ⟨ltle hlt (Nat.le_trans hc34.size HC9.out.size), (HC9.out.block b (ltle hlt hc34.size) (fun e => by omega)).trans (hc34.block b hlt (fun e => by omega))⟩) (by omega)
    rw [Bool.or_true] at ho9
    exact ⟨C, true, rfl, (HC2.out.trans hc34 fun b h => .inl h).trans HC9.out fun b h => .inr (Nat.le_of_eq h.symm), hp9.less (fun b h => .inl h) HGX.out, ho9⟩
end
section
open Go.RowKit Go.Maps
attribute [-simp] Tryz.isAgg36 Tryz.typeInfo36 Tryz.isAgg83 Tryz.typeInfo83
theorem info_readBlock : (Tryz.prog.info? 83).map (fun i => (i.zero.map (fun z => z.cells.size))) = some (some 173) := by kernel_rfl
theorem size_readBlock : (Tryz.prog.info? 83).map (·.size) = some 173 := by kernel_rfl
theorem places_readBlock : ((match Tryz.prog.underlying 83 with | some (.struct fields) => fields.toList.mapM (fun f => (Tryz.prog.info? f.type).map fun i => (f.offset, i.size)) | _ => none)) = some [(0, 101), (101, 37), (138, 1), (139, 1), (140, 33)] := by kernel_rfl
set_option maxHeartbeats 4000000 in
set_option maxRecDepth 100000 in
theorem readBlock_any (w : World) {S : Nat → Prop} {v sent : Value} {bs : List UInt8} (h : Bs w S v bs) (hlen : bs.length ≤ 262144) (hg : Gl w sent) :
    Calls Tryz.prog 63 #[v] w (ReadOut (.tup (.cons tHeader (.cons tQC (.cons (.list tCommit) (.cons (.list tTx) (.cons tSig .nil)))))) w sent bs) := by
  have hal := (Below.refl w.heap.size w).alloc (Nat.le_refl _) (.cells ((([.int .i64 0, .int .i64 0, .int .i64 0, .int .i64 0] ++ List.replicate 96 (.int .u8 0) ++ [.int .i64 0]) ++ ([.int .i64 0, .int .i64 0, .int .i64 0] ++ List.replicate 32 (.int .u8 0) ++ [.slice none 0 0, .slice none 0 0]) ++ [.slice none 0 0, .slice none 0 0] ++ ([.int .i64 0] ++ List.replicate 32 (.int .u8 0)) : List Value)).toArray 83)
  have HS := Lib.hid (psplit_any _ (h.below hal) (by omega) (hg.below hal) 5 (by omega) ⟨#[97, 32, 98, 108, 111, 99, 107]⟩)
  have HN := Lib.hid (Blk.new w 83 ((([.int .i64 0, .int .i64 0, .int .i64 0, .int .i64 0] ++ List.replicate 96 (.int .u8 0) ++ [.int .i64 0]) ++ ([.int .i64 0, .int .i64 0, .int .i64 0] ++ List.replicate 32 (.int .u8 0) ++ [.slice none 0 0, .slice none 0 0]) ++ [.slice none 0 0, .slice none 0 0] ++ ([.int .i64 0] ++ List.replicate 32 (.int .u8 0)) : List Value)).toArray)
  have HAL := Lib.hid hal
  obtain ⟨A, cap, rfl⟩ := h.form
  clear h hg hal
  go_enter Tryz.func63, Tryz.ntmps63
  go_wp2_with fail
  refine HS.out.mono ?_
  rintro e w1 ⟨g, rows, bad, rfl, hgw, hb1, hp, hn, hrl, hs⟩
  obtain ⟨r0, r1, r2, r3, r4, rfl⟩ : ∃ r0 r1 r2 r3 r4, rows = [r0, r1, r2, r3, r4] := by
    match rows, hn with
    | [r0, r1, r2, r3, r4], _ => exact ⟨r0, r1, r2, r3, r4, rfl⟩
  have HK := Lib.hid (HN.out.below hb1 (by simp))
  have hgw' : w.heap.size + 1 ≤ g := by simpa using hgw
  have hz1 : w.heap.size + 1 ≤ w1.heap.size := by simpa using hb1.size
  have HB1 := Lib.hid (HAL.out.trans (hb1.mono (by simp)))
  have HSS := Lib.hid hs
  have HRL := Lib.hid (show ∀ x ∈ [r0, r1, r2, r3, r4], x.length ≤ 262144 from fun x hx => Nat.le_trans (hrl x hx) hlen)
  have hE : Pt w1 (fun b => b = g) (w.heap.size + 1) g sent [r0, r1, r2, r3, r4] bad := by simpa using hp
  clear HS HN HAL hgw hb1 hs hn hp hrl hlen
  have hp0 := hE
  clear hE
  go_wp2_with fail
  refine (oneHeader_any _ hp0 (HRL.out _ (by simp))).mono ?_
  rintro e w2 ht
  obtain ⟨c0, b0, rfl, h10, hl0, hc0, hp1, ho0⟩ := ht.agg (fun _ => rfl)
  have hl0 : c0.length = 101 := hl0
  have hgl0 := hp0.lt
  have hz2 := Nat.le_trans hz1 hc0.size
  have HO0 := Lib.hid ho0
  have HC0 := Lib.hid hc0
  have H10 := Lib.hid h10
  have HL0 := Lib.hid hl0
  clear hl0
  clear ht ho0 hc0 h10 hp0
  go_wp2_with fail
  refine (oneQC_any _ hp1 (HRL.out _ (by simp))).mono ?_
  rintro e w3 ht
  obtain ⟨c1, b1, rfl, h11, hl1, hc1, hp2, ho1⟩ := ht.agg (fun _ => rfl)
  have hl1 : c1.length = 37 := hl1
  have hgl1 := hp1.lt
  have hz3 := Nat.le_trans hz2 hc1.size
  have HO1 := Lib.hid ho1
  have HC1 := Lib.hid hc1
  have H11 := Lib.hid h11
  have HL1 := Lib.hid hl1
  clear hl1
  clear ht ho1 hc1 h11 hp1
  go_wp2_with fail
  refine (allCommit_any _ hp2 (HRL.out _ (by simp))).mono ?_
  rintro e w4 ht
  obtain ⟨y2, b2, rfl, h12, hc2, hp3, ho2⟩ := ht.one (fun _ => rfl) rfl
  have hgl2 := hp2.lt
  have hz4 := Nat.le_trans hz3 hc2.size
  have HO2 := Lib.hid ho2
  have HC2 := Lib.hid hc2
  have H12 := Lib.hid h12
  clear ht ho2 hc2 h12 hp2
  go_wp2_with fail
  refine (allTx_any _ hp3 (HRL.out _ (by simp))).mono ?_
  rintro e w5 ht
  obtain ⟨y3, b3, rfl, h13, hc3, hp4, ho3⟩ := ht.one (fun _ => rfl) rfl
  have hgl3 := hp3.lt
  have hz5 := Nat.le_trans hz4 hc3.size
  have HO3 := Lib.hid ho3
  have HC3 := Lib.hid hc3
  have H13 := Lib.hid h13
  clear ht ho3 hc3 h13 hp3
  go_wp2_with fail
  refine (oneSig_any _ hp4 (HRL.out _ (by simp))).mono ?_
  rintro e w6 ht
  obtain ⟨c4, b4, rfl, h14, hl4, hc4, hp5, ho4⟩ := ht.agg (fun _ => rfl)
  have hl4 : c4.length = 33 := hl4
  have hgl4 := hp4.lt
  have hz6 := Nat.le_trans hz5 hc4.size
  have HO4 := Lib.hid ho4
  have HC4 := Lib.hid hc4
  have H14 := Lib.hid h14
  have HL4 := Lib.hid hl4
  clear hl4
  clear ht ho4 hc4 h14 hp4
  have hbu := run_struct (P := Tryz.prog) (vs := [.agg c0.toArray, .agg c1.toArray, y2, y3, .agg c4.toArray]) (cs := [c0, c1, [y2], [y3], c4]) info_readBlock places_readBlock ⟨rfl, rfl, cells_one H12.out, cells_one H13.out, rfl, trivial⟩ (by simp [PlaceOk, HL0.out, HL1.out, HL4.out]) (by simp [HL0.out, HL1.out, HL4.out]) #[(0, .agg c0.toArray), (1, .agg c1.toArray), (2, y2), (3, y3), (4, .agg c4.toArray)] rfl
  have hone : ∀ v ∈ [c0, c1, [y2], [y3], c4].flatten, v.oneCell' = true := by
    intro v hv
    simp only [List.flatten_cons, List.flatten_nil, List.mem_append, List.mem_singleton, List.not_mem_nil, or_false] at hv
    rcases hv with hv | hv | rfl | rfl | hv
    · exact H10.out v hv
    · exact H11.out v hv
    · exact H12.out
    · exact H13.out
    · exact H14.out v hv
  have HOUT := Lib.hid (show Fs.Out (.cons tHeader (.cons tQC (.cons (.list tCommit) (.cons (.list tTx) (.cons tSig .nil))))) w6 (Nw (w.heap.size + 1) w6) [r0, r1, r2, r3, r4] [c0, c1, [y2], [y3], c4].flatten bad b4 from by
    have := Fs.Out.step HO0.out (Fs.Out.step HO1.out (Fs.Out.step HO2.out (Fs.Out.step HO3.out (Fs.Out.step HO4.out (Fs.Out.nil_ w6 _ _) (Chg.refl _ _) hgl4 hz5) HC4.out hgl3 hz4) (HC3.out.trans HC4.out fun b h => .inl h) hgl2 hz3) ((HC2.out.trans HC3.out fun b h => .inl h).trans HC4.out fun b h => .inl h) hgl1 hz2) (((HC1.out.trans HC2.out fun b h => .inl h).trans HC3.out fun b h => .inl h).trans HC4.out fun b h => .inl h) hgl0 hz1
    simpa using this)
  have HCA := Lib.hid (show Chg (fun k => k = g) w1 w6 from ((((HC0.out.trans HC1.out fun b h => .inl h).trans HC2.out fun b h => .inl h).trans HC3.out fun b h => .inl h).trans HC4.out fun b h => .inl h))
  have hcl : [c0, c1, [y2], [y3], c4].flatten.length = 173 := by simp [HL0.out, HL1.out, HL4.out]
  obtain ⟨C, hC⟩ : ∃ C, C = [c0, c1, [y2], [y3], c4].flatten := ⟨_, rfl⟩
  rw [← hC] at hbu hone hcl HOUT
  have HBU := Lib.hid hbu
  have HONE := Lib.hid hone
  have HCL := Lib.hid hcl
  have HI := Lib.hid (show (Tryz.prog.info? 83).map (·.size) = some C.length from by rw [hcl]; exact size_readBlock)
  have HK2 := Lib.hid (HK.out.chg HCA.out (show ¬ w.heap.size = g from by omega))
  clear hbu hone hcl hC HK HO0 HC0 H10 HO1 HC1 H11 HO2 HC2 H12 HO3 HC3 H13 HO4 HC4 H14 HL0 HL1 HL4
  have HP := Lib.hid hp5
  have hgX := hp5.lt
  clear hp5
  have hbu := HBU.out w6
  have HX := Lib.hid (HP.out.parts)
  go_wp2_with (first | (refine wpList_build_ rfl 83 _ rfl #[(0, .agg c0.toArray), (1, .agg c1.toArray), (2, y2), (3, y3), (4, .agg c4.toArray)] (by simp [Act.eval]) _ hbu ?_) | (refine wpList_store_blk (cs0 := (([.int .i64 0, .int .i64 0, .int .i64 0, .int .i64 0] ++ List.replicate 96 (.int .u8 0) ++ [.int .i64 0]) ++ ([.int .i64 0, .int .i64 0, .int .i64 0] ++ List.replicate 32 (.int .u8 0) ++ [.slice none 0 0, .slice none 0 0]) ++ [.slice none 0 0, .slice none 0 0] ++ ([.int .i64 0] ++ List.replicate 32 (.int .u8 0)) : List Value)) (cs := C) rfl 83 _ _ rfl (Blk.new w6 _ _) rfl rfl (by rw [HCL.out]; rfl) HI.out HONE.out ?_; intro wx hbx hcx; have HBX := Lib.hid hbx; have HCX := Lib.hid hcx; clear hbx hcx))
  obtain ⟨vy, ey, hblk, herr⟩ := HX.out
  have HCX' := Lib.hid (show Chg (fun _ => False) w6 wx from ((Chg.refl _ w6).alloc _).trans HCX.out fun b h => .inr (Nat.le_of_eq h.symm))
  have HGX := Lib.hid (hblk.chg HCX'.out id)
  have HKX := Lib.hid (HK2.out.chg HCX'.out id)
  have HE := Lib.hid herr
  clear hbu hblk herr HX HBU
  refine wp_region_hoist [0, 1, 2, 3, 4] [5] [6] (fun w' => Blk w' w6.heap.size 83 C.toArray ∧ Blk w' g 168 #[vy, ey])
    (by kernel_rfl) (by kernel_rfl) (by kernel_rfl) (by kernel_rfl) (by kernel_rfl) (by kernel_rfl) ⟨HBX.out.drew, HGX.out.drew⟩ ?_
  (refine HoistK.load (by rfl) (by kernel_rfl) 83 _ rfl w6.heap.size 0 rfl C _ (fun w' hw => hw.1.range) Tryz.underlying83 rfl HI.out ?_; simp only [Act.put, setIfInBounds_toArray, getElem_toArray, getElem_cons_zero, set_cons_succ, set_cons_zero])
  iterate 3 (refine HoistK.yes (by rfl) (by kernel_rfl) ⟨?_, fun w' hSw => ?_, ?_⟩; rotate_left; (· go_simp; try with_reducible rfl); simp only [Act.put, setIfInBounds_toArray, getElem_toArray, getElem_cons_succ, getElem_cons_zero, set_cons_succ, set_cons_zero])
  (refine HoistK.yes (by rfl) (by kernel_rfl) ⟨?_, fun w' hSw => ?_, ?_⟩; rotate_left; (· have hcc := hSw.2.cell; go_simp; try with_reducible rfl); simp only [Act.put, setIfInBounds_toArray, getElem_toArray, getElem_cons_succ, getElem_cons_zero, set_cons_succ, set_cons_zero])
  refine HoistK.nil_ ?_
  simp only [opsAt, filterMap_cons, filterMap_nil, getElem?_toArray, getElem?_cons_succ, getElem?_cons_zero]
  refine Effects.cons_ fun _ hQ1 => ?_
  go_wp2_with (refine wpList_store_blk (cs0 := (([.int .i64 0, .int .i64 0, .int .i64 0, .int .i64 0] ++ List.replicate 96 (.int .u8 0) ++ [.int .i64 0]) ++ ([.int .i64 0, .int .i64 0, .int .i64 0] ++ List.replicate 32 (.int .u8 0) ++ [.slice none 0 0, .slice none 0 0]) ++ [.slice none 0 0, .slice none 0 0] ++ ([.int .i64 0] ++ List.replicate 32 (.int .u8 0)) : List Value)) (cs := C) rfl 83 _ _ rfl HKX.out.drew rfl rfl (by rw [HCL.out]; rfl) HI.out HONE.out ?_; intro wy hby hcy; have HBY := Lib.hid hby; have HCY := Lib.hid hcy; clear hby hcy)
  refine hQ1 _ _ ⟨HBX.out.drew.chg HCY.out (fun h => by omega), HGX.out.drew.chg HCY.out (fun h => by omega)⟩ (Effects.nil_ fun _ hQ2 => ?_)
  go_wp2
  have hld := run_loadVar_mid (P := Tryz.prog) wy w.heap.size 0 83 C _ HBY.out.range Tryz.underlying83 rfl HI.out
  refine bodyPost_ret (v := .tuple #[.agg C.toArray, ey]) (by simp [results, Tryz.results63, asAddr, hld]) rfl ?_
  have hcf : Chg (fun b => b = w.heap.size) w6 wy := ((HCX'.out.mono fun _ h => h.elim).drew).trans HCY.out fun b h => .inl h
  exact ReadOut.mk (n := 5) HOUT.out HSS.out rfl HE.out (HB1.out.trans (HCA.out.below HB1.out.size fun b h => by omega)) hcf
end
section
open Go.RowKit Go.Maps
attribute [-simp] Tryz.isAgg36 Tryz.typeInfo36 Tryz.isAgg83 Tryz.typeInfo83
def zFBlock : List Value := (([.int .i64 0, .int .i64 0, .int .i64 0, .int .i64 0] ++ List.replicate 96 (.int .u8 0) ++ [.int .i64 0]) ++ ([.int .i64 0, .int .i64 0, .int .i64 0] ++ List.replicate 32 (.int .u8 0) ++ [.slice none 0 0, .slice none 0 0]) ++ [.slice none 0 0, .slice none 0 0] ++ ([.int .i64 0] ++ List.replicate 32 (.int .u8 0)) : List Value)
set_option maxRecDepth 100000 in
theorem one_faceBlock : ∀ v ∈ zFBlock, v.oneCell' = true := by decide
set_option maxRecDepth 100000 in
theorem len_faceBlock : zFBlock.length = 173 := by decide
theorem size_faceBlock : (Tryz.prog.info? 83).map (·.size) = some zFBlock.length := by kernel_rfl
set_option maxHeartbeats 8000000 in
set_option maxRecDepth 100000 in
theorem faceBlock_any (w : World) {S : Nat → Prop} {v sent : Value} {bs : List UInt8} (h : Bs w S v bs) (hp : Pk w sent) :
    Calls Tryz.prog 62 #[v, .func (Fn.func 63) #[] #[]] w (FaceOutN tBlock zFBlock w bs) := by
  obtain ⟨A, cap, rfl⟩ := h.form
  have hal1 := (Below.refl w.heap.size w).alloc (Nat.le_refl _) (.cells (zFBlock).toArray 83)
  have hal2 := hal1.alloc (by simp) (.cells (zFBlock).toArray 83)
  have hr0 := (Blk.new w 83 (zFBlock).toArray).alloc (.cells (zFBlock).toArray 83)
  have hz0 := Blk.new (w.alloc (.cells (zFBlock).toArray 83)) 83 (zFBlock).toArray
  rw [show (w.alloc (.cells (zFBlock).toArray 83)).heap.size = w.heap.size + 1 by simp] at hz0
  by_cases hbig : 262144 < bs.length
  · obtain ⟨sb, hsb⟩ : ∃ sb, w.cell? ⟨0, 0, none⟩ = some (.iface 237 (.pointer (some sb))) := by
      obtain ⟨_, _, b, _, _, _, _, _, _, _, _, h, _⟩ := hp
      exact ⟨b, h⟩
    have hgb : ∀ {W : World}, Below w.heap.size w W → W.cell? ⟨0, 0, none⟩ = some (.iface 237 (.pointer (some sb))) := fun hb => cell_low hsb hb
    clear h
    go_enter Tryz.func62, Tryz.ntmps62
    go_wp2_with fail
    have hb := hal2.drew
    have hr : Blk _ _ _ _ := hr0.drew
    have hz : Blk _ _ _ _ := hz0.drew
    clear hal1 hal2 hz0 hsb
    refine wp_region_hoist [0, 1, 2] [3, 4, 5] [6, 7] (fun w' => Blk w' (w.heap.size + 1) 83 (zFBlock).toArray ∧ w'.cell? ⟨0, 0, none⟩ = some (.iface 237 (.pointer (some sb)))) (by kernel_rfl) (by kernel_rfl) (by kernel_rfl) (by kernel_rfl) (by kernel_rfl) (by kernel_rfl) ⟨hz, hgb hb⟩ ?_
    (refine HoistK.load (by rfl) (by kernel_rfl) 83 _ rfl (w.heap.size + 1) 0 rfl zFBlock _ (fun w' hw => hw.1.range) Tryz.underlying83 rfl size_faceBlock ?_; simp only [Act.put, setIfInBounds_toArray, getElem_toArray, getElem_cons_zero, set_cons_succ, set_cons_zero])
    (refine HoistK.yes (by rfl) (by kernel_rfl) ⟨?_, fun w' hSw => ?_, ?_⟩; rotate_left; (· have hcc := hSw.2; go_simp; try with_reducible rfl); simp only [Act.put, setIfInBounds_toArray, getElem_toArray, getElem_cons_succ, getElem_cons_zero, set_cons_succ, set_cons_zero])
    (refine HoistK.yes (by rfl) (by kernel_rfl) ⟨?_, fun w' hSw => ?_, ?_⟩; rotate_left; (· go_simp; try with_reducible rfl); simp only [Act.put, setIfInBounds_toArray, getElem_toArray, getElem_cons_succ, getElem_cons_zero, set_cons_succ, set_cons_zero])
    refine HoistK.nil_ ?_
    simp only [opsAt, filterMap_cons, filterMap_nil, getElem?_toArray, getElem?_cons_succ, getElem?_cons_zero]
    refine Effects.world (F := fun W => Below w.heap.size w W ∧ Blk W w.heap.size 83 (zFBlock).toArray ∧ Blk W (w.heap.size + 1) 83 (zFBlock).toArray) (fun W hF => ?_) ⟨hb, hr, hz⟩
    clear hb hr hz hr0
    obtain ⟨hb, hr, hz⟩ := hF
    refine Effects.cons_ fun _ hQ => ?_
    have hzl := hz.lt
    go_wp2_with fail
    have hk := Blk.new W 158 #[.string ⟨#[97, 108, 108]⟩, .iface 237 (.pointer (some sb))]
    replace hb := hb.alloc hb.size (.cells #[.string ⟨#[97, 108, 108]⟩, .iface 237 (.pointer (some sb))] 158)
    replace hr := hr.alloc (.cells #[.string ⟨#[97, 108, 108]⟩, .iface 237 (.pointer (some sb))] 158)
    replace hz := hz.alloc (.cells #[.string ⟨#[97, 108, 108]⟩, .iface 237 (.pointer (some sb))] 158)
    obtain ⟨gg, hgg⟩ : ∃ gg, gg = W.heap.size := ⟨_, rfl⟩
    have hgn : gg ≠ w.heap.size := by omega
    rw [← hgg] at hk ⊢
    have HGG := Lib.hid hgg; clear hgg
    generalize W.alloc (.cells #[.string ⟨#[97, 108, 108]⟩, .iface 237 (.pointer (some sb))] 158) = W1 at *
    refine hQ _ _ ⟨hz, hgb hb⟩ (Effects.cons_ fun _ hQ => ?_)
    go_wp2_with fail
    refine hQ _ _ ⟨hz, hgb hb⟩ (Effects.cons_ fun _ hQ => ?_)
    go_wp2_with fail
    refine (told_any (r := true) _ (hp.below hb) ⟨gg, 1, _, rfl, .more hk .last, hgb hb⟩).mono ?_
    rintro e W2 ⟨rfl, hb2⟩
    replace hb := hb.trans (hb2.mono hb.size)
    replace hr := hr.below hb2 hr.lt
    replace hz := hz.below hb2 hz.lt
    replace hk := hk.below hb2 hk.lt
    go_wp2_with fail
    refine hQ _ _ ⟨hz, hgb hb⟩ (Effects.nil_ fun _ hQ => ?_)
    refine wpList_store_blk (cs0 := zFBlock) (cs := zFBlock) rfl 83 _ _ rfl hr rfl rfl rfl size_faceBlock one_faceBlock ?_
    intro W3 hr3 hc3
    go_wp2_with fail
    replace hb := hb.trans (hc3.below hb.size fun b h => Nat.le_of_eq h.symm)
    have hld := run_loadVar_mid (P := Tryz.prog) _ w.heap.size 0 83 zFBlock _ hr3.range Tryz.underlying83 rfl size_faceBlock
    exact bodyPost_ret (v := .tuple #[.agg (zFBlock).toArray, .int .i64 4]) (by simp [results, Tryz.results62, asAddr, hld]) rfl ⟨hb, _, 4, rfl, len_faceBlock, one_faceBlock, .inl ⟨hbig, rfl, rfl⟩⟩
  · have hlen : bs.length ≤ 262144 := by omega
    have HR := Lib.hid (readBlock_any _ (h.below hal2) hlen (hp.1.below hal2))
    have HA := Lib.hid hal2
    have HR0 := Lib.hid hr0
    have HZ0 := Lib.hid hz0
    clear h hal1 hal2 hr0 hz0
    go_enter Tryz.func62, Tryz.ntmps62
    go_wp2_with fail
    refine HR.out.mono ?_
    rintro e w2 hro
    obtain ⟨C, err, bd, rfl, h1, hl, hb2, he, ho⟩ := hro.agg (fun _ => rfl)
    have hl : C.length = 173 := hl
    have HL := Lib.hid hl
    have HI := Lib.hid (show (Tryz.prog.info? 83).map (·.size) = some C.length from by rw [hl]; rw [size_faceBlock, len_faceBlock])
    have H1 := Lib.hid h1
    have HK := Lib.hid (HR0.out.below hb2 HR0.out.lt)
    have HZ := Lib.hid (HZ0.out.below hb2 HZ0.out.lt)
    have hz2 : w.heap.size + 2 ≤ w2.heap.size := by have := hb2.size; simpa using this
    have HB2 := Lib.hid (HA.out.trans (hb2.mono HA.out.size))
    have HO := Lib.hid (show SOut tBlock w2 (Nw (w.heap.size + 2) w2) bs C false bd from ho.nw (fun b _ hlt => ⟨hlt, rfl⟩) (by simp))
    have he := he.to (w' := w2) (S' := fun b => w.heap.size + 2 ≤ b) (fun b _ hlt => ⟨hlt, rfl⟩) fun b hb _ => by simpa using hb
    clear hro h1 hl hb2 ho HR HA HR0 HZ0
    rcases he with ⟨rfl, rfl⟩ | ⟨rfl, hch⟩
    · go_wp2_with (first
        | (refine wpList_store_blk (cs0 := zFBlock) (cs := C) rfl 83 _ _ rfl (Blk.new w2 _ _) rfl rfl (by rw [HL.out]; exact len_faceBlock) HI.out H1.out ?_; intro w3 hb3 hc3; have HB3 := Lib.hid hb3
           have HC3 := Lib.hid (show Chg (fun _ => False) w2 w3 from ((Chg.refl _ w2).alloc _).trans hc3 fun b h => .inr (Nat.le_of_eq h.symm)); clear hb3 hc3
           have HK3 := Lib.hid (HK.out.chg HC3.out id))
        | (refine wpList_load_blk' rfl 83 _ rfl HB3.out rfl Tryz.underlying83 rfl HI.out ?_)
        | (refine wpList_store_blk (cs0 := zFBlock) (cs := C) rfl 83 _ _ rfl HK3.out rfl rfl (by rw [HL.out]; exact len_faceBlock) HI.out H1.out ?_; intro w9 hb9 hc9; have HB9 := Lib.hid hb9; have HC9 := Lib.hid hc9; clear hb9 hc9))
      have hld := run_loadVar_mid (P := Tryz.prog) w9 w.heap.size 0 83 C _ HB9.out.range Tryz.underlying83 rfl HI.out
      refine bodyPost_ret (v := .tuple #[.agg C.toArray, .int .i64 0]) (by simp [results, Tryz.results62, asAddr, hld]) rfl ?_
      obtain ⟨o1, o2, o3⟩ := HO.out
      have hc29 : Chg (fun b => b = w.heap.size) w2 w9 := (HC3.out.mono (M' := fun b => b = w.heap.size) fun _ h => h.elim).trans HC9.out fun b h => .inl h
      refine ⟨HB2.out.trans (hc29.below HB2.out.size fun b h => Nat.le_of_eq h.symm), C, 0, rfl, o1, o2, .inr ⟨hlen, .inl ?_⟩⟩
      rcases o3 with ⟨x, e1, _, e3⟩ | ⟨_, e2⟩
      · exact ⟨x, e1, rfl, Sh.rep_to (fun b hb hlt => ⟨ltle hlt hc29.size, hc29.block b hlt fun e => by have := hb.1; omega⟩) (fun b hb hlt => hb.to (by omega) (hc29.block b hlt fun e => by have := hb.1; omega)) _ _ _ e3⟩
      · cases e2
    · obtain ⟨gw, rfl⟩ := hch.form
      have HCH := Lib.hid hch; clear hch
      have hno : Sh.dec tBlock bs = none := by
        obtain ⟨_, _, o3⟩ := HO.out
        rcases o3 with ⟨x, _, e2, _⟩ | ⟨e1, _⟩
        · cases e2
        · exact e1
      have HNO := Lib.hid hno; clear hno
      go_wp2_with (refine wpList_store_blk (cs0 := zFBlock) (cs := C) rfl 83 _ _ rfl (Blk.new w2 _ _) rfl rfl (by rw [HL.out]; exact len_faceBlock) HI.out H1.out ?_; intro w3 hb3 hc3; have HC3 := Lib.hid (show Chg (fun _ => False) w2 w3 from ((Chg.refl _ w2).alloc _).trans hc3 fun b h => .inr (Nat.le_of_eq h.symm)); clear hb3 hc3)
      have hr : Blk _ _ _ _ := (HK.out.chg HC3.out id).drew
      have hz : Blk _ _ _ _ := (HZ.out.chg HC3.out id).drew
      have hb := (HB2.out.trans (HC3.out.below HB2.out.size fun b h => h.elim)).drew
      have hch3 := HCH.out.to (w' := w3.drew) (S' := fun b => w.heap.size + 2 ≤ b) (fun b hb hlt => ⟨ltle hlt HC3.out.size, HC3.out.block b hlt id⟩) fun b hb _ => hb
      have hz3 : w.heap.size + 2 ≤ w3.drew.heap.size := Nat.le_trans hz2 HC3.out.size
      refine wp_region_hoist [0, 1] [2] [3, 4] (fun w' => Blk w' (w.heap.size + 1) 83 (zFBlock).toArray) (by kernel_rfl) (by kernel_rfl) (by kernel_rfl) (by kernel_rfl) (by kernel_rfl) (by kernel_rfl) hz ?_
      (refine HoistK.load (by rfl) (by kernel_rfl) 83 _ rfl (w.heap.size + 1) 0 rfl zFBlock _ (fun w' hw => hw.range) Tryz.underlying83 rfl size_faceBlock ?_; simp only [Act.put, setIfInBounds_toArray, getElem_toArray, getElem_cons_zero, set_cons_succ, set_cons_zero])
      (refine HoistK.yes (by rfl) (by kernel_rfl) ⟨?_, fun w' hSw => ?_, ?_⟩; rotate_left; (· go_simp; try with_reducible rfl); simp only [Act.put, setIfInBounds_toArray, getElem_toArray, getElem_cons_succ, getElem_cons_zero, set_cons_succ, set_cons_zero])
      refine HoistK.nil_ ?_
      simp only [opsAt, filterMap_cons, filterMap_nil, getElem?_toArray, getElem?_cons_succ, getElem?_cons_zero]
      refine Effects.world (F := fun W => Below w.heap.size w W ∧ Blk W w.heap.size 83 (zFBlock).toArray ∧ Blk W (w.heap.size + 1) 83 (zFBlock).toArray ∧ Chain W (fun b => w.heap.size + 2 ≤ b) sent (.iface 154 (.pointer (some ⟨gw, 0, none⟩)))) (fun W hF => ?_) ⟨hb, hr, hz, hch3⟩
      clear hb hr hz hch3 hz3
      obtain ⟨hb, hr, hz, hch⟩ := hF
      refine Effects.cons_ fun _ hQ => ?_
      go_wp2_with fail
      refine (told_any (r := false) _ (hp.below hb) (Wr.of_chain hch)).mono ?_
      rintro e W2 ⟨rfl, hb2⟩
      replace hb := hb.trans (hb2.mono hb.size)
      replace hr := hr.below hb2 hr.lt
      replace hz := hz.below hb2 hz.lt
      go_wp2_with fail
      refine hQ _ _ hz (Effects.nil_ fun _ hQ => ?_)
      refine wpList_store_blk (cs0 := zFBlock) (cs := zFBlock) rfl 83 _ _ rfl hr rfl rfl rfl size_faceBlock one_faceBlock ?_
      intro W3 hr3 hc3
      go_wp2_with fail
      replace hb := hb.trans (hc3.below hb.size fun b h => Nat.le_of_eq h.symm)
      have hld := run_loadVar_mid (P := Tryz.prog) _ w.heap.size 0 83 zFBlock _ hr3.range Tryz.underlying83 rfl size_faceBlock
      exact bodyPost_ret (v := .tuple #[.agg (zFBlock).toArray, .int .i64 5]) (by simp [results, Tryz.results62, asAddr, hld]) rfl ⟨hb, _, 5, rfl, len_faceBlock, one_faceBlock, .inr ⟨hlen, .inr ⟨HNO.out, rfl, rfl⟩⟩⟩
set_option maxHeartbeats 4000000 in
set_option maxRecDepth 100000 in
theorem ReadBlock_anyN (w : World) {S : Nat → Prop} {v sent : Value} {bs : List UInt8} (h : Bs w S v bs) (hp : Pk w sent) :
    Calls Tryz.prog 25 #[v] w (FaceOutN tBlock zFBlock w bs) := by
  have hal1 := (Below.refl w.heap.size w).alloc (Nat.le_refl _) (.cells (zFBlock).toArray 83)
  have HF := Lib.hid (faceBlock_any _ (h.below hal1) (hp.below hal1))
  have HR := Lib.hid (Blk.new w 83 (zFBlock).toArray)
  have HA := Lib.hid hal1
  obtain ⟨A, cap, rfl⟩ := h.form
  clear h hp hal1
  go_enter Tryz.func25, Tryz.ntmps25
  go_wp2_with fail
  refine HF.out.mono ?_
  rintro e w1 ⟨hb, C, n, rfl, hl, h1, hn⟩
  have hl : C.length = 173 := hl
  have HL := Lib.hid hl
  have HI := Lib.hid (show (Tryz.prog.info? 83).map (·.size) = some C.length from by rw [hl]; rw [size_faceBlock, len_faceBlock])
  have H1 := Lib.hid h1
  have hlz : (zFBlock).length = C.length := by rw [hl, len_faceBlock]
  have HLZ := Lib.hid hlz
  have HK := Lib.hid (HR.out.below hb (by simp))
  have HB := Lib.hid hb
  have HN := Lib.hid hn
  have hz1 : w.heap.size + 1 ≤ w1.heap.size := by have := hb.size; simpa using this
  clear hl h1 hlz hb hn HF HR
  go_wp2_with (refine wpList_store_blk (cs0 := zFBlock) (cs := C) rfl 83 _ _ rfl HK.out rfl rfl HLZ.out HI.out H1.out ?_; intro w9 hb9 hc9; have HB9 := Lib.hid hb9; have HC9 := Lib.hid hc9; clear hb9 hc9)
  have hld := run_loadVar_mid (P := Tryz.prog) w9 w.heap.size 0 83 C _ HB9.out.range Tryz.underlying83 rfl HI.out
  refine bodyPost_ret (v := .tuple #[.agg C.toArray, .int .i64 n]) (by simp [results, Tryz.results25, asAddr, hld]) rfl ?_
  have hbw := HA.out.trans (HB.out.mono HA.out.size)
  refine ⟨hbw.trans (HC9.out.below hbw.size fun b h => Nat.le_of_eq h.symm), C, n, rfl, HL.out, H1.out, HN.out.imp id fun ⟨q1, q2⟩ => ⟨q1, q2.imp (fun ⟨x, e1, e2, e3⟩ => ⟨x, e1, e2, ?_⟩) id⟩⟩
  exact Sh.rep_to (fun b hb hlt => ⟨ltle hlt HC9.out.size, HC9.out.block b hlt fun e => by have hb := hb.1; simp at hb; omega⟩) (fun b hb hlt => hb.to (by simp) (HC9.out.block b hlt fun e => by have hb := hb.1; simp at hb; omega)) _ _ _ e3
theorem ReadBlock_any (w : World) {S : Nat → Prop} {v sent : Value} {bs : List UInt8} (h : Bs w S v bs) (hp : Pk w sent) :
    Calls Tryz.prog 25 #[v] w (FaceOut tBlock w bs) :=
  (ReadBlock_anyN w h hp).mono fun _ _ h => h.weak
end
section
open Go.RowKit Go.Maps
attribute [-simp] Tryz.isAgg36 Tryz.typeInfo36 Tryz.isAgg38 Tryz.typeInfo38 Tryz.isAgg46 Tryz.typeInfo46 Tryz.isAgg81 Tryz.typeInfo81 Tryz.isAgg54 Tryz.typeInfo54 Tryz.isAgg72 Tryz.typeInfo72
set_option maxHeartbeats 8000000 in
set_option maxRecDepth 100000 in
theorem rBlock_any (w : World) {S : Nat → Prop} {x : tBlock.El} {cs : List Value} (h : tBlock.rep w S x cs) (hl : (tBlock.enc x).length ≤ 1099511627776) :
    Calls Tryz.prog 27 #[.agg cs.toArray] w fun e w' => ∃ v', e = .returned v' ∧ Fresh w w' v' (tBlock.enc x) := by
  obtain ⟨x0, x1, x2, x3, x4, _⟩ := x
  obtain ⟨c0, _, rfl, r0, c1, _, rfl, r1, c2, _, rfl, r2, c3, _, rfl, r3, c4, _, rfl, r4, rfl⟩ := h
  have l0 : c0.length = 101 := Sh.rep_size _ _ _ r0
  obtain ⟨y0, hy0⟩ : ∃ y, y = c0 := ⟨_, rfl⟩
  subst hy0
  have l1 : c1.length = 37 := Sh.rep_size _ _ _ r1
  obtain ⟨y1, hy1⟩ : ∃ y, y = c1 := ⟨_, rfl⟩
  subst hy1
  obtain ⟨y2, rfl⟩ : ∃ y, c2 = [y] := by obtain ⟨v, _, e, _⟩ := r2; exact ⟨v, e⟩
  obtain ⟨y3, rfl⟩ : ∃ y, c3 = [y] := by obtain ⟨v, _, e, _⟩ := r3; exact ⟨v, e⟩
  have l4 : c4.length = 33 := Sh.rep_size _ _ _ r4
  obtain ⟨y4, hy4⟩ : ∃ y, y = c4 := ⟨_, rfl⟩
  subst hy4
  obtain ⟨A2, cap2, rfl, hlen2, _⟩ := list_at r2
  obtain ⟨A3, cap3, rfl, hlen3, _⟩ := list_at r3
  have R0 := Lib.hid r0; clear r0
  have R1 := Lib.hid r1; clear r1
  have R2 := Lib.hid r2; clear r2
  have R3 := Lib.hid r3; clear r3
  have R4 := Lib.hid r4; clear r4
  obtain ⟨C, hC⟩ : ∃ C, C = y0 ++ (y1 ++ ([Value.slice A2 (List.length (α := (tCommit).El) x2) cap2] ++ ([Value.slice A3 (List.length (α := (tTx).El) x3) cap3] ++ (y4 ++ ([]))))) := ⟨_, rfl⟩
  rw [← hC]
  have hf : ∀ w', Blk w' w.heap.size 83 C.toArray → w'.rangeAt w.heap.size 0 y0 ∧ w'.rangeAt w.heap.size 101 y1 ∧ w'.cell? ⟨w.heap.size, 138, none⟩ = some (.slice A2 (List.length (α := (tCommit).El) x2) cap2) ∧ w'.cell? ⟨w.heap.size, 139, none⟩ = some (.slice A3 (List.length (α := (tTx).El) x3) cap3) ∧ w'.rangeAt w.heap.size 140 y4 := fun w' hb => by
    have := hb.lies [y0, y1, [Value.slice A2 (List.length (α := (tCommit).El) x2) cap2], [Value.slice A3 (List.length (α := (tTx).El) x3) cap3], y4] [] (by rw [hC]; simp)
    simp only [Lies, l0, l1, List.length_cons, List.length_nil] at this
    obtain ⟨s0, s1, s2, s3, s4, _⟩ := this
    exact ⟨s0, s1, Lies.one s2, Lies.one s3, s4⟩
  have HF := Lib.hid hf
  clear hf hC
  have L0 := Lib.hid l0; clear l0
  have L1 := Lib.hid l1; clear l1
  have L4 := Lib.hid l4; clear l4
  have hl' : (joinB [tHeader.enc x0, tQC.enc x1, (Sh.list tCommit).enc x2, (Sh.list tTx).enc x3, tSig.enc x4]).length ≤ 1099511627776 := hl
  have HLL := Lib.hid hl'
  clear hl hl'
  have HE2 := Lib.hid (show ((Sh.list tCommit).enc x2).length ≤ 1099511627776 from (by have h1 := HLL.out; rw [joinB_length] at h1; have h2 := joinP_mem (l := [tHeader.enc x0, tQC.enc x1, (Sh.list tCommit).enc x2, (Sh.list tTx).enc x3, tSig.enc x4]) (x := (Sh.list tCommit).enc x2) (by simp); omega))
  have hcn2 : (List.length (α := (tCommit).El) x2) ≤ 137438953472 := by
    have h1 := HE2.out
    have h2 := joinP_count (List.map (tCommit).enc x2)
    have h3 : ((Sh.list tCommit).enc x2).length = 8 + (joinP (List.map (tCommit).enc x2)).length := joinB_length _
    rw [List.length_map] at h2
    omega
  have HEJ2 := Lib.hid (show (joinB (List.map (tCommit).enc x2)).length ≤ 140737488355328 from by
    have h1 := HE2.out
    have h3 : ((Sh.list tCommit).enc x2).length = 8 + (joinP (List.map (tCommit).enc x2)).length := joinB_length _
    rw [joinB_length]
    omega)
  have HE3 := Lib.hid (show ((Sh.list tTx).enc x3).length ≤ 1099511627776 from (by have h1 := HLL.out; rw [joinB_length] at h1; have h2 := joinP_mem (l := [tHeader.enc x0, tQC.enc x1, (Sh.list tCommit).enc x2, (Sh.list tTx).enc x3, tSig.enc x4]) (x := (Sh.list tTx).enc x3) (by simp); omega))
  have hcn3 : (List.length (α := (tTx).El) x3) ≤ 137438953472 := by
    have h1 := HE3.out
    have h2 := joinP_count (List.map (tTx).enc x3)
    have h3 : ((Sh.list tTx).enc x3).length = 8 + (joinP (List.map (tTx).enc x3)).length := joinB_length _
    rw [List.length_map] at h2
    omega
  have HEJ3 := Lib.hid (show (joinB (List.map (tTx).enc x3)).length ≤ 140737488355328 from by
    have h1 := HE3.out
    have h3 : ((Sh.list tTx).enc x3).length = 8 + (joinP (List.map (tTx).enc x3)).length := joinB_length _
    rw [joinB_length]
    omega)
  go_enter Tryz.func27, Tryz.ntmps27
  go_wp2_with fail
  have hbe := (Below.refl w.heap.size w).alloc (Nat.le_refl _) (.cells C.toArray 83)
  have hal0 : Below (w.heap.size + 1) (w.alloc (.cells C.toArray 83)) ((w.alloc (.cells C.toArray 83)).alloc (.cells #[] 22)) := (Below.refl _ _).alloc (by simp) _
  have hMb : w.heap.size < w.heap.size + 1 := by omega
  go_loopw [3, 4] (fun o i wr => ∃ k : Nat, k ≤ (List.length (α := (tCommit).El) x2) ∧ i = .int .i64 k ∧ Bss wr (fun b => (w.heap.size + 1) ≤ b) (fun b => (w.heap.size + 1) ≤ b) o ((List.take k x2).map (tCommit).enc) ∧ Below w.heap.size w wr ∧ (w.heap.size + 1) ≤ wr.heap.size ∧ Blk wr w.heap.size 83 C.toArray) (fun _ i _ => (List.length (α := (tCommit).El) x2) - (intOf i).toNat)
  case atStart => exact ⟨0, Nat.zero_le _, rfl, Bss.empty1 w _, hbe.alloc (by simp) _, by simp, ((Blk.new w _ _).alloc _)⟩
  case round =>
    obtain ⟨k, hk, rfl, hB, hbl, hMz, hbox⟩ := hrel
    by_cases hlt : k < (List.length (α := (tCommit).El) x2)
    · obtain ⟨R, hR⟩ : ∃ R, R = (List.take k x2).map (tCommit).enc := ⟨_, rfl⟩
      rw [← hR] at hB
      have hRl : R.length = k := by rw [hR, List.length_map, List.length_take]; omega
      have hnext : (List.take (k + 1) x2).map (tCommit).enc = R ++ [(tCommit).enc (x2[k]'hlt)] := by rw [List.take_succ_eq_append_getElem hlt, List.map_append, ← hR]; rfl
      obtain ⟨Aa, ca, rfl⟩ := hB.form
      obtain ⟨_, _, e, _, hat⟩ := list_at (Sh.rep_below R2.out hbl)
      injection e with e1 e2 e3
      subst e1 e3
      obtain ⟨b, off, c, rfl, hca, hr, hcl, hblt, _⟩ := hat k hlt
      obtain ⟨x, hx⟩ : ∃ x, x = x2[k]'hlt := ⟨_, rfl⟩
      rw [← hx] at hr hnext
      have hsm2 : ((tCommit).enc x).length ≤ 1099511627776 := by
        have h1 := joinP_mem (List.mem_map.2 ⟨x2[k]'hlt, List.getElem_mem hlt, rfl⟩ : (tCommit).enc (x2[k]'hlt) ∈ List.map (tCommit).enc x2)
        have h2 := HE2.out
        have h3 : ((Sh.list tCommit).enc x2).length = 8 + (joinP (List.map (tCommit).enc x2)).length := joinB_length _
        rw [hx]; omega
      have hinfo : (Tryz.prog.info? 54).map (·.size) = some c.length := by rw [hcl]; kernel_rfl
      have HCA := Lib.hid (show wr.rangeAt b (off + k * 38) c from hca)
      have HI := Lib.hid hinfo
      clear hinfo
      have HREP := Lib.hid hr
      have HSM := Lib.hid hsm2
      clear hr hsm2
      have hown : ∀ k, (Value.slice Aa R.length ca).ownBlock = some k → k < wr.heap.size := fun k hk => by obtain ⟨vs, ho, _⟩ := hB; exact own_lt ho hk
      have hbc := (HF.out wr hbox).2.2.1
      have HB := Lib.hid hB
      have HN := Lib.hid hnext
      have HRL := Lib.hid hRl
      have HOWN := Lib.hid hown
      have HBOX := Lib.hid hbox
      clear hB hca hcl hat hx hR hnext hRl hown hbox
      go_wp2_with (refine wpList_load_mid rfl 54 _ rfl b (off + k * 38) rfl c _ HCA.out Tryz.underlying54 rfl HI.out ?_)
      refine (rCommit_any _ HREP.out HSM.out).mono ?_
      rintro e w1 ⟨v1, rfl, f1⟩
      have hb1 := hbl.trans (f1.2.mono hbl.size)
      obtain ⟨y, hy⟩ : ∃ y, y = (tCommit).enc x := ⟨_, rfl⟩
      have f1 : Fresh wr w1 v1 y := hy ▸ f1
      rw [← hy] at HN
      obtain ⟨A1, c1, rfl⟩ := f1.1.form
      obtain ⟨vs, ho, hS, hr⟩ := HB.out.below f1.2
      have hsz1 := f1.2.size
      have hal : Below w1.heap.size w1 (w1.alloc (.cells #[.slice A1 y.length c1] 22)) := (Below.refl _ w1).alloc (Nat.le_refl _) _
      have HAL := Lib.hid hal
      have HO := Lib.hid (show Own (w1.alloc (.cells #[.slice A1 y.length c1] 22)) _ _ _ _ _ from own_keep ho fun k hk => hal.block k (own_lt ho hk))
      have HS := Lib.hid hS
      have HR := Lib.hid (fun i x u h1 h2 => (hr i x u h1 h2).below hal)
      have HU := Lib.hid ((f1.1.1.below hal).sub (T := fun b => (w.heap.size + 1) ≤ b ∧ (Value.slice Aa R.length ca).ownBlock ≠ some b) fun b hb _ => ⟨Nat.le_trans hMz hb.1, fun e => by have := HOWN.out b e; omega⟩)
      have HS2 := Lib.hid (Cs.of_new w1 22 (size := 1) 1 (cs := [.slice A1 y.length c1]) rfl (by simp only [maxLen]; decide))
      have H63 := Lib.hid (show R.length + 1 ≤ maxLen ∧ (R.length + 1) * 24 ≤ 140737488355328 from by have := HRL.out; refine ⟨by simp only [maxLen]; omega, by omega⟩)
      have HF2 := Lib.hid f1.2
      clear ho hS hr hal f1 hy
      go_wp2_with (at_builtin; refine wpList_app _ rfl _ _ _ rfl Tryz.underlying121 info_row rfl (by decide) HO.out rfl HS2.out rfl (by simp [Value.oneCell']) H63.out.1 H63.out.2 ?_; intro v3 w3 ho3 hg3 hnil3 hat3; clear hnil3; have HO3 := Lib.hid ho3; clear ho3; have HG3 := Lib.hid hg3; clear hg3; have HAT3 := Lib.hid hat3; clear hat3)
      have hzz := HAL.out.size
      have hz3 := HG3.out.size
      have hpush := Bss.push HO.out HS.out HR.out HU.out HO3.out HG3.out HAT3.out (by have := hb1.size; omega)
      rw [← HN.out] at hpush
      have hbA : Below w.heap.size w (w1.alloc (.cells #[.slice A1 y.length c1] 22)) := hb1.trans (HAL.out.mono hb1.size)
      have hbw3 := HF2.out.trans (HAL.out.mono hsz1)
      refine ⟨⟨k + 1, by omega, by push_cast; rfl, hpush, hbA.trans (HG3.out.below hbA.size fun b h => by have h1 := HS.out b h; have h2 := HBOX.out.lt; omega), by omega, (HBOX.out.below hbw3 HBOX.out.lt).chg HG3.out fun h => by have h1 := HS.out _ h; have h2 := hMb; omega⟩, ?_⟩
      simp only [intOf]
      omega
    · have hk' : k = (List.length (α := (tCommit).El) x2) := by omega
      rw [hk', List.take_length] at hB
      have hsm : ∀ x ∈ List.map (tCommit).enc x2, x.length ≤ 140737488355328 := fun x hx => by
        have h1 := joinP_mem hx
        have h2 := HE2.out
        have h3 : ((Sh.list tCommit).enc x2).length = 8 + (joinP (List.map (tCommit).enc x2)).length := joinB_length _
        omega
      have hEJ2 := HEJ2.out
      obtain ⟨R2m, hR2m⟩ : ∃ R, R = List.map (tCommit).enc x2 := ⟨_, rfl⟩
      rw [← hR2m] at hB hsm hEJ2
      have HRm2 := Lib.hid hR2m
      have HEK2 := Lib.hid hEJ2
      clear hR2m hEJ2
      have V2 := Lib.hid (((hB.read hsm).lt_ (T := fun _ => True) fun _ _ => trivial).subs (T := fun b => b < wr.heap.size) fun b hb _ => hb.2)
      obtain ⟨Ao2, co2, rfl⟩ := hB.form
      have hbc2 := (HF.out wr hbox).2.2.1
      clear hB hsm
      obtain ⟨w_2, hw_2⟩ : ∃ w', w' = wr := ⟨_, rfl⟩
      subst hw_2
      have HBX2 := Lib.hid hbox; have hmb2 := hbox.lt; clear hbox
      go_wp2_with fail
      clear hlt hk hk'
      have hal2 : Below w_2.heap.size w_2 (w_2.alloc (.cells #[] 22)) := (Below.refl _ w_2).alloc (Nat.le_refl _) _
      have hMb : w.heap.size < w_2.heap.size := hmb2
      go_loopw [5, 6] (fun o i wr => ∃ k : Nat, k ≤ (List.length (α := (tTx).El) x3) ∧ i = .int .i64 k ∧ Bss wr (fun b => w_2.heap.size ≤ b) (fun b => w_2.heap.size ≤ b) o ((List.take k x3).map (tTx).enc) ∧ Below w.heap.size w wr ∧ w_2.heap.size ≤ wr.heap.size ∧ Blk wr w.heap.size 83 C.toArray ∧ Bsr wr (fun b => b < w_2.heap.size) (.slice Ao2 R2m.length co2) R2m) (fun _ i _ => (List.length (α := (tTx).El) x3) - (intOf i).toNat)
      case atStart => exact ⟨0, Nat.zero_le _, rfl, Bss.empty w_2 (fun b => w_2.heap.size ≤ b) (fun b => w_2.heap.size ≤ b) (Nat.le_refl _), hbl.alloc hbl.size _, by simp, (HBX2.out.below hal2 HBX2.out.lt), (V2.out.below hal2)⟩
      case round =>
        obtain ⟨k, hk, rfl, hB, hbl, hMz, hbox, hp2⟩ := hrel
        by_cases hlt : k < (List.length (α := (tTx).El) x3)
        · obtain ⟨R, hR⟩ : ∃ R, R = (List.take k x3).map (tTx).enc := ⟨_, rfl⟩
          rw [← hR] at hB
          have hRl : R.length = k := by rw [hR, List.length_map, List.length_take]; omega
          have hnext : (List.take (k + 1) x3).map (tTx).enc = R ++ [(tTx).enc (x3[k]'hlt)] := by rw [List.take_succ_eq_append_getElem hlt, List.map_append, ← hR]; rfl
          obtain ⟨Aa, ca, rfl⟩ := hB.form
          obtain ⟨_, _, e, _, hat⟩ := list_at (Sh.rep_below R3.out hbl)
          injection e with e1 e2 e3
          subst e1 e3
          obtain ⟨b, off, c, rfl, hca, hr, hcl, hblt, _⟩ := hat k hlt
          obtain ⟨x, hx⟩ : ∃ x, x = x3[k]'hlt := ⟨_, rfl⟩
          rw [← hx] at hr hnext
          have hsm2 : ((tTx).enc x).length ≤ 1099511627776 := by
            have h1 := joinP_mem (List.mem_map.2 ⟨x3[k]'hlt, List.getElem_mem hlt, rfl⟩ : (tTx).enc (x3[k]'hlt) ∈ List.map (tTx).enc x3)
            have h2 := HE3.out
            have h3 : ((Sh.list tTx).enc x3).length = 8 + (joinP (List.map (tTx).enc x3)).length := joinB_length _
            rw [hx]; omega
          have hinfo : (Tryz.prog.info? 72).map (·.size) = some c.length := by rw [hcl]; kernel_rfl
          have HCA := Lib.hid (show wr.rangeAt b (off + k * 41) c from hca)
          have HI := Lib.hid hinfo
          clear hinfo
          have HREP := Lib.hid hr
          have HSM := Lib.hid hsm2
          clear hr hsm2
          have hown : ∀ k, (Value.slice Aa R.length ca).ownBlock = some k → k < wr.heap.size := fun k hk => by obtain ⟨vs, ho, _⟩ := hB; exact own_lt ho hk
          have hbc := (HF.out wr hbox).2.2.2.1
          have HB := Lib.hid hB
          have HN := Lib.hid hnext
          have HRL := Lib.hid hRl
          have HOWN := Lib.hid hown
          have HBOX := Lib.hid hbox
          have HP2 := Lib.hid hp2
          clear hB hca hcl hat hx hR hnext hRl hown hbox hp2
          go_wp2_with (refine wpList_load_mid rfl 72 _ rfl b (off + k * 41) rfl c _ HCA.out Tryz.underlying72 rfl HI.out ?_)
          refine (rTx_any _ HREP.out HSM.out).mono ?_
          rintro e w1 ⟨v1, rfl, f1⟩
          have hb1 := hbl.trans (f1.2.mono hbl.size)
          obtain ⟨y, hy⟩ : ∃ y, y = (tTx).enc x := ⟨_, rfl⟩
          have f1 : Fresh wr w1 v1 y := hy ▸ f1
          rw [← hy] at HN
          obtain ⟨A1, c1, rfl⟩ := f1.1.form
          obtain ⟨vs, ho, hS, hr⟩ := HB.out.below f1.2
          have hsz1 := f1.2.size
          have hal : Below w1.heap.size w1 (w1.alloc (.cells #[.slice A1 y.length c1] 22)) := (Below.refl _ w1).alloc (Nat.le_refl _) _
          have HAL := Lib.hid hal
          have HO := Lib.hid (show Own (w1.alloc (.cells #[.slice A1 y.length c1] 22)) _ _ _ _ _ from own_keep ho fun k hk => hal.block k (own_lt ho hk))
          have HS := Lib.hid hS
          have HR := Lib.hid (fun i x u h1 h2 => (hr i x u h1 h2).below hal)
          have HU := Lib.hid ((f1.1.1.below hal).sub (T := fun b => w_2.heap.size ≤ b ∧ (Value.slice Aa R.length ca).ownBlock ≠ some b) fun b hb _ => ⟨Nat.le_trans hMz hb.1, fun e => by have := HOWN.out b e; omega⟩)
          have HS2 := Lib.hid (Cs.of_new w1 22 (size := 1) 1 (cs := [.slice A1 y.length c1]) rfl (by simp only [maxLen]; decide))
          have H63 := Lib.hid (show R.length + 1 ≤ maxLen ∧ (R.length + 1) * 24 ≤ 140737488355328 from by have := HRL.out; refine ⟨by simp only [maxLen]; omega, by omega⟩)
          have HF2 := Lib.hid f1.2
          clear ho hS hr hal f1 hy
          go_wp2_with (at_builtin; refine wpList_app _ rfl _ _ _ rfl Tryz.underlying121 info_row rfl (by decide) HO.out rfl HS2.out rfl (by simp [Value.oneCell']) H63.out.1 H63.out.2 ?_; intro v3 w3 ho3 hg3 hnil3 hat3; clear hnil3; have HO3 := Lib.hid ho3; clear ho3; have HG3 := Lib.hid hg3; clear hg3; have HAT3 := Lib.hid hat3; clear hat3)
          have hzz := HAL.out.size
          have hz3 := HG3.out.size
          have hpush := Bss.push HO.out HS.out HR.out HU.out HO3.out HG3.out HAT3.out (by have := hb1.size; omega)
          rw [← HN.out] at hpush
          have hbA : Below w.heap.size w (w1.alloc (.cells #[.slice A1 y.length c1] 22)) := hb1.trans (HAL.out.mono hb1.size)
          have hbw3 := HF2.out.trans (HAL.out.mono hsz1)
          refine ⟨⟨k + 1, by omega, by push_cast; rfl, hpush, hbA.trans (HG3.out.below hbA.size fun b h => by have h1 := HS.out b h; have h2 := HBOX.out.lt; omega), by omega, (HBOX.out.below hbw3 HBOX.out.lt).chg HG3.out fun h => by have h1 := HS.out _ h; have h2 := hMb; omega, (HP2.out.below hbw3).chg HG3.out fun b hb h => by have := HS.out b h; omega⟩, ?_⟩
          simp only [intOf]
          omega
        · have hk' : k = (List.length (α := (tTx).El) x3) := by omega
          rw [hk', List.take_length] at hB
          have hsm : ∀ x ∈ List.map (tTx).enc x3, x.length ≤ 140737488355328 := fun x hx => by
            have h1 := joinP_mem hx
            have h2 := HE3.out
            have h3 : ((Sh.list tTx).enc x3).length = 8 + (joinP (List.map (tTx).enc x3)).length := joinB_length _
            omega
          have hEJ3 := HEJ3.out
          obtain ⟨R3m, hR3m⟩ : ∃ R, R = List.map (tTx).enc x3 := ⟨_, rfl⟩
          rw [← hR3m] at hB hsm hEJ3
          have HRm3 := Lib.hid hR3m
          have HEK3 := Lib.hid hEJ3
          clear hR3m hEJ3
          have V3 := Lib.hid (((hB.read hsm).lt_ (T := fun _ => True) fun _ _ => trivial).subs (T := fun b => b < wr.heap.size) fun b hb _ => hb.2)
          obtain ⟨Ao3, co3, rfl⟩ := hB.form
          have hbc3 := (HF.out wr hbox).2.2.2.1
          have V2 := Lib.hid (hp2.subs (T := fun b => b < wr.heap.size) fun b hb _ => ltle hb hMz)
          clear hB hsm hp2
          obtain ⟨w_3, hw_3⟩ : ∃ w', w' = wr := ⟨_, rfl⟩
          subst hw_3
          have HBX3 := Lib.hid hbox; have hmb3 := hbox.lt; clear hbox
          go_wp2_with fail
          clear hlt hk hk'
          have hsz := HBX3.out.lt
          have hb0 : Blk w_3.drew w.heap.size 83 C.toArray := HBX3.out.drew
          have hbw : Below w.heap.size w w_3.drew := (hbl).drew
          refine wp_region_hoist [0, 1, 3, 4, 6, 8, 10, 11] [2, 5, 7, 9, 12] [13, 14, 15] (fun w' => Blk w' w.heap.size 83 C.toArray)
            (by kernel_rfl) (by kernel_rfl) (by kernel_rfl) (by kernel_rfl) (by kernel_rfl) (by kernel_rfl) hb0 ?_
          (refine HoistK.yes (by rfl) (by kernel_rfl) ⟨?_, fun w' hSw => ?_, ?_⟩; rotate_left; (· go_simp; try with_reducible rfl); simp only [Act.put, setIfInBounds_toArray, getElem_toArray, getElem_cons_zero, set_cons_succ, set_cons_zero])
          (refine HoistK.load (by rfl) (by kernel_rfl) 38 _ rfl w.heap.size 0 rfl (y0) _ (fun w' hw => (HF.out w' hw).1) Tryz.underlying38 rfl (by rw [L0.out]; kernel_rfl) ?_; simp only [Act.put, setIfInBounds_toArray, getElem_toArray, getElem_cons_succ, getElem_cons_zero, set_cons_succ, set_cons_zero])
          (refine HoistK.yes (by rfl) (by kernel_rfl) ⟨?_, fun w' hSw => ?_, ?_⟩; rotate_left; (· go_simp; try with_reducible rfl); simp only [Act.put, setIfInBounds_toArray, getElem_toArray, getElem_cons_succ, getElem_cons_zero, set_cons_succ, set_cons_zero])
          (refine HoistK.load (by rfl) (by kernel_rfl) 46 _ rfl w.heap.size 101 rfl (y1) _ (fun w' hw => (HF.out w' hw).2.1) Tryz.underlying46 rfl (by rw [L1.out]; kernel_rfl) ?_; simp only [Act.put, setIfInBounds_toArray, getElem_toArray, getElem_cons_succ, getElem_cons_zero, set_cons_succ, set_cons_zero])
          iterate 3 (refine HoistK.yes (by rfl) (by kernel_rfl) ⟨?_, fun w' hSw => ?_, ?_⟩; rotate_left; (· go_simp; try with_reducible rfl); simp only [Act.put, setIfInBounds_toArray, getElem_toArray, getElem_cons_succ, getElem_cons_zero, set_cons_succ, set_cons_zero])
          (refine HoistK.load (by rfl) (by kernel_rfl) 81 _ rfl w.heap.size 140 rfl (y4) _ (fun w' hw => (HF.out w' hw).2.2.2.2) Tryz.underlying81 rfl (by rw [L4.out]; kernel_rfl) ?_; simp only [Act.put, setIfInBounds_toArray, getElem_toArray, getElem_cons_succ, getElem_cons_zero, set_cons_succ, set_cons_zero])
          refine HoistK.nil_ ?_
          simp only [opsAt, filterMap_cons, filterMap_nil, getElem?_toArray, getElem?_cons_succ, getElem?_cons_zero]
          have g0 : Got w_3.drew w_3.drew [] [] := Got.start (Below.refl _ _)
          refine Effects.cons_ fun _ hQ1 => ?_
          go_wp2_with fail
          refine (rHeader_any _ (Sh.rep_below R0.out (hbw.trans (g0.1.mono hbw.size))) (by have h1 := HLL.out; rw [joinB_length] at h1; have h2 := joinP_mem (l := [tHeader.enc x0, tQC.enc x1, (Sh.list tCommit).enc x2, (Sh.list tTx).enc x3, tSig.enc x4]) (x := tHeader.enc x0) (by simp); omega)).mono ?_
          rintro e u1 ⟨v1, rfl, f1⟩
          have g1 := g0.step f1
          have hb1 := hb0.below f1.2 hb0.lt
          clear f1
          go_wp2_with fail
          refine hQ1 _ _ hb1 (Effects.cons_ fun _ hQ2 => ?_)
          clear hQ1 hb0 g0
          go_wp2_with fail
          refine (rQC_any _ (Sh.rep_below R1.out (hbw.trans (g1.1.mono hbw.size))) (by have h1 := HLL.out; rw [joinB_length] at h1; have h2 := joinP_mem (l := [tHeader.enc x0, tQC.enc x1, (Sh.list tCommit).enc x2, (Sh.list tTx).enc x3, tSig.enc x4]) (x := tQC.enc x1) (by simp); omega)).mono ?_
          rintro e u2 ⟨v2, rfl, f2⟩
          have g2 := g1.step f2
          have hb2 := hb1.below f2.2 hb1.lt
          clear f2
          go_wp2_with fail
          refine hQ2 _ _ hb2 (Effects.cons_ fun _ hQ3 => ?_)
          clear hQ2 hb1 g1
          go_wp2_with fail
          refine (rJoin_any _ (V2.out.drew_.below g2.1) HEK2.out (fun b hb => ltle hb g2.1.size)).mono ?_
          rintro e u3 ⟨v3, rfl, f3⟩
          rw [HRm2.out] at f3
          have f3 : Fresh _ _ _ ((Sh.list tCommit).enc x2) := f3
          have g3 := g2.step f3
          have hb3 := hb2.below f3.2 hb2.lt
          clear f3
          go_wp2_with fail
          refine hQ3 _ _ hb3 (Effects.cons_ fun _ hQ4 => ?_)
          clear hQ3 hb2 g2
          go_wp2_with fail
          refine (rJoin_any _ (V3.out.drew_.below g3.1) HEK3.out (fun b hb => ltle hb g3.1.size)).mono ?_
          rintro e u4 ⟨v4, rfl, f4⟩
          rw [HRm3.out] at f4
          have f4 : Fresh _ _ _ ((Sh.list tTx).enc x3) := f4
          have g4 := g3.step f4
          have hb4 := hb3.below f4.2 hb3.lt
          clear f4
          go_wp2_with fail
          refine hQ4 _ _ hb4 (Effects.cons_ fun _ hQ5 => ?_)
          clear hQ4 hb3 g3
          go_wp2_with fail
          refine (rSig_any _ (Sh.rep_below R4.out (hbw.trans (g4.1.mono hbw.size))) (by have h1 := HLL.out; rw [joinB_length] at h1; have h2 := joinP_mem (l := [tHeader.enc x0, tQC.enc x1, (Sh.list tCommit).enc x2, (Sh.list tTx).enc x3, tSig.enc x4]) (x := tSig.enc x4) (by simp); omega)).mono ?_
          rintro e u5 ⟨v5, rfl, f5⟩
          have g5 := g4.step f5
          have hb5 := hb4.below f5.2 hb4.lt
          clear f5
          go_wp2_with fail
          refine hQ5 _ _ hb5 (Effects.nil_ fun _ hQ6 => ?_)
          clear hQ5 hb4 g4
          have hcs : ∀ v ∈ [v1, v2, v3, v4, v5], v.cells = #[v] := fun v hv => by
            obtain ⟨i, hi, rfl⟩ := List.getElem_of_mem hv
            obtain ⟨y, _, hr⟩ := g5.2.get i hi
            obtain ⟨A, c, e⟩ := hr.form
            have e' : [v1, v2, v3, v4, v5][i] = .slice A y.length c := e
            rw [e']; rfl
          refine wpList_rows rfl 5 _ rfl [v1, v2, v3, v4, v5] rfl (by decide) (by decide) hcs (by simp [Act.eval]) ?_
          have hr : Bsr (u5.alloc (.cells [v1, v2, v3, v4, v5].toArray 22)) (fun b => b < u5.heap.size + 1) (.slice (some ⟨u5.heap.size, 0, none⟩) 5 5) [tHeader.enc x0, tQC.enc x1, (Sh.list tCommit).enc x2, (Sh.list tTx).enc x3, tSig.enc x4] := g5.row (by simp [maxLen]) 22
          have hj := rJoin_any _ hr (by have := HLL.out; omega) (fun b hb => by simpa using hb)
          have hbb : Below w.heap.size w (u5.alloc (.cells [v1, v2, v3, v4, v5].toArray 22)) := (hbw.trans (g5.1.mono hbw.size)).alloc (hbw.trans (g5.1.mono hbw.size)).size _
          have HJ := Lib.hid hj
          have HBB := Lib.hid hbb
          clear hj hbb hr g5 hcs
          go_wp2_with fail
          refine HJ.out.mono ?_
          rintro e uz ⟨vz, rfl, fz⟩
          go_wp2_with fail
          go_ret
          exact ⟨vz, rfl, fz.1.sub fun b hb _ => ⟨Nat.le_trans HBB.out.size hb.1, hb.2⟩, HBB.out.trans (fz.2.mono HBB.out.size)⟩
end
section
open Go.RowKit Go.Maps
attribute [-simp] Tryz.isAgg36 Tryz.typeInfo36 Tryz.isAgg38 Tryz.typeInfo38 Tryz.isAgg46 Tryz.typeInfo46 Tryz.isAgg54 Tryz.typeInfo54 Tryz.isAgg72 Tryz.typeInfo72 Tryz.isAgg81 Tryz.typeInfo81 Tryz.isAgg83 Tryz.typeInfo83
def zrBlock : List Value := (zrHeader ++ (zrQC ++ (([.slice none 0 0] : List Value) ++ (([.slice none 0 0] : List Value) ++ (zrSig ++ ([] : List Value))))))
set_option maxRecDepth 100000 in
theorem zrBlock_one : ∀ v ∈ zrBlock, v.oneCell' = true := by decide
theorem zrBlock_len : zrBlock.length = 173 := by kernel_rfl
theorem zrBlock_size : (Tryz.prog.info? 83).map (·.size) = some zrBlock.length := by kernel_rfl
theorem zrBlock_sizes : (Tryz.prog.info? 83).map (fun i => (i.zero.map (fun z => z.cells.size), i.size)) = some (some 173, 173) := by kernel_rfl
theorem zrBlock_info : (Tryz.prog.info? 83).map (fun i => (i.zero, i.size, i.bytes)) = some (some (.agg zrBlock.toArray), 173, 328) := by kernel_rfl
theorem zrBlock_sized {C : List Value} (h : C.length = 173) : (Tryz.prog.info? 83).map (·.size) = some C.length := by rw [h]; kernel_rfl
set_option maxHeartbeats 8000000 in
set_option maxRecDepth 100000 in
theorem rReadBlock_any (w : World) {S : Nat → Prop} {v : Value} {bs : List UInt8} (h : Bs w S v bs) (hlen : bs.length ≤ 1099511627776) :
    Calls Tryz.prog 26 #[v] w (RefOutZ tBlock zrBlock w bs) := by
  have hal := (Below.refl w.heap.size w).alloc (Nat.le_refl _) (.cells zrBlock.toArray 83)
  have HS := Lib.hid (rsplit_any _ (h.below hal) hlen)
  have HR := Lib.hid (Blk.new w 83 zrBlock.toArray)
  have HAL := Lib.hid hal
  have HLEN := Lib.hid hlen
  obtain ⟨A, cap, rfl⟩ := h.form
  clear h hal hlen
  go_enter Tryz.func26, Tryz.ntmps26
  go_wp2_with fail
  refine HS.out.mono ?_
  rintro e w1 ⟨hb1, hsp⟩
  have HR1 := Lib.hid (HR.out.below hb1 HR.out.lt)
  have HB1 := Lib.hid (HAL.out.trans (hb1.mono HAL.out.size))
  have hz01 : w.heap.size + 1 ≤ w1.heap.size := by have := hb1.size; simpa using this
  clear HR HAL HS hb1
  rcases hsp with ⟨hno, rfl⟩ | ⟨v1, l, hsp, rfl, hbss⟩
  · have HNO := Lib.hid (show Sh.dec tBlock bs = none from by
      show (match splitB bs with | none => none | some l => Fs.decs _ l) = none
      rw [hno])
    have HRR := Lib.hid HR1.out
    have HB0 := Lib.hid HB1.out
    clear hno HR1 HB1
    go_wp2_with (refine wpList_store_blk (cs0 := zrBlock) (cs := zrBlock) rfl 83 _ _ rfl HRR.out rfl rfl rfl zrBlock_size zrBlock_one ?_; intro w9 hb9 hc9; have HB9 := Lib.hid hb9; have HC9 := Lib.hid hc9; clear hb9 hc9)
    have hld := run_loadVar_mid (P := Tryz.prog) w9 w.heap.size 0 83 zrBlock _ HB9.out.range Tryz.underlying83 rfl zrBlock_size
    refine bodyPost_ret (v := .tuple #[.agg (zrBlock).toArray, .bool false]) (by simp [results, Tryz.results26, asAddr, hld]) rfl ?_
    exact ⟨HB0.out.trans (HC9.out.below HB0.out.size fun b h => Nat.le_of_eq h.symm), _, true, rfl, ⟨zrBlock_len, zrBlock_one, .inr ⟨HNO.out, rfl⟩⟩, fun _ => rfl⟩
  by_cases hln : l.length = 5
  rotate_left
  · have HNO := Lib.hid (show Sh.dec tBlock bs = none from by
      show (match splitB bs with | none => none | some l => Fs.decs _ l) = none
      rw [hsp]
      cases hd : Fs.decs (.cons tHeader (.cons tQC (.cons (.list tCommit) (.cons (.list tTx) (.cons tSig .nil))))) l with
      | none => exact hd
      | some x => exact absurd (Fs.decs_len _ l x hd) hln)
    have HRR := Lib.hid HR1.out
    have HB0 := Lib.hid HB1.out
    obtain ⟨A1, c1, rfl⟩ := hbss.form
    have hlI : ¬ (l.length : Int) = 5 := by omega
    clear hsp HR1 HB1 hbss
    go_wp2_with (refine wpList_store_blk (cs0 := zrBlock) (cs := zrBlock) rfl 83 _ _ rfl HRR.out rfl rfl rfl zrBlock_size zrBlock_one ?_; intro w9 hb9 hc9; have HB9 := Lib.hid hb9; have HC9 := Lib.hid hc9; clear hb9 hc9)
    have hld := run_loadVar_mid (P := Tryz.prog) w9 w.heap.size 0 83 zrBlock _ HB9.out.range Tryz.underlying83 rfl zrBlock_size
    refine bodyPost_ret (v := .tuple #[.agg (zrBlock).toArray, .bool false]) (by simp [results, Tryz.results26, asAddr, hld]) rfl ?_
    exact ⟨HB0.out.trans (HC9.out.below HB0.out.size fun b h => Nat.le_of_eq h.symm), _, true, rfl, ⟨zrBlock_len, zrBlock_one, .inr ⟨HNO.out, rfl⟩⟩, fun _ => rfl⟩
  have HSP := Lib.hid hsp
  have hrl : ∀ y ∈ l, y.length ≤ 1099511627776 := fun y hy => Nat.le_trans (joinP_mem_le hsp y hy) HLEN.out
  obtain ⟨A1, c1, rfl⟩ := hbss.form
  have hall := Bsr.all (hbss.read fun y hy => by have := hrl y hy; omega) (by omega)
  obtain ⟨r0, r1, r2, r3, r4, rfl⟩ : ∃ r0 r1 r2 r3 r4, l = [r0, r1, r2, r3, r4] := by
    match l, hln with
    | [r0, r1, r2, r3, r4], _ => exact ⟨r0, r1, r2, r3, r4, rfl⟩
  have HRL := Lib.hid hrl
  obtain ⟨ba, oa, rfl, _, hba, hall⟩ := hall
  obtain ⟨A_0, c_0, hc_0, hr_0⟩ := hall 0 r0 rfl
  have HC_0 := Lib.hid hc_0
  have HR_0 := Lib.hid (hr_0.sub (T := fun b => b < w1.heap.size) fun _ _ h => h)
  obtain ⟨A_1, c_1, hc_1, hr_1⟩ := hall 1 r1 rfl
  have HC_1 := Lib.hid hc_1
  have HR_1 := Lib.hid (hr_1.sub (T := fun b => b < w1.heap.size) fun _ _ h => h)
  obtain ⟨A_2, c_2, hc_2, hr_2⟩ := hall 2 r2 rfl
  have HC_2 := Lib.hid hc_2
  have HR_2 := Lib.hid (hr_2.sub (T := fun b => b < w1.heap.size) fun _ _ h => h)
  obtain ⟨A_3, c_3, hc_3, hr_3⟩ := hall 3 r3 rfl
  have HC_3 := Lib.hid hc_3
  have HR_3 := Lib.hid (hr_3.sub (T := fun b => b < w1.heap.size) fun _ _ h => h)
  obtain ⟨A_4, c_4, hc_4, hr_4⟩ := hall 4 r4 rfl
  have HC_4 := Lib.hid hc_4
  have HR_4 := Lib.hid (hr_4.sub (T := fun b => b < w1.heap.size) fun _ _ h => h)
  clear hall hbss hsp hrl hln hc_0 hr_0 hc_1 hr_1 hc_2 hr_2 hc_3 hr_3 hc_4 hr_4
  go_wp2_with (refine wpList_store_blk (cs0 := zrBlock) (cs := zrBlock) rfl 83 _ _ rfl (Blk.new w1 _ _) rfl rfl rfl zrBlock_size zrBlock_one ?_; intro w2 hb2 hc2; have HX2 := Lib.hid (show Blk w2 w1.heap.size 83 (([] : List Value) ++ (zrHeader ++ (zrQC ++ (([.slice none 0 0] : List Value) ++ (([.slice none 0 0] : List Value) ++ (zrSig ++ ([] : List Value))))))).toArray from hb2); have HP2 := Lib.hid (show Chg (fun b => b = w1.heap.size) w1 w2 from ((Chg.refl _ w1).alloc _).trans hc2 fun b h => .inl h); have hz2 : w1.heap.size + 1 ≤ w2.heap.size := (by have := hb2.lt; omega); have hcl0 : w2.cell? ⟨ba, oa, none⟩ = some (.slice A_0 r0.length c_0) := (World.cell?_of_block (a := ⟨ba, oa, none⟩) (HP2.out.block ba hba (fun e => by have e : ba = w1.heap.size := e; omega))).trans HC_0.out; clear hb2 hc2)
  refine (rReadHeader_any _ (HR_0.out.chg HP2.out fun b hb h => by have h : b = w1.heap.size := h; omega) (HRL.out _ (by simp))).mono ?_
  rintro e wa0 ⟨hba0, q0, g0, rfl, hs0, _⟩
  have hl0 : q0.length = 101 := hs0.1
  have HL0 := Lib.hid hl0
  have H10 := Lib.hid hs0.2.1
  have HI0 := Lib.hid (zrHeader_sized hl0)
  have HZ0 := Lib.hid (show (zrHeader).length = q0.length from by rw [hl0]; exact zrHeader_len)
  have HXa0 := Lib.hid (HX2.out.below hba0 HX2.out.lt)
  have HBA0 := Lib.hid hba0
  have HS0 := Lib.hid hs0
  have hza0 := hba0.size
  clear hba0 hs0 hl0 hcl0
  have HPL0 := Lib.hid (show (([] : List Value)).length = 0 from by simp)
  go_simp
  repeat (first
    | (go_big_may; refine wpList_store_blk (cs0 := zrHeader) (cs := q0) rfl 38 _ _ rfl (Blk.new wa0 _ _) rfl rfl HZ0.out HI0.out H10.out ?_; intro wb0 hbb hcb; have HBB0 := Lib.hid hbb; have HCB0 := Lib.hid (show Chg (fun _ => False) wa0 wb0 from ((Chg.refl _ wa0).alloc _).trans hcb fun b h => .inr (Nat.le_of_eq h.symm)); have HXb0 := Lib.hid (HXa0.out.chg HCB0.out id); clear hbb hcb)
    | (go_big_may; refine wpList_load_blk' rfl 38 _ rfl HBB0.out rfl Tryz.underlying38 rfl HI0.out ?_)
    | (go_big_may; refine wpList_store_part (pre := ([] : List Value)) (old := zrHeader) (vals := q0) (post := (zrQC ++ (([.slice none 0 0] : List Value) ++ (([.slice none 0 0] : List Value) ++ (zrSig ++ ([] : List Value)))))) rfl 38 _ _ rfl HXb0.out HPL0.out rfl (v := .agg q0.toArray) rfl rfl HZ0.out HI0.out H10.out ?_; intro w3 hbn hcn; have HX3 := Lib.hid hbn; have HC2 := Lib.hid (show Chg (fun b => b = w1.heap.size) w2 w3 from (((Chg.of_below HBA0.out fun b => b = w1.heap.size).trans HCB0.out fun b h => h.elim).trans hcn fun b h => .inl h)); have HCD0 := Lib.hid (show Chg (fun b => b = w1.heap.size) wa0 w3 from (HCB0.out.mono (M' := fun b => b = w1.heap.size) fun _ h => h.elim).trans hcn fun b h => .inl h); have HP3 := Lib.hid (HP2.out.trans HC2.out fun b h => .inl h); have hz3 := Nat.le_trans hz2 HC2.out.size; have hcl1 : w3.cell? ⟨ba, oa + 1, none⟩ = some (.slice A_1 r1.length c_1) := (World.cell?_of_block (a := ⟨ba, oa + 1, none⟩) (HP3.out.block ba hba (fun e => by have e : ba = w1.heap.size := e; omega))).trans HC_1.out; clear hbn hcn)
    | go_values | go_skip | go_guarded | go_step | go_upon)
  refine (rReadQC_any _ (HR_1.out.chg HP3.out fun b hb h => by have h : b = w1.heap.size := h; omega) (HRL.out _ (by simp))).mono ?_
  rintro e wa1 ⟨hba1, q1, g1, rfl, hs1, _⟩
  have hl1 : q1.length = 37 := hs1.1
  have HL1 := Lib.hid hl1
  have H11 := Lib.hid hs1.2.1
  have HI1 := Lib.hid (zrQC_sized hl1)
  have HZ1 := Lib.hid (show (zrQC).length = q1.length from by rw [hl1]; exact zrQC_len)
  have HXa1 := Lib.hid (HX3.out.below hba1 HX3.out.lt)
  have HBA1 := Lib.hid hba1
  have HS1 := Lib.hid hs1
  have hza1 := hba1.size
  clear hba1 hs1 hl1 hcl1
  have HPL1 := Lib.hid (show ((([] : List Value) ++ q0)).length = 101 from by simp [HL0.out])
  go_simp
  repeat (first
    | ((with_reducible (show wpList _ _ _ (⟨_, .move _, _, _, _, some _⟩ :: _) _ _)); refine wpList_and g0 g1 _ _ _ rfl rfl rfl (by cases g0 <;> rfl) rfl (fun _ => rfl) (fun _ => rfl) ?_; intro vA1 k1 hk1; have HK1 := Lib.hid hk1; clear hk1)
    | (go_big_may; refine wpList_store_blk (cs0 := zrQC) (cs := q1) rfl 46 _ _ rfl (Blk.new wa1 _ _) rfl rfl HZ1.out HI1.out H11.out ?_; intro wb1 hbb hcb; have HBB1 := Lib.hid hbb; have HCB1 := Lib.hid (show Chg (fun _ => False) wa1 wb1 from ((Chg.refl _ wa1).alloc _).trans hcb fun b h => .inr (Nat.le_of_eq h.symm)); have HXb1 := Lib.hid (HXa1.out.chg HCB1.out id); clear hbb hcb)
    | (go_big_may; refine wpList_load_blk' rfl 46 _ rfl HBB1.out rfl Tryz.underlying46 rfl HI1.out ?_)
    | (go_big_may; refine wpList_store_part (pre := (([] : List Value) ++ q0)) (old := zrQC) (vals := q1) (post := (([.slice none 0 0] : List Value) ++ (([.slice none 0 0] : List Value) ++ (zrSig ++ ([] : List Value))))) rfl 46 _ _ rfl HXb1.out HPL1.out rfl (v := .agg q1.toArray) rfl rfl HZ1.out HI1.out H11.out ?_; intro w4 hbn hcn; have HX4 := Lib.hid hbn; have HC3 := Lib.hid (show Chg (fun b => b = w1.heap.size) w3 w4 from (((Chg.of_below HBA1.out fun b => b = w1.heap.size).trans HCB1.out fun b h => h.elim).trans hcn fun b h => .inl h)); have HCD1 := Lib.hid (show Chg (fun b => b = w1.heap.size) wa1 w4 from (HCB1.out.mono (M' := fun b => b = w1.heap.size) fun _ h => h.elim).trans hcn fun b h => .inl h); have HP4 := Lib.hid (HP3.out.trans HC3.out fun b h => .inl h); have hz4 := Nat.le_trans hz3 HC3.out.size; have hcl2 : w4.cell? ⟨ba, oa + 2, none⟩ = some (.slice A_2 r2.length c_2) := (World.cell?_of_block (a := ⟨ba, oa + 2, none⟩) (HP4.out.block ba hba (fun e => by have e : ba = w1.heap.size := e; omega))).trans HC_2.out; clear hbn hcn)
    | go_values | go_skip | go_guarded | go_step | go_upon)
  refine (rsplit_one _ (HR_2.out.chg HP4.out fun b hb h => by have h : b = w1.heap.size := h; omega) (HRL.out _ (by simp))).mono ?_
  rintro e ws2 ⟨hbs2, As2, cs2, l2, g2, rfl, hbss2, hll2, hrl2, hsp2⟩
  have HXS2 := Lib.hid (HX4.out.below hbs2 HX4.out.lt)
  have HPS2 := Lib.hid (HP4.out.trans (Chg.of_below hbs2 fun b => b = w1.heap.size) fun b h => .inl h)
  have hzs2 := Nat.le_trans hz4 hbs2.size
  have hzt2 := hbs2.size
  have HROW2 := Lib.hid ((hbss2.read fun y hy => by have := hrl2 y hy; omega).subs (T := fun b => b ≠ w1.heap.size) fun b hb _ => by have hb : w4.heap.size ≤ b := hb.elim id id; omega)
  have HSPL2 := Lib.hid hsp2
  have HRLL2 := Lib.hid hrl2
  have HBS2 := Lib.hid hbs2
  have HPL2 := Lib.hid (show (((([] : List Value) ++ q0) ++ q1)).length = 138 from by simp [HL0.out, HL1.out])
  clear hbs2 hbss2 hrl2 hsp2 hcl2
  go_simp
  repeat (first
    | ((with_reducible (show wpList _ _ _ (⟨_, .move _, _, _, _, some _⟩ :: _) _ _)); refine wpList_and k1 g2 _ _ _ rfl rfl rfl (by cases k1 <;> rfl) rfl (fun _ => rfl) (fun _ => rfl) ?_; intro vA2 k2 hk2; have HK2 := Lib.hid hk2; clear hk2)
    | go_values | go_skip | go_guarded | go_step | go_upon)
  go_loopw [7, 14] (fun a i wr => ∃ (k : Nat) (c : Bool) (o : Value), k ≤ l2.length ∧ i = .int .i64 k ∧ a = .bool (!c) ∧ Hid (RefI 54 38 tCommit ws2 w1.heap.size 83 ((([] : List Value) ++ q0) ++ q1) (([.slice none 0 0] : List Value) ++ (zrSig ++ ([] : List Value))) l2 k2 o k c wr)) (fun _ i _ => l2.length - (intOf i).toNat)
  case atStart => exact ⟨0, k2, _, Nat.zero_le _, rfl, rfl, Lib.hid (RefI.start HXS2.out)⟩
  case round =>
    obtain ⟨k, kc2, o2, hk, rfl, rfl, HI⟩ := hrel
    by_cases hlt : k < l2.length
    · obtain ⟨css, hown, hob, hlo, hbx, hch⟩ := HI.out
      obtain ⟨bm, om, hAm, hTm, hbm, hallm⟩ := Bsr.all HROW2.out (by omega)
      subst hAm
      obtain ⟨Ay, cy, hcy, hyb⟩ := hallm k l2[k] (List.getElem?_eq_getElem hlt)
      have hcyw : wr.cell? ⟨bm, om + k, none⟩ = some (.slice Ay l2[k].length cy) := (World.cell?_of_block (a := ⟨bm, om + k, none⟩) (hch.block bm hbm (fun e => hTm e))).trans hcy
      have htk : l2.take (k + 1) = l2.take k ++ [l2[k]] := List.take_succ_eq_append_getElem hlt
      have hyl := HRLL2.out l2[k] (List.getElem_mem hlt)
      have hyb2 := hyb.chg hch fun b hb h => hb h
      obtain ⟨y, hy⟩ : ∃ y, y = l2[k] := ⟨_, rfl⟩
      rw [← hy] at hcyw htk hyl hyb2
      have HR := Lib.hid (rReadCommit_any wr hyb2 hyl)
      obtain ⟨Ao, co, rfl⟩ := hown.form
      have HOWN := Lib.hid hown
      have HOB := Lib.hid hob
      have HLO := Lib.hid hlo
      have HCH := Lib.hid hch
      have HTK := Lib.hid htk
      have HBX := Lib.hid hbx
      have H63 := Lib.hid (show k + 1 ≤ maxLen ∧ (k + 1) * 128 ≤ 140737488355328 from ⟨by simp only [maxLen]; omega, by omega⟩)
      have hzr := hch.size
      clear hown hob hlo hch htk hbx hyl hy hyb hyb2 hcy hallm hTm hbm HI
      go_wp2_with fail
      refine HR.out.mono ?_
      rintro e wa ⟨hba, q, g, rfl, hs, _⟩
      have hl : q.length = 38 := hs.1
      have HL := Lib.hid hl
      have H1 := Lib.hid hs.2.1
      have HIq := Lib.hid (zrCommit_sized hl)
      have HIq2 := Lib.hid (show (Tryz.prog.info? 54).map (fun i => (i.zero.map (fun z => z.cells.size), i.size)) = some (some q.length, q.length) from by rw [hl]; exact zrCommit_sizes)
      have HZ := Lib.hid (show (zrCommit).length = q.length from by rw [hl]; exact zrCommit_len)
      have HXa := Lib.hid (HBX.out.below hba HBX.out.lt)
      have HBA := Lib.hid hba
      have HSQ := Lib.hid hs
      have hza := hba.size
      clear hba hs hl hcyw HR
      go_simp
      repeat (first
        | (go_big_may; refine wpList_store_blk (cs0 := zrCommit) (cs := q) rfl 54 _ _ rfl (Blk.new wa _ _) rfl rfl HZ.out HIq.out H1.out ?_; intro wb hbb hcb; have HBB := Lib.hid hbb; have HCB := Lib.hid (show Chg (fun _ => False) wa wb from ((Chg.refl _ wa).alloc _).trans hcb fun b h => .inr (Nat.le_of_eq h.symm)); have HXb := Lib.hid (HXa.out.chg HCB.out id); have hco : wb.cell? ⟨w1.heap.size, 138, none⟩ = some (.slice Ao k co) := blk_mid HXb.out HPL2.out; have HO2 := Lib.hid (show ∀ ob, Own (wb.alloc ob) 54 38 (.slice Ao k co) k css.flatten from fun ob => own_keep HOWN.out fun b hb => (Below.heap_alloc wb ob b (ltle (ltle (own_lt HOWN.out hb) HBA.out.size) HCB.out.size)).trans ((HCB.out.block b (ltle (own_lt HOWN.out hb) HBA.out.size) id).trans (HBA.out.block b (own_lt HOWN.out hb)))); have HS2 := Lib.hid (Cs.of_new wb 54 (size := 38) 1 (cs := q) (by rw [HL.out]) (by simp only [maxLen]; decide)); clear hbb hcb)
        | (go_big_may; refine wpList_load_blk' rfl 54 _ rfl HBB.out rfl Tryz.underlying54 rfl HIq.out ?_)
        | (go_big_may; refine wpList_row1 rfl 78 54 _ rfl Tryz.underlying78 (.agg q.toArray) rfl q rfl HIq2.out (by rw [HL.out]; decide) (by rw [HL.out]; decide) ?_)
        | (go_big_may; at_builtin; refine wpList_app _ rfl _ _ _ rfl Tryz.underlying78 zrCommit_info rfl (by decide) (HO2.out _) rfl HS2.out rfl H1.out H63.out.1 H63.out.2 ?_; intro v6 w6 ho6 hc6 hnil6 hat6; clear hnil6; obtain ⟨A6, c6, rfl⟩ := ho6.form; have HX6 := Lib.hid (Blk.assoc_ ((HXb.out.alloc _).chg hc6 fun h => by have := HOB.out _ h; omega)); have HO6 := Lib.hid ho6; have HC6 := Lib.hid hc6; have HAT6 := Lib.hid hat6; clear ho6 hc6 hat6)
        | (go_big_may; refine wpList_store_part (pre := ((([] : List Value) ++ q0) ++ q1)) (old := ([.slice Ao k co] : List Value)) (vals := ([.slice A6 (k + 1) c6] : List Value)) (post := (([.slice none 0 0] : List Value) ++ (zrSig ++ ([] : List Value)))) rfl 78 _ _ rfl HX6.out HPL2.out rfl (v := .slice A6 (k + 1) c6) rfl rfl (by simp only [List.length_cons, List.length_nil]) (by kernel_rfl) (fun u hu => by obtain rfl := List.mem_singleton.1 hu; rfl) ?_; intro w7 hx7 hc7; have HX7 := Lib.hid hx7; have HC7 := Lib.hid hc7; clear hx7 hc7)
        | ((with_reducible (show wpList _ _ _ (⟨_, .move _, _, _, _, some _⟩ :: _) _ _)); refine wpList_and kc2 g _ _ _ rfl rfl rfl (by cases kc2 <;> rfl) rfl (fun _ => rfl) (fun _ => rfl) ?_; intro vA cN hcN; have HCN := Lib.hid hcN; clear hcN)
        | go_values | go_skip | go_guarded | go_step | go_upon)
      go_wp2_with fail
      exact ⟨⟨k + 1, cN, _, by omega, by push_cast; rfl, rfl, Lib.hid (RefI.step (by omega) HOWN.out HOB.out HLO.out HCH.out HBA.out HSQ.out HCB.out HTK.out HO6.out HC6.out HAT6.out HX7.out HC7.out HCN.out)⟩, by simp only [intOf]; omega⟩
    · have hk' : k = l2.length := by omega
      subst hk'
      have HS2 := Lib.hid (HI.out.out rfl HSPL2.out HK2.out)
      obtain ⟨css, hown, _, _, hbx, hch⟩ := HI.out
      have HX5 := Lib.hid hbx
      have HC4 := Lib.hid (show Chg (fun b => b = w1.heap.size) w4 wr from (Chg.of_below HBS2.out fun b => b = w1.heap.size).trans hch fun b h => .inl h)
      clear hown hbx hch HI hk HXS2 HPS2 HROW2 HRLL2
      generalize wr = w5 at *
      have HPL2 := HPL2
      have HP5 := Lib.hid (HP4.out.trans HC4.out fun b h => .inl h)
      have hz5 := Nat.le_trans hz4 HC4.out.size
      have hcl3 : w5.cell? ⟨ba, oa + 3, none⟩ = some (.slice A_3 r3.length c_3) := (World.cell?_of_block (a := ⟨ba, oa + 3, none⟩) (HP5.out.block ba hba (fun e => by have e : ba = w1.heap.size := e; omega))).trans HC_3.out
      go_wp2_with fail
      refine (rsplit_one _ (HR_3.out.chg HP5.out fun b hb h => by have h : b = w1.heap.size := h; omega) (HRL.out _ (by simp))).mono ?_
      rintro e ws3 ⟨hbs3, As3, cs3, l3, g3, rfl, hbss3, hll3, hrl3, hsp3⟩
      have HXS3 := Lib.hid (HX5.out.below hbs3 HX5.out.lt)
      have HPS3 := Lib.hid (HP5.out.trans (Chg.of_below hbs3 fun b => b = w1.heap.size) fun b h => .inl h)
      have hzs3 := Nat.le_trans hz5 hbs3.size
      have hzt3 := hbs3.size
      have HROW3 := Lib.hid ((hbss3.read fun y hy => by have := hrl3 y hy; omega).subs (T := fun b => b ≠ w1.heap.size) fun b hb _ => by have hb : w5.heap.size ≤ b := hb.elim id id; omega)
      have HSPL3 := Lib.hid hsp3
      have HRLL3 := Lib.hid hrl3
      have HBS3 := Lib.hid hbs3
      have HPL3 := Lib.hid (show ((((([] : List Value) ++ q0) ++ q1) ++ ([o2] : List Value))).length = 139 from by simp [HL0.out, HL1.out])
      clear hbs3 hbss3 hrl3 hsp3 hcl3
      go_simp
      repeat (first
        | ((with_reducible (show wpList _ _ _ (⟨_, .move _, _, _, _, some _⟩ :: _) _ _)); refine wpList_and kc2 g3 _ _ _ rfl rfl rfl (by cases kc2 <;> rfl) rfl (fun _ => rfl) (fun _ => rfl) ?_; intro vA3 k3 hk3; have HK3 := Lib.hid hk3; clear hk3)
        | go_values | go_skip | go_guarded | go_step | go_upon)
      go_loopw [7, 19] (fun a i wr => ∃ (k : Nat) (c : Bool) (o : Value), k ≤ l3.length ∧ i = .int .i64 k ∧ a = .bool (!c) ∧ Hid (RefI 72 41 tTx ws3 w1.heap.size 83 (((([] : List Value) ++ q0) ++ q1) ++ ([o2] : List Value)) (zrSig ++ ([] : List Value)) l3 k3 o k c wr)) (fun _ i _ => l3.length - (intOf i).toNat)
      case atStart => exact ⟨0, k3, _, Nat.zero_le _, rfl, rfl, Lib.hid (RefI.start HXS3.out)⟩
      case round =>
        obtain ⟨k, kc3, o3, hk, rfl, rfl, HI⟩ := hrel
        by_cases hlt : k < l3.length
        · obtain ⟨css, hown, hob, hlo, hbx, hch⟩ := HI.out
          obtain ⟨bm, om, hAm, hTm, hbm, hallm⟩ := Bsr.all HROW3.out (by omega)
          subst hAm
          obtain ⟨Ay, cy, hcy, hyb⟩ := hallm k l3[k] (List.getElem?_eq_getElem hlt)
          have hcyw : wr.cell? ⟨bm, om + k, none⟩ = some (.slice Ay l3[k].length cy) := (World.cell?_of_block (a := ⟨bm, om + k, none⟩) (hch.block bm hbm (fun e => hTm e))).trans hcy
          have htk : l3.take (k + 1) = l3.take k ++ [l3[k]] := List.take_succ_eq_append_getElem hlt
          have hyl := HRLL3.out l3[k] (List.getElem_mem hlt)
          have hyb2 := hyb.chg hch fun b hb h => hb h
          obtain ⟨y, hy⟩ : ∃ y, y = l3[k] := ⟨_, rfl⟩
          rw [← hy] at hcyw htk hyl hyb2
          have HR := Lib.hid (rReadTx_any wr hyb2 hyl)
          obtain ⟨Ao, co, rfl⟩ := hown.form
          have HOWN := Lib.hid hown
          have HOB := Lib.hid hob
          have HLO := Lib.hid hlo
          have HCH := Lib.hid hch
          have HTK := Lib.hid htk
          have HBX := Lib.hid hbx
          have H63 := Lib.hid (show k + 1 ≤ maxLen ∧ (k + 1) * 120 ≤ 140737488355328 from ⟨by simp only [maxLen]; omega, by omega⟩)
          have hzr := hch.size
          clear hown hob hlo hch htk hbx hyl hy hyb hyb2 hcy hallm hTm hbm HI
          go_wp2_with fail
          refine HR.out.mono ?_
          rintro e wa ⟨hba, q, g, rfl, hs, _⟩
          have hl : q.length = 41 := hs.1
          have HL := Lib.hid hl
          have H1 := Lib.hid hs.2.1
          have HIq := Lib.hid (zrTx_sized hl)
          have HIq2 := Lib.hid (show (Tryz.prog.info? 72).map (fun i => (i.zero.map (fun z => z.cells.size), i.size)) = some (some q.length, q.length) from by rw [hl]; exact zrTx_sizes)
          have HZ := Lib.hid (show (zrTx).length = q.length from by rw [hl]; exact zrTx_len)
          have HXa := Lib.hid (HBX.out.below hba HBX.out.lt)
          have HBA := Lib.hid hba
          have HSQ := Lib.hid hs
          have hza := hba.size
          clear hba hs hl hcyw HR
          go_simp
          repeat (first
            | (go_big_may; refine wpList_store_blk (cs0 := zrTx) (cs := q) rfl 72 _ _ rfl (Blk.new wa _ _) rfl rfl HZ.out HIq.out H1.out ?_; intro wb hbb hcb; have HBB := Lib.hid hbb; have HCB := Lib.hid (show Chg (fun _ => False) wa wb from ((Chg.refl _ wa).alloc _).trans hcb fun b h => .inr (Nat.le_of_eq h.symm)); have HXb := Lib.hid (HXa.out.chg HCB.out id); have hco : wb.cell? ⟨w1.heap.size, 139, none⟩ = some (.slice Ao k co) := blk_mid HXb.out HPL3.out; have HO2 := Lib.hid (show ∀ ob, Own (wb.alloc ob) 72 41 (.slice Ao k co) k css.flatten from fun ob => own_keep HOWN.out fun b hb => (Below.heap_alloc wb ob b (ltle (ltle (own_lt HOWN.out hb) HBA.out.size) HCB.out.size)).trans ((HCB.out.block b (ltle (own_lt HOWN.out hb) HBA.out.size) id).trans (HBA.out.block b (own_lt HOWN.out hb)))); have HS2 := Lib.hid (Cs.of_new wb 72 (size := 41) 1 (cs := q) (by rw [HL.out]) (by simp only [maxLen]; decide)); clear hbb hcb)
            | (go_big_may; refine wpList_load_blk' rfl 72 _ rfl HBB.out rfl Tryz.underlying72 rfl HIq.out ?_)
            | (go_big_may; refine wpList_row1 rfl 79 72 _ rfl Tryz.underlying79 (.agg q.toArray) rfl q rfl HIq2.out (by rw [HL.out]; decide) (by rw [HL.out]; decide) ?_)
            | (go_big_may; at_builtin; refine wpList_app _ rfl _ _ _ rfl Tryz.underlying79 zrTx_info rfl (by decide) (HO2.out _) rfl HS2.out rfl H1.out H63.out.1 H63.out.2 ?_; intro v6 w6 ho6 hc6 hnil6 hat6; clear hnil6; obtain ⟨A6, c6, rfl⟩ := ho6.form; have HX6 := Lib.hid (Blk.assoc_ ((HXb.out.alloc _).chg hc6 fun h => by have := HOB.out _ h; omega)); have HO6 := Lib.hid ho6; have HC6 := Lib.hid hc6; have HAT6 := Lib.hid hat6; clear ho6 hc6 hat6)
            | (go_big_may; refine wpList_store_part (pre := (((([] : List Value) ++ q0) ++ q1) ++ ([o2] : List Value))) (old := ([.slice Ao k co] : List Value)) (vals := ([.slice A6 (k + 1) c6] : List Value)) (post := (zrSig ++ ([] : List Value))) rfl 79 _ _ rfl HX6.out HPL3.out rfl (v := .slice A6 (k + 1) c6) rfl rfl (by simp only [List.length_cons, List.length_nil]) (by kernel_rfl) (fun u hu => by obtain rfl := List.mem_singleton.1 hu; rfl) ?_; intro w7 hx7 hc7; have HX7 := Lib.hid hx7; have HC7 := Lib.hid hc7; clear hx7 hc7)
            | ((with_reducible (show wpList _ _ _ (⟨_, .move _, _, _, _, some _⟩ :: _) _ _)); refine wpList_and kc3 g _ _ _ rfl rfl rfl (by cases kc3 <;> rfl) rfl (fun _ => rfl) (fun _ => rfl) ?_; intro vA cN hcN; have HCN := Lib.hid hcN; clear hcN)
            | go_values | go_skip | go_guarded | go_step | go_upon)
          go_wp2_with fail
          exact ⟨⟨k + 1, cN, _, by omega, by push_cast; rfl, rfl, Lib.hid (RefI.step (by omega) HOWN.out HOB.out HLO.out HCH.out HBA.out HSQ.out HCB.out HTK.out HO6.out HC6.out HAT6.out HX7.out HC7.out HCN.out)⟩, by simp only [intOf]; omega⟩
        · have hk' : k = l3.length := by omega
          subst hk'
          have HS3 := Lib.hid (HI.out.out rfl HSPL3.out HK3.out)
          obtain ⟨css, hown, _, _, hbx, hch⟩ := HI.out
          have HX6 := Lib.hid hbx
          have HC5 := Lib.hid (show Chg (fun b => b = w1.heap.size) w5 wr from (Chg.of_below HBS3.out fun b => b = w1.heap.size).trans hch fun b h => .inl h)
          clear hown hbx hch HI hk HXS3 HPS3 HROW3 HRLL3
          generalize wr = w6 at *
          have HPL3 := HPL3
          have HP6 := Lib.hid (HP5.out.trans HC5.out fun b h => .inl h)
          have hz6 := Nat.le_trans hz5 HC5.out.size
          have hcl4 : w6.cell? ⟨ba, oa + 4, none⟩ = some (.slice A_4 r4.length c_4) := (World.cell?_of_block (a := ⟨ba, oa + 4, none⟩) (HP6.out.block ba hba (fun e => by have e : ba = w1.heap.size := e; omega))).trans HC_4.out
          go_wp2_with fail
          refine (rReadSig_any _ (HR_4.out.chg HP6.out fun b hb h => by have h : b = w1.heap.size := h; omega) (HRL.out _ (by simp))).mono ?_
          rintro e wa4 ⟨hba4, q4, g4, rfl, hs4, _⟩
          have hl4 : q4.length = 33 := hs4.1
          have HL4 := Lib.hid hl4
          have H14 := Lib.hid hs4.2.1
          have HI4 := Lib.hid (zrSig_sized hl4)
          have HZ4 := Lib.hid (show (zrSig).length = q4.length from by rw [hl4]; exact zrSig_len)
          have HXa4 := Lib.hid (HX6.out.below hba4 HX6.out.lt)
          have HBA4 := Lib.hid hba4
          have HS4 := Lib.hid hs4
          have hza4 := hba4.size
          clear hba4 hs4 hl4 hcl4
          have HPL4 := Lib.hid (show (((((([] : List Value) ++ q0) ++ q1) ++ ([o2] : List Value)) ++ ([o3] : List Value))).length = 140 from by simp [HL0.out, HL1.out])
          go_simp
          repeat (first
            | ((with_reducible (show wpList _ _ _ (⟨_, .move _, _, _, _, some _⟩ :: _) _ _)); refine wpList_and kc3 g4 _ _ _ rfl rfl rfl (by cases kc3 <;> rfl) rfl (fun _ => rfl) (fun _ => rfl) ?_; intro vA4 k4 hk4; have HK4 := Lib.hid hk4; clear hk4; cases k4 <;> refine Hid.out ?_)
            | (go_big_may; refine wpList_store_blk (cs0 := zrSig) (cs := q4) rfl 81 _ _ rfl (Blk.new wa4 _ _) rfl rfl HZ4.out HI4.out H14.out ?_; intro wb4 hbb hcb; have HBB4 := Lib.hid hbb; have HCB4 := Lib.hid (show Chg (fun _ => False) wa4 wb4 from ((Chg.refl _ wa4).alloc _).trans hcb fun b h => .inr (Nat.le_of_eq h.symm)); have HXb4 := Lib.hid (HXa4.out.chg HCB4.out id); clear hbb hcb)
            | (go_big_may; refine wpList_load_blk' rfl 81 _ rfl HBB4.out rfl Tryz.underlying81 rfl HI4.out ?_)
            | (go_big_may; refine wpList_store_part (pre := ((((([] : List Value) ++ q0) ++ q1) ++ ([o2] : List Value)) ++ ([o3] : List Value))) (old := zrSig) (vals := q4) (post := ([] : List Value)) rfl 81 _ _ rfl HXb4.out HPL4.out rfl (v := .agg q4.toArray) rfl rfl HZ4.out HI4.out H14.out ?_; intro w7 hbn hcn; have HX7 := Lib.hid hbn; have HC6 := Lib.hid (show Chg (fun b => b = w1.heap.size) w6 w7 from (((Chg.of_below HBA4.out fun b => b = w1.heap.size).trans HCB4.out fun b h => h.elim).trans hcn fun b h => .inl h)); have HCD4 := Lib.hid (show Chg (fun b => b = w1.heap.size) wa4 w7 from (HCB4.out.mono (M' := fun b => b = w1.heap.size) fun _ h => h.elim).trans hcn fun b h => .inl h); have HP7 := Lib.hid (HP6.out.trans HC6.out fun b h => .inl h); have hz7 := Nat.le_trans hz6 HC6.out.size; clear hbn hcn)
            | go_values | go_skip | go_guarded | go_step | go_upon)
          · refine Lib.hid ?_
            have HRR := Lib.hid ((HR1.out.chg HP7.out (fun h => by have h : w.heap.size = w1.heap.size := h; omega)))
            have HB0 := Lib.hid (HB1.out.trans (HP7.out.below HB1.out.size fun b h => by have h : b = w1.heap.size := h; omega))
            have hkb0 : ∀ b, w2.heap.size ≤ b → b < wa0.heap.size → b < w3.heap.size ∧ w3.heap[b]? = wa0.heap[b]? := fun b hb hlt => ⟨ltle hlt HCD0.out.size, HCD0.out.block b hlt fun e => by have e : b = w1.heap.size := e; omega⟩
            have hkb1 : ∀ b, w3.heap.size ≤ b → b < wa1.heap.size → b < w4.heap.size ∧ w4.heap[b]? = wa1.heap[b]? := fun b hb hlt => ⟨ltle hlt HCD1.out.size, HCD1.out.block b hlt fun e => by have e : b = w1.heap.size := e; omega⟩
            have hkb4 : ∀ b, w6.heap.size ≤ b → b < wa4.heap.size → b < w7.heap.size ∧ w7.heap[b]? = wa4.heap[b]? := fun b hb hlt => ⟨ltle hlt HCD4.out.size, HCD4.out.block b hlt fun e => by have e : b = w1.heap.size := e; omega⟩
            have ho0 : SOut tHeader w3 (Nw w2.heap.size w3) r0 q0 false g0 := (HS0.out.nw (k' := w2.heap.size) (w' := w3) hkb0 (Nat.le_refl _))
            have ho1 : SOut tQC w4 (Nw w3.heap.size w4) r1 q1 g0 k1 := (HS1.out.nw (k' := w3.heap.size) (w' := w4) hkb1 (Nat.le_refl _)).orr g0 k1 HK1.out
            have ho2 : SOut (.list tCommit) w5 (Nw w4.heap.size w5) r2 ([o2] : List Value) k1 kc2 := (HS2.out.nw (k' := w4.heap.size) (fun b _ hlt => ⟨hlt, rfl⟩) hzt2)
            have ho3 : SOut (.list tTx) w6 (Nw w5.heap.size w6) r3 ([o3] : List Value) kc2 kc3 := (HS3.out.nw (k' := w5.heap.size) (fun b _ hlt => ⟨hlt, rfl⟩) hzt3)
            have ho4 : SOut tSig w7 (Nw w6.heap.size w7) r4 q4 kc3 false := (HS4.out.nw (k' := w6.heap.size) (w' := w7) hkb4 (Nat.le_refl _)).orr kc3 false HK4.out
            have hout : Fs.Out (.cons tHeader (.cons tQC (.cons (.list tCommit) (.cons (.list tTx) (.cons tSig .nil))))) w7 (Nw (w.heap.size + 1) w7) [r0, r1, r2, r3, r4] (q0 ++ (q1 ++ (([o2] : List Value) ++ (([o3] : List Value) ++ (q4 ++ []))))) false false := Fs.Out.stepR ho0 (Fs.Out.stepR ho1 (Fs.Out.stepR ho2 (Fs.Out.stepR ho3 (Fs.Out.stepR ho4 (Fs.Out.nil_ w7 _ _) (Chg.refl (fun k => k = w1.heap.size) _) (by omega) (by omega)) HC6.out (by omega) (by omega)) (HC5.out.trans HC6.out fun b h => .inl h) (by omega) (by omega)) ((HC4.out.trans HC5.out fun b h => .inl h).trans HC6.out fun b h => .inl h) (by omega) (by omega)) (((HC3.out.trans HC4.out fun b h => .inl h).trans HC5.out fun b h => .inl h).trans HC6.out fun b h => .inl h) (by omega) (by omega)
            have htup : SOut tBlock w7 (Nw (w.heap.size + 1) w7) bs (q0 ++ (q1 ++ (([o2] : List Value) ++ (([o3] : List Value) ++ (q4 ++ []))))) false false := Fs.Out.tup (n := 5) hout (.inl ⟨rfl, HSP.out⟩) fun l x h => Fs.decs_len _ l x h
            have hpre : (((((([] : List Value) ++ q0) ++ q1) ++ ([o2] : List Value)) ++ ([o3] : List Value)) ++ q4) = (q0 ++ (q1 ++ (([o2] : List Value) ++ (([o3] : List Value) ++ (q4 ++ []))))) := by simp
            obtain ⟨C, hC⟩ : ∃ C, C = (q0 ++ (q1 ++ (([o2] : List Value) ++ (([o3] : List Value) ++ (q4 ++ []))))) := ⟨_, rfl⟩
            rw [← hC] at htup hpre
            have hX := HX7.out
            rw [hpre, List.append_nil] at hX
            have HX := Lib.hid hX
            have hCl : C.length = 173 := htup.1
            have HI := Lib.hid (zrBlock_sized hCl)
            have HL := Lib.hid (show zrBlock.length = C.length from by rw [hCl]; exact zrBlock_len)
            have H1 := Lib.hid htup.2.1
            have HT := Lib.hid htup
            clear hout htup hpre hX hCl hC ho0 ho1 ho2 ho3 ho4 hkb0 hkb1 hkb4
            go_wp2_with (first
              | (refine wpList_load_blk' rfl 83 _ rfl HX.out rfl Tryz.underlying83 rfl HI.out ?_)
              | (refine wpList_store_blk (cs0 := zrBlock) (cs := C) rfl 83 _ _ rfl HRR.out rfl rfl HL.out HI.out H1.out ?_; intro w9 hb9 hc9; have HB9 := Lib.hid hb9; have HC9 := Lib.hid hc9; clear hb9 hc9))
            have hld := run_loadVar_mid (P := Tryz.prog) w9 w.heap.size 0 83 C _ HB9.out.range Tryz.underlying83 rfl HI.out
            refine bodyPost_ret (v := .tuple #[.agg (C).toArray, .bool true]) (by simp [results, Tryz.results26, asAddr, hld]) rfl ?_
            exact ⟨HB0.out.trans (HC9.out.below HB0.out.size fun b h => Nat.le_of_eq h.symm), C, false, rfl, HT.out.nw (w' := w9) (k' := w.heap.size) (fun b hb hlt => ⟨ltle hlt HC9.out.size, HC9.out.block b hlt fun e => by have e : b = w.heap.size := e; omega⟩) (by omega), fun h => by cases h⟩
          · refine Lib.hid ?_
            have HRR := Lib.hid ((HR1.out.chg HP7.out (fun h => by have h : w.heap.size = w1.heap.size := h; omega)))
            have HB0 := Lib.hid (HB1.out.trans (HP7.out.below HB1.out.size fun b h => by have h : b = w1.heap.size := h; omega))
            have hkb0 : ∀ b, w2.heap.size ≤ b → b < wa0.heap.size → b < w3.heap.size ∧ w3.heap[b]? = wa0.heap[b]? := fun b hb hlt => ⟨ltle hlt HCD0.out.size, HCD0.out.block b hlt fun e => by have e : b = w1.heap.size := e; omega⟩
            have hkb1 : ∀ b, w3.heap.size ≤ b → b < wa1.heap.size → b < w4.heap.size ∧ w4.heap[b]? = wa1.heap[b]? := fun b hb hlt => ⟨ltle hlt HCD1.out.size, HCD1.out.block b hlt fun e => by have e : b = w1.heap.size := e; omega⟩
            have hkb4 : ∀ b, w6.heap.size ≤ b → b < wa4.heap.size → b < w7.heap.size ∧ w7.heap[b]? = wa4.heap[b]? := fun b hb hlt => ⟨ltle hlt HCD4.out.size, HCD4.out.block b hlt fun e => by have e : b = w1.heap.size := e; omega⟩
            have ho0 : SOut tHeader w3 (Nw w2.heap.size w3) r0 q0 false g0 := (HS0.out.nw (k' := w2.heap.size) (w' := w3) hkb0 (Nat.le_refl _))
            have ho1 : SOut tQC w4 (Nw w3.heap.size w4) r1 q1 g0 k1 := (HS1.out.nw (k' := w3.heap.size) (w' := w4) hkb1 (Nat.le_refl _)).orr g0 k1 HK1.out
            have ho2 : SOut (.list tCommit) w5 (Nw w4.heap.size w5) r2 ([o2] : List Value) k1 kc2 := (HS2.out.nw (k' := w4.heap.size) (fun b _ hlt => ⟨hlt, rfl⟩) hzt2)
            have ho3 : SOut (.list tTx) w6 (Nw w5.heap.size w6) r3 ([o3] : List Value) kc2 kc3 := (HS3.out.nw (k' := w5.heap.size) (fun b _ hlt => ⟨hlt, rfl⟩) hzt3)
            have ho4 : SOut tSig w7 (Nw w6.heap.size w7) r4 q4 kc3 true := (HS4.out.nw (k' := w6.heap.size) (w' := w7) hkb4 (Nat.le_refl _)).orr kc3 true HK4.out
            have hout : Fs.Out (.cons tHeader (.cons tQC (.cons (.list tCommit) (.cons (.list tTx) (.cons tSig .nil))))) w7 (Nw (w.heap.size + 1) w7) [r0, r1, r2, r3, r4] (q0 ++ (q1 ++ (([o2] : List Value) ++ (([o3] : List Value) ++ (q4 ++ []))))) false true := Fs.Out.stepR ho0 (Fs.Out.stepR ho1 (Fs.Out.stepR ho2 (Fs.Out.stepR ho3 (Fs.Out.stepR ho4 (Fs.Out.nil_ w7 _ _) (Chg.refl (fun k => k = w1.heap.size) _) (by omega) (by omega)) HC6.out (by omega) (by omega)) (HC5.out.trans HC6.out fun b h => .inl h) (by omega) (by omega)) ((HC4.out.trans HC5.out fun b h => .inl h).trans HC6.out fun b h => .inl h) (by omega) (by omega)) (((HC3.out.trans HC4.out fun b h => .inl h).trans HC5.out fun b h => .inl h).trans HC6.out fun b h => .inl h) (by omega) (by omega)
            have htup : SOut tBlock w7 (Nw (w.heap.size + 1) w7) bs (q0 ++ (q1 ++ (([o2] : List Value) ++ (([o3] : List Value) ++ (q4 ++ []))))) false true := Fs.Out.tup (n := 5) hout (.inl ⟨rfl, HSP.out⟩) fun l x h => Fs.decs_len _ l x h
            have HNO := Lib.hid (show Sh.dec tBlock bs = none from by
              rcases htup.2.2 with ⟨_, _, h, _⟩ | ⟨h, _⟩
              · cases h
              · exact h)
            clear hout htup ho0 ho1 ho2 ho3 ho4 hkb0 hkb1 hkb4
            go_wp2_with (refine wpList_store_blk (cs0 := zrBlock) (cs := zrBlock) rfl 83 _ _ rfl HRR.out rfl rfl rfl zrBlock_size zrBlock_one ?_; intro w9 hb9 hc9; have HB9 := Lib.hid hb9; have HC9 := Lib.hid hc9; clear hb9 hc9)
            have hld := run_loadVar_mid (P := Tryz.prog) w9 w.heap.size 0 83 zrBlock _ HB9.out.range Tryz.underlying83 rfl zrBlock_size
            refine bodyPost_ret (v := .tuple #[.agg (zrBlock).toArray, .bool false]) (by simp [results, Tryz.results26, asAddr, hld]) rfl ?_
            exact ⟨HB0.out.trans (HC9.out.below HB0.out.size fun b h => Nat.le_of_eq h.symm), _, true, rfl, ⟨zrBlock_len, zrBlock_one, .inr ⟨HNO.out, rfl⟩⟩, fun _ => rfl⟩
end
section
open Go.RowKit Go.Maps
attribute [-simp] Tryz.isAgg36 Tryz.typeInfo36 Tryz.isAgg83 Tryz.typeInfo83
set_option maxHeartbeats 8000000 in
set_option maxRecDepth 100000 in
theorem read_Block (w : World) {S : Nat → Prop} {v : Value} {bs : List UInt8} {sent : Value} (h : Bs w S v bs) (hlen : bs.length ≤ 1099511627776) (hp : Pk w sent) :
    Calls Tryz.prog 5 #[.int .i64 6, v] w (ReadAns w bs) := by
  have HF := Lib.hid (ReadBlock_any w h hp)
  have HB := Lib.hid h
  have HLEN := Lib.hid hlen
  obtain ⟨A, cap, rfl⟩ := h.form
  clear h hlen hp
  go_enter Tryz.func5, Tryz.ntmps5
  go_wp2_with fail
  refine HF.out.mono ?_
  rintro e w1 ⟨hb1, C, n, rfl, hCl, hC1, hn⟩
  have hCl : C.length = 173 := hCl
  have HZL := Lib.hid (show zrBlock.length = C.length from by rw [hCl]; exact zrBlock_len)
  have HCI := Lib.hid (zrBlock_sized hCl)
  have HC1 := Lib.hid hC1
  have HN := Lib.hid hn
  have HB1 := Lib.hid hb1
  have HBB := Lib.hid (HB.out.below hb1)
  have hz1 := hb1.size
  clear hCl hC1 hn hb1 HF
  go_wp2_with (refine wpList_store_blk (cs0 := zrBlock) (cs := C) rfl 83 _ _ rfl (Blk.new w1 _ _) rfl rfl HZL.out HCI.out HC1.out ?_; intro w2 hyy hcc; have HX2 := Lib.hid hyy; have HCw2 := Lib.hid (show Chg (fun _ => False) w1 w2 from ((Chg.refl _ w1).alloc _).trans hcc fun b h => .inr (Nat.le_of_eq h.symm)); clear hyy hcc)
  have hz2 := HCw2.out.size
  have HB2 := Lib.hid (HB1.out.trans (HCw2.out.below HB1.out.size fun b h => h.elim))
  refine (rReadBlock_any w2 (HBB.out.chg HCw2.out fun _ _ h => h) HLEN.out).mono ?_
  rintro e w3 ⟨hb3, D, g, rfl, hs, hzz⟩
  have hDl : D.length = 173 := hs.1
  have HZD := Lib.hid (show zrBlock.length = D.length from by rw [hDl]; exact zrBlock_len)
  have HDI := Lib.hid (zrBlock_sized hDl)
  have HD1 := Lib.hid hs.2.1
  have HS := Lib.hid hs
  have HZZ := Lib.hid hzz
  have HX3 := Lib.hid (HX2.out.below hb3 HX2.out.lt)
  have HB23 := Lib.hid hb3
  have HB3 := Lib.hid (HB2.out.trans (hb3.mono HB2.out.size))
  have hz3 := hb3.size
  clear hDl hs hzz hb3 HBB HX2
  by_cases hn0 : n = 0
  · subst hn0
    obtain ⟨hbl, x, hdx, hrx⟩ : bs.length ≤ 262144 ∧ ∃ x, Sh.dec tBlock bs = some x ∧ Sh.rep w1 (fun b => w.heap.size ≤ b) tBlock x C := by
      rcases HN.out with ⟨_, h⟩ | ⟨hb, ⟨x, h1, _, h3⟩ | ⟨_, h⟩⟩
      · cases h
      · exact ⟨hb, x, h1, h3⟩
      · cases h
    obtain ⟨rfl, hry⟩ : g = false ∧ Sh.rep w3 (Nw w2.heap.size w3) tBlock x D := by
      rcases HS.out.2.2 with ⟨y, h1, h2, h3⟩ | ⟨h1, _⟩
      · rw [hdx] at h1; injection h1 with h1; subst h1; exact ⟨h2, h3⟩
      · rw [hdx] at h1; cases h1
    have hex : Sh.enc tBlock x = bs := (Sh.enc_dec _ _ _ hdx).1
    have HEX := Lib.hid hex
    have HLX := Lib.hid (show (Sh.enc tBlock x).length ≤ 1099511627776 by rw [hex]; exact HLEN.out)
    have HBL := Lib.hid hbl
    have HRX := Lib.hid (Sh.rep_below (Sh.rep_chg hrx HCw2.out fun _ _ h => h) HB23.out)
    have HRY := Lib.hid hry
    clear hdx hrx hry hex hbl HN HS HZZ
    go_simp
    go_wp2_with (refine wpList_store_blk (cs0 := zrBlock) (cs := D) rfl 83 _ _ rfl (Blk.new w3 _ _) rfl rfl HZD.out HDI.out HD1.out ?_; intro w4 hyy hcc; have HY4 := Lib.hid hyy; have HCw4 := Lib.hid (show Chg (fun _ => False) w3 w4 from ((Chg.refl _ w3).alloc _).trans hcc fun b h => .inr (Nat.le_of_eq h.symm)); clear hyy hcc)
    have hx := (HX3.out.chg HCw4.out id).drew
    have hy := HY4.out.drew
    have hb := (HB3.out.trans (HCw4.out.below HB3.out.size fun b h => h.elim)).drew
    have hb4 : Below w4.heap.size w4 w4.drew := (Below.refl _ w4).drew
    have hrx := Sh.rep_below (Sh.rep_chg HRX.out HCw4.out fun _ _ h => h) hb4
    have hry := Sh.rep_below (Sh.rep_chg HRY.out HCw4.out fun _ _ h => h) hb4
    have hz4 := HCw4.out.size
    refine wp_region_segsV [([0, 2, 3, 5], [1]), ([], [4]), ([6, 7, 8, 9], [])] (by kernel_rfl) (by kernel_rfl) (by kernel_rfl) (by kernel_rfl)
      (SegV.mk (fun w' => Blk w' w1.heap.size 83 C.toArray ∧ Blk w' w3.heap.size 83 D.toArray) (fun _ _ => trivial) ⟨hx, hy⟩ ?_)
    (refine HoistK.load (by rfl) (by kernel_rfl) 83 _ rfl w1.heap.size 0 rfl C _ (fun w' hw => hw.1.range) Tryz.underlying83 rfl HCI.out ?_; simp only [Act.put, setIfInBounds_toArray, getElem_toArray, getElem_cons_zero, set_cons_succ, set_cons_zero])
    (refine HoistK.yes (by rfl) (by kernel_rfl) ⟨?_, fun w' hSw => ?_, ?_⟩; rotate_left; (· go_simp; try with_reducible rfl); simp only [Act.put, setIfInBounds_toArray, getElem_toArray, getElem_cons_succ, getElem_cons_zero, set_cons_succ, set_cons_zero])
    (refine HoistK.load (by rfl) (by kernel_rfl) 83 _ rfl w3.heap.size 0 rfl D _ (fun w' hw => hw.2.range) Tryz.underlying83 rfl HDI.out ?_; simp only [Act.put, setIfInBounds_toArray, getElem_toArray, getElem_cons_succ, getElem_cons_zero, set_cons_succ, set_cons_zero])
    (refine HoistK.yes (by rfl) (by kernel_rfl) ⟨?_, fun w' hSw => ?_, ?_⟩; rotate_left; (· go_simp; try with_reducible rfl); simp only [Act.put, setIfInBounds_toArray, getElem_toArray, getElem_cons_succ, getElem_cons_zero, set_cons_succ, set_cons_zero])
    refine HoistK.nil_ ?_
    simp only [opsAt, filterMap_cons, filterMap_nil, getElem?_toArray, getElem?_cons_succ, getElem?_cons_zero]
    refine EffS.cons_ fun _ hQ => ?_
    go_wp2_with fail
    refine (rBlock_any _ hrx HLX.out).mono ?_
    rintro e w5 ⟨v5, rfl, f5⟩
    rw [HEX.out] at f5
    obtain ⟨A5, c5, rfl⟩ := f5.1.form
    have hx5 := hx.below f5.2 hx.lt
    have hy5 := hy.below f5.2 hy.lt
    have hb5 := hb.trans (f5.2.mono hb.size)
    have hry5 := Sh.rep_below hry f5.2
    have hw5 := f5.1.sub (T := fun b => w.heap.size ≤ b) fun b hb' _ => Nat.le_trans hb.size hb'.1
    clear f5
    go_wp2_with fail
    refine hQ _ _ ⟨hx5, hy5⟩ (EffS.nil_ (SegV.mk (fun w' => (Blk w' w1.heap.size 83 C.toArray ∧ Blk w' w3.heap.size 83 D.toArray) ∧ Bs w' (fun b => w.heap.size ≤ b) (.slice A5 bs.length c5) bs) (fun _ h => h.1) ⟨⟨hx5, hy5⟩, hw5⟩ ?_))
    refine HoistK.nil_ ?_
    simp only [opsAt, filterMap_cons, filterMap_nil, getElem?_toArray, getElem?_cons_succ, getElem?_cons_zero]
    refine EffS.cons_ fun _ hQ => ?_
    go_wp2_with fail
    refine (rBlock_any _ hry5 HLX.out).mono ?_
    rintro e w6 ⟨v6, rfl, f6⟩
    rw [HEX.out] at f6
    obtain ⟨A6, c6, rfl⟩ := f6.1.form
    have hx6 := hx5.below f6.2 hx5.lt
    have hy6 := hy5.below f6.2 hy5.lt
    have hb6 := hb5.trans (f6.2.mono hb5.size)
    have hw56 := hw5.below f6.2
    have hw6 := f6.1.sub (T := fun b => w.heap.size ≤ b) fun b hb' _ => Nat.le_trans hb5.size hb'.1
    clear f6
    go_wp2_with fail
    refine hQ _ _ ⟨⟨hx6, hy6⟩, hw56⟩ (EffS.nil_ (SegV.mk (fun w' => ((Blk w' w1.heap.size 83 C.toArray ∧ Blk w' w3.heap.size 83 D.toArray) ∧ Bs w' (fun b => w.heap.size ≤ b) (.slice A5 bs.length c5) bs) ∧ Bs w' (fun b => w.heap.size ≤ b) (.slice A6 bs.length c6) bs) (fun _ h => h.1) ⟨⟨⟨hx6, hy6⟩, hw56⟩, hw6⟩ ?_))
    iterate 4 (refine HoistK.yes (by rfl) (by kernel_rfl) ⟨?_, fun w' hSw => ?_, ?_⟩; rotate_left; (· go_simp; try with_reducible rfl); simp only [Act.put, setIfInBounds_toArray, getElem_toArray, getElem_cons_succ, getElem_cons_zero, set_cons_succ, set_cons_zero])
    refine HoistK.nil_ ?_
    simp only [opsAt, filterMap_nil, getElem?_toArray]
    refine EffS.nil_ fun _ hQ => ?_
    go_wp2_with fail
    ((try simp only [Exit.inBlock, Exit.then]); refine bodyPost_ret (results_tmp4 rfl _ _ _) rfl ?_)
    exact ⟨hb6, _, _, 0, true, rfl, .inr ⟨HBL.out, .inl ⟨rfl, rfl, hw56, hw6⟩⟩⟩
  · obtain ⟨x, hrx, hlx⟩ : ∃ x, Sh.rep w3 (Nw w2.heap.size w3) tBlock x D ∧ (Sh.enc tBlock x).length ≤ 1099511627776 := by
      rcases HS.out.2.2 with ⟨x, h1, _, h3⟩ | ⟨_, h2⟩
      · exact ⟨x, h3, by rw [(Sh.enc_dec _ _ _ h1).1]; exact HLEN.out⟩
      · rw [HZZ.out h2]
        exact ⟨Sh.zel tBlock, Sh.zel_rep w3 _ tBlock, by rw [Sh.zel_len]; decide⟩
    have hans : (262144 < bs.length ∧ n = 4) ∨ (bs.length ≤ 262144 ∧ n = 5 ∧ g = true) := by
      rcases HN.out with h | ⟨hb, ⟨_, _, h, _⟩ | ⟨h1, h2⟩⟩
      · exact .inl h
      · exact absurd h hn0
      · refine .inr ⟨hb, h2, ?_⟩
        rcases HS.out.2.2 with ⟨y, h3, _, _⟩ | ⟨_, h3⟩
        · rw [h1] at h3; cases h3
        · exact h3
    have HANS := Lib.hid hans
    have HRX := Lib.hid hrx
    have HLX := Lib.hid hlx
    clear hans hrx hlx HN HS HZZ
    go_simp
    go_wp2_with (first
      | (refine wpList_store_blk (cs0 := zrBlock) (cs := D) rfl 83 _ _ rfl (Blk.new w3 _ _) rfl rfl HZD.out HDI.out HD1.out ?_; intro w4 hyy hcc; have HY4 := Lib.hid hyy; have HCw4 := Lib.hid (show Chg (fun _ => False) w3 w4 from ((Chg.refl _ w3).alloc _).trans hcc fun b h => .inr (Nat.le_of_eq h.symm)); clear hyy hcc)
      | (refine wpList_load_blk' rfl 83 _ rfl HY4.out rfl Tryz.underlying83 rfl HDI.out ?_))
    have hb4 := HB3.out.trans (HCw4.out.below HB3.out.size fun b h => h.elim)
    refine (rBlock_any _ (Sh.rep_chg HRX.out HCw4.out fun _ _ h => h) HLX.out).mono ?_
    rintro e w5 ⟨v5, rfl, f5⟩
    have hb5 := hb4.trans (f5.2.mono hb4.size)
    clear f5
    go_wp2_with fail
    ((try simp only [Exit.inBlock, Exit.then]); refine bodyPost_ret (results_tmp4 rfl _ _ _) rfl ?_)
    refine ⟨hb5, _, _, n, !g, rfl, ?_⟩
    rcases HANS.out with h | ⟨h1, h2, h3⟩
    · exact .inl h
    · exact .inr ⟨h1, .inr ⟨h2, by rw [h3]; rfl⟩⟩
end
section
open Go.RowKit Go.Maps
attribute [-simp] Tryz.isAgg36 Tryz.typeInfo36 Tryz.isAgg90 Tryz.typeInfo90
theorem info_readVote : (Tryz.prog.info? 90).map (fun i => (i.zero.map (fun z => z.cells.size))) = some (some 69) := by kernel_rfl
theorem size_readVote : (Tryz.prog.info? 90).map (·.size) = some 69 := by kernel_rfl
theorem places_readVote : ((match Tryz.prog.underlying 90 with | some (.struct fields) => fields.toList.mapM (fun f => (Tryz.prog.info? f.type).map fun i => (f.offset, i.size)) | _ => none)) = some [(0, 1), (1, 1), (2, 1), (3, 32), (35, 1), (36, 33)] := by kernel_rfl
set_option maxHeartbeats 4000000 in
set_option maxRecDepth 100000 in
theorem readVote_any (w : World) {S : Nat → Prop} {v sent : Value} {bs : List UInt8} (h : Bs w S v bs) (hlen : bs.length ≤ 262144) (hg : Gl w sent) :
    Calls Tryz.prog 65 #[v] w (ReadOut (.tup (.cons i64 (.cons i64 (.cons i64 (.cons .dig (.cons i64 (.cons tSig .nil))))))) w sent bs) := by
  have hal := (Below.refl w.heap.size w).alloc (Nat.le_refl _) (.cells (([.int .i64 0, .int .i64 0, .int .i64 0] ++ List.replicate 32 (.int .u8 0) ++ [.int .i64 0] ++ ([.int .i64 0] ++ List.replicate 32 (.int .u8 0)) : List Value)).toArray 90)
  have HS := Lib.hid (psplit_any _ (h.below hal) (by omega) (hg.below hal) 6 (by omega) ⟨#[97, 32, 118, 111, 116, 101]⟩)
  have HN := Lib.hid (Blk.new w 90 (([.int .i64 0, .int .i64 0, .int .i64 0] ++ List.replicate 32 (.int .u8 0) ++ [.int .i64 0] ++ ([.int .i64 0] ++ List.replicate 32 (.int .u8 0)) : List Value)).toArray)
  have HAL := Lib.hid hal
  obtain ⟨A, cap, rfl⟩ := h.form
  clear h hg hal
  go_enter Tryz.func65, Tryz.ntmps65
  go_wp2_with fail
  refine HS.out.mono ?_
  rintro e w1 ⟨g, rows, bad, rfl, hgw, hb1, hp, hn, hrl, hs⟩
  obtain ⟨r0, r1, r2, r3, r4, r5, rfl⟩ : ∃ r0 r1 r2 r3 r4 r5, rows = [r0, r1, r2, r3, r4, r5] := by
    match rows, hn with
    | [r0, r1, r2, r3, r4, r5], _ => exact ⟨r0, r1, r2, r3, r4, r5, rfl⟩
  have HK := Lib.hid (HN.out.below hb1 (by simp))
  have hgw' : w.heap.size + 1 ≤ g := by simpa using hgw
  have hz1 : w.heap.size + 1 ≤ w1.heap.size := by simpa using hb1.size
  have HB1 := Lib.hid (HAL.out.trans (hb1.mono (by simp)))
  have HSS := Lib.hid hs
  have HRL := Lib.hid (show ∀ x ∈ [r0, r1, r2, r3, r4, r5], x.length ≤ 262144 from fun x hx => Nat.le_trans (hrl x hx) hlen)
  have hE : Pt w1 (fun b => b = g) (w.heap.size + 1) g sent [r0, r1, r2, r3, r4, r5] bad := by simpa using hp
  clear HS HN HAL hgw hb1 hs hn hp hrl hlen
  have hp0 := hE
  clear hE
  go_wp2_with fail
  refine (int_any _ hp0).mono ?_
  rintro e w2 ht
  obtain ⟨y0, b0, rfl, h10, hc0, hp1, ho0⟩ := ht.one (fun _ => rfl) rfl
  have hgl0 := hp0.lt
  have hz2 := Nat.le_trans hz1 hc0.size
  have HO0 := Lib.hid ho0
  have HC0 := Lib.hid hc0
  have H10 := Lib.hid h10
  clear ht ho0 hc0 h10 hp0
  go_wp2_with fail
  refine (int_any _ hp1).mono ?_
  rintro e w3 ht
  obtain ⟨y1, b1, rfl, h11, hc1, hp2, ho1⟩ := ht.one (fun _ => rfl) rfl
  have hgl1 := hp1.lt
  have hz3 := Nat.le_trans hz2 hc1.size
  have HO1 := Lib.hid ho1
  have HC1 := Lib.hid hc1
  have H11 := Lib.hid h11
  clear ht ho1 hc1 h11 hp1
  go_wp2_with fail
  refine (n_any _ hp2).mono ?_
  rintro e w4 ht
  obtain ⟨y2, b2, rfl, h12, hc2, hp3, ho2⟩ := ht.one (fun _ => rfl) rfl
  have hgl2 := hp2.lt
  have hz4 := Nat.le_trans hz3 hc2.size
  have HO2 := Lib.hid ho2
  have HC2 := Lib.hid hc2
  have H12 := Lib.hid h12
  clear ht ho2 hc2 h12 hp2
  go_wp2_with fail
  refine (pdigest_any _ hp3).mono ?_
  rintro e w5 ht
  obtain ⟨c3, b3, rfl, h13, hl3, hc3, hp4, ho3⟩ := ht.agg (fun _ => rfl)
  have hl3 : c3.length = 32 := hl3
  have hgl3 := hp3.lt
  have hz5 := Nat.le_trans hz4 hc3.size
  have HO3 := Lib.hid ho3
  have HC3 := Lib.hid hc3
  have H13 := Lib.hid h13
  have HL3 := Lib.hid hl3
  clear hl3
  clear ht ho3 hc3 h13 hp3
  go_wp2_with fail
  refine (int_any _ hp4).mono ?_
  rintro e w6 ht
  obtain ⟨y4, b4, rfl, h14, hc4, hp5, ho4⟩ := ht.one (fun _ => rfl) rfl
  have hgl4 := hp4.lt
  have hz6 := Nat.le_trans hz5 hc4.size
  have HO4 := Lib.hid ho4
  have HC4 := Lib.hid hc4
  have H14 := Lib.hid h14
  clear ht ho4 hc4 h14 hp4
  go_wp2_with fail
  refine (oneSig_any _ hp5 (HRL.out _ (by simp))).mono ?_
  rintro e w7 ht
  obtain ⟨c5, b5, rfl, h15, hl5, hc5, hp6, ho5⟩ := ht.agg (fun _ => rfl)
  have hl5 : c5.length = 33 := hl5
  have hgl5 := hp5.lt
  have hz7 := Nat.le_trans hz6 hc5.size
  have HO5 := Lib.hid ho5
  have HC5 := Lib.hid hc5
  have H15 := Lib.hid h15
  have HL5 := Lib.hid hl5
  clear hl5
  clear ht ho5 hc5 h15 hp5
  have hbu := run_struct (P := Tryz.prog) (vs := [y0, y1, y2, .agg c3.toArray, y4, .agg c5.toArray]) (cs := [[y0], [y1], [y2], c3, [y4], c5]) info_readVote places_readVote ⟨cells_one H10.out, cells_one H11.out, cells_one H12.out, rfl, cells_one H14.out, rfl, trivial⟩ (by simp [PlaceOk, HL3.out, HL5.out]) (by simp [HL3.out, HL5.out]) #[(0, y0), (1, y1), (2, y2), (3, .agg c3.toArray), (4, y4), (5, .agg c5.toArray)] rfl
  have hone : ∀ v ∈ [[y0], [y1], [y2], c3, [y4], c5].flatten, v.oneCell' = true := by
    intro v hv
    simp only [List.flatten_cons, List.flatten_nil, List.mem_append, List.mem_singleton, List.not_mem_nil, or_false] at hv
    rcases hv with rfl | rfl | rfl | hv | rfl | hv
    · exact H10.out
    · exact H11.out
    · exact H12.out
    · exact H13.out v hv
    · exact H14.out
    · exact H15.out v hv
  have HOUT := Lib.hid (show Fs.Out (.cons i64 (.cons i64 (.cons i64 (.cons .dig (.cons i64 (.cons tSig .nil)))))) w7 (Nw (w.heap.size + 1) w7) [r0, r1, r2, r3, r4, r5] [[y0], [y1], [y2], c3, [y4], c5].flatten bad b5 from by
    have := Fs.Out.step HO0.out (Fs.Out.step HO1.out (Fs.Out.step HO2.out (Fs.Out.step HO3.out (Fs.Out.step HO4.out (Fs.Out.step HO5.out (Fs.Out.nil_ w7 _ _) (Chg.refl _ _) hgl5 hz6) HC5.out hgl4 hz5) (HC4.out.trans HC5.out fun b h => .inl h) hgl3 hz4) ((HC3.out.trans HC4.out fun b h => .inl h).trans HC5.out fun b h => .inl h) hgl2 hz3) (((HC2.out.trans HC3.out fun b h => .inl h).trans HC4.out fun b h => .inl h).trans HC5.out fun b h => .inl h) hgl1 hz2) ((((HC1.out.trans HC2.out fun b h => .inl h).trans HC3.out fun b h => .inl h).trans HC4.out fun b h => .inl h).trans HC5.out fun b h => .inl h) hgl0 hz1
    simpa using this)
  have HCA := Lib.hid (show Chg (fun k => k = g) w1 w7 from (((((HC0.out.trans HC1.out fun b h => .inl h).trans HC2.out fun b h => .inl h).trans HC3.out fun b h => .inl h).trans HC4.out fun b h => .inl h).trans HC5.out fun b h => .inl h))
  have hcl : [[y0], [y1], [y2], c3, [y4], c5].flatten.length = 69 := by simp [HL3.out, HL5.out]
  obtain ⟨C, hC⟩ : ∃ C, C = [[y0], [y1], [y2], c3, [y4], c5].flatten := ⟨_, rfl⟩
  rw [← hC] at hbu hone hcl HOUT
  have HBU := Lib.hid hbu
  have HONE := Lib.hid hone
  have HCL := Lib.hid hcl
  have HI := Lib.hid (show (Tryz.prog.info? 90).map (·.size) = some C.length from by rw [hcl]; exact size_readVote)
  have HK2 := Lib.hid (HK.out.chg HCA.out (show ¬ w.heap.size = g from by omega))
  clear hbu hone hcl hC HK HO0 HC0 H10 HO1 HC1 H11 HO2 HC2 H12 HO3 HC3 H13 HO4 HC4 H14 HO5 HC5 H15 HL3 HL5
  have HP := Lib.hid hp6
  have hgX := hp6.lt
  clear hp6
  have hbu := HBU.out w7
  have HX := Lib.hid (HP.out.parts)
  go_wp2_with (first | (refine wpList_build_ rfl 90 _ rfl #[(0, y0), (1, y1), (2, y2), (3, .agg c3.toArray), (4, y4), (5, .agg c5.toArray)] (by simp [Act.eval]) _ hbu ?_) | (refine wpList_store_blk (cs0 := ([.int .i64 0, .int .i64 0, .int .i64 0] ++ List.replicate 32 (.int .u8 0) ++ [.int .i64 0] ++ ([.int .i64 0] ++ List.replicate 32 (.int .u8 0)) : List Value)) (cs := C) rfl 90 _ _ rfl (Blk.new w7 _ _) rfl rfl (by rw [HCL.out]; rfl) HI.out HONE.out ?_; intro wx hbx hcx; have HBX := Lib.hid hbx; have HCX := Lib.hid hcx; clear hbx hcx))
  obtain ⟨vy, ey, hblk, herr⟩ := HX.out
  have HCX' := Lib.hid (show Chg (fun _ => False) w7 wx from ((Chg.refl _ w7).alloc _).trans HCX.out fun b h => .inr (Nat.le_of_eq h.symm))
  have HGX := Lib.hid (hblk.chg HCX'.out id)
  have HKX := Lib.hid (HK2.out.chg HCX'.out id)
  have HE := Lib.hid herr
  clear hbu hblk herr HX HBU
  refine wp_region_hoist [0, 1, 2, 3, 4] [5] [6] (fun w' => Blk w' w7.heap.size 90 C.toArray ∧ Blk w' g 168 #[vy, ey])
    (by kernel_rfl) (by kernel_rfl) (by kernel_rfl) (by kernel_rfl) (by kernel_rfl) (by kernel_rfl) ⟨HBX.out.drew, HGX.out.drew⟩ ?_
  (refine HoistK.load (by rfl) (by kernel_rfl) 90 _ rfl w7.heap.size 0 rfl C _ (fun w' hw => hw.1.range) Tryz.underlying90 rfl HI.out ?_; simp only [Act.put, setIfInBounds_toArray, getElem_toArray, getElem_cons_zero, set_cons_succ, set_cons_zero])
  iterate 3 (refine HoistK.yes (by rfl) (by kernel_rfl) ⟨?_, fun w' hSw => ?_, ?_⟩; rotate_left; (· go_simp; try with_reducible rfl); simp only [Act.put, setIfInBounds_toArray, getElem_toArray, getElem_cons_succ, getElem_cons_zero, set_cons_succ, set_cons_zero])
  (refine HoistK.yes (by rfl) (by kernel_rfl) ⟨?_, fun w' hSw => ?_, ?_⟩; rotate_left; (· have hcc := hSw.2.cell; go_simp; try with_reducible rfl); simp only [Act.put, setIfInBounds_toArray, getElem_toArray, getElem_cons_succ, getElem_cons_zero, set_cons_succ, set_cons_zero])
  refine HoistK.nil_ ?_
  simp only [opsAt, filterMap_cons, filterMap_nil, getElem?_toArray, getElem?_cons_succ, getElem?_cons_zero]
  refine Effects.cons_ fun _ hQ1 => ?_
  go_wp2_with (refine wpList_store_blk (cs0 := ([.int .i64 0, .int .i64 0, .int .i64 0] ++ List.replicate 32 (.int .u8 0) ++ [.int .i64 0] ++ ([.int .i64 0] ++ List.replicate 32 (.int .u8 0)) : List Value)) (cs := C) rfl 90 _ _ rfl HKX.out.drew rfl rfl (by rw [HCL.out]; rfl) HI.out HONE.out ?_; intro wy hby hcy; have HBY := Lib.hid hby; have HCY := Lib.hid hcy; clear hby hcy)
  refine hQ1 _ _ ⟨HBX.out.drew.chg HCY.out (fun h => by omega), HGX.out.drew.chg HCY.out (fun h => by omega)⟩ (Effects.nil_ fun _ hQ2 => ?_)
  go_wp2
  have hld := run_loadVar_mid (P := Tryz.prog) wy w.heap.size 0 90 C _ HBY.out.range Tryz.underlying90 rfl HI.out
  refine bodyPost_ret (v := .tuple #[.agg C.toArray, ey]) (by simp [results, Tryz.results65, asAddr, hld]) rfl ?_
  have hcf : Chg (fun b => b = w.heap.size) w7 wy := ((HCX'.out.mono fun _ h => h.elim).drew).trans HCY.out fun b h => .inl h
  exact ReadOut.mk (n := 6) HOUT.out HSS.out rfl HE.out (HB1.out.trans (HCA.out.below HB1.out.size fun b h => by omega)) hcf
end
section
open Go.RowKit Go.Maps
attribute [-simp] Tryz.isAgg36 Tryz.typeInfo36 Tryz.isAgg90 Tryz.typeInfo90
def zFVote : List Value := ([.int .i64 0, .int .i64 0, .int .i64 0] ++ List.replicate 32 (.int .u8 0) ++ [.int .i64 0] ++ ([.int .i64 0] ++ List.replicate 32 (.int .u8 0)) : List Value)
set_option maxRecDepth 100000 in
theorem one_faceVote : ∀ v ∈ zFVote, v.oneCell' = true := by decide
set_option maxRecDepth 100000 in
theorem len_faceVote : zFVote.length = 69 := by decide
theorem size_faceVote : (Tryz.prog.info? 90).map (·.size) = some zFVote.length := by kernel_rfl
set_option maxHeartbeats 8000000 in
set_option maxRecDepth 100000 in
theorem faceVote_any (w : World) {S : Nat → Prop} {v sent : Value} {bs : List UInt8} (h : Bs w S v bs) (hp : Pk w sent) :
    Calls Tryz.prog 64 #[v, .func (Fn.func 65) #[] #[]] w (FaceOutN tVote zFVote w bs) := by
  obtain ⟨A, cap, rfl⟩ := h.form
  have hal1 := (Below.refl w.heap.size w).alloc (Nat.le_refl _) (.cells (zFVote).toArray 90)
  have hal2 := hal1.alloc (by simp) (.cells (zFVote).toArray 90)
  have hr0 := (Blk.new w 90 (zFVote).toArray).alloc (.cells (zFVote).toArray 90)
  have hz0 := Blk.new (w.alloc (.cells (zFVote).toArray 90)) 90 (zFVote).toArray
  rw [show (w.alloc (.cells (zFVote).toArray 90)).heap.size = w.heap.size + 1 by simp] at hz0
  by_cases hbig : 262144 < bs.length
  · obtain ⟨sb, hsb⟩ : ∃ sb, w.cell? ⟨0, 0, none⟩ = some (.iface 237 (.pointer (some sb))) := by
      obtain ⟨_, _, b, _, _, _, _, _, _, _, _, h, _⟩ := hp
      exact ⟨b, h⟩
    have hgb : ∀ {W : World}, Below w.heap.size w W → W.cell? ⟨0, 0, none⟩ = some (.iface 237 (.pointer (some sb))) := fun hb => cell_low hsb hb
    clear h
    go_enter Tryz.func64, Tryz.ntmps64
    go_wp2_with fail
    have hb := hal2.drew
    have hr : Blk _ _ _ _ := hr0.drew
    have hz : Blk _ _ _ _ := hz0.drew
    clear hal1 hal2 hz0 hsb
    refine wp_region_hoist [0, 1, 2] [3, 4, 5] [6, 7] (fun w' => Blk w' (w.heap.size + 1) 90 (zFVote).toArray ∧ w'.cell? ⟨0, 0, none⟩ = some (.iface 237 (.pointer (some sb)))) (by kernel_rfl) (by kernel_rfl) (by kernel_rfl) (by kernel_rfl) (by kernel_rfl) (by kernel_rfl) ⟨hz, hgb hb⟩ ?_
    (refine HoistK.load (by rfl) (by kernel_rfl) 90 _ rfl (w.heap.size + 1) 0 rfl zFVote _ (fun w' hw => hw.1.range) Tryz.underlying90 rfl size_faceVote ?_; simp only [Act.put, setIfInBounds_toArray, getElem_toArray, getElem_cons_zero, set_cons_succ, set_cons_zero])
    (refine HoistK.yes (by rfl) (by kernel_rfl) ⟨?_, fun w' hSw => ?_, ?_⟩; rotate_left; (· have hcc := hSw.2; go_simp; try with_reducible rfl); simp only [Act.put, setIfInBounds_toArray, getElem_toArray, getElem_cons_succ, getElem_cons_zero, set_cons_succ, set_cons_zero])
    (refine HoistK.yes (by rfl) (by kernel_rfl) ⟨?_, fun w' hSw => ?_, ?_⟩; rotate_left; (· go_simp; try with_reducible rfl); simp only [Act.put, setIfInBounds_toArray, getElem_toArray, getElem_cons_succ, getElem_cons_zero, set_cons_succ, set_cons_zero])
    refine HoistK.nil_ ?_
    simp only [opsAt, filterMap_cons, filterMap_nil, getElem?_toArray, getElem?_cons_succ, getElem?_cons_zero]
    refine Effects.world (F := fun W => Below w.heap.size w W ∧ Blk W w.heap.size 90 (zFVote).toArray ∧ Blk W (w.heap.size + 1) 90 (zFVote).toArray) (fun W hF => ?_) ⟨hb, hr, hz⟩
    clear hb hr hz hr0
    obtain ⟨hb, hr, hz⟩ := hF
    refine Effects.cons_ fun _ hQ => ?_
    have hzl := hz.lt
    go_wp2_with fail
    have hk := Blk.new W 158 #[.string ⟨#[97, 108, 108]⟩, .iface 237 (.pointer (some sb))]
    replace hb := hb.alloc hb.size (.cells #[.string ⟨#[97, 108, 108]⟩, .iface 237 (.pointer (some sb))] 158)
    replace hr := hr.alloc (.cells #[.string ⟨#[97, 108, 108]⟩, .iface 237 (.pointer (some sb))] 158)
    replace hz := hz.alloc (.cells #[.string ⟨#[97, 108, 108]⟩, .iface 237 (.pointer (some sb))] 158)
    obtain ⟨gg, hgg⟩ : ∃ gg, gg = W.heap.size := ⟨_, rfl⟩
    have hgn : gg ≠ w.heap.size := by omega
    rw [← hgg] at hk ⊢
    have HGG := Lib.hid hgg; clear hgg
    generalize W.alloc (.cells #[.string ⟨#[97, 108, 108]⟩, .iface 237 (.pointer (some sb))] 158) = W1 at *
    refine hQ _ _ ⟨hz, hgb hb⟩ (Effects.cons_ fun _ hQ => ?_)
    go_wp2_with fail
    refine hQ _ _ ⟨hz, hgb hb⟩ (Effects.cons_ fun _ hQ => ?_)
    go_wp2_with fail
    refine (told_any (r := true) _ (hp.below hb) ⟨gg, 1, _, rfl, .more hk .last, hgb hb⟩).mono ?_
    rintro e W2 ⟨rfl, hb2⟩
    replace hb := hb.trans (hb2.mono hb.size)
    replace hr := hr.below hb2 hr.lt
    replace hz := hz.below hb2 hz.lt
    replace hk := hk.below hb2 hk.lt
    go_wp2_with fail
    refine hQ _ _ ⟨hz, hgb hb⟩ (Effects.nil_ fun _ hQ => ?_)
    refine wpList_store_blk (cs0 := zFVote) (cs := zFVote) rfl 90 _ _ rfl hr rfl rfl rfl size_faceVote one_faceVote ?_
    intro W3 hr3 hc3
    go_wp2_with fail
    replace hb := hb.trans (hc3.below hb.size fun b h => Nat.le_of_eq h.symm)
    have hld := run_loadVar_mid (P := Tryz.prog) _ w.heap.size 0 90 zFVote _ hr3.range Tryz.underlying90 rfl size_faceVote
    exact bodyPost_ret (v := .tuple #[.agg (zFVote).toArray, .int .i64 4]) (by simp [results, Tryz.results64, asAddr, hld]) rfl ⟨hb, _, 4, rfl, len_faceVote, one_faceVote, .inl ⟨hbig, rfl, rfl⟩⟩
  · have hlen : bs.length ≤ 262144 := by omega
    have HR := Lib.hid (readVote_any _ (h.below hal2) hlen (hp.1.below hal2))
    have HA := Lib.hid hal2
    have HR0 := Lib.hid hr0
    have HZ0 := Lib.hid hz0
    clear h hal1 hal2 hr0 hz0
    go_enter Tryz.func64, Tryz.ntmps64
    go_wp2_with fail
    refine HR.out.mono ?_
    rintro e w2 hro
    obtain ⟨C, err, bd, rfl, h1, hl, hb2, he, ho⟩ := hro.agg (fun _ => rfl)
    have hl : C.length = 69 := hl
    have HL := Lib.hid hl
    have HI := Lib.hid (show (Tryz.prog.info? 90).map (·.size) = some C.length from by rw [hl]; rw [size_faceVote, len_faceVote])
    have H1 := Lib.hid h1
    have HK := Lib.hid (HR0.out.below hb2 HR0.out.lt)
    have HZ := Lib.hid (HZ0.out.below hb2 HZ0.out.lt)
    have hz2 : w.heap.size + 2 ≤ w2.heap.size := by have := hb2.size; simpa using this
    have HB2 := Lib.hid (HA.out.trans (hb2.mono HA.out.size))
    have HO := Lib.hid (show SOut tVote w2 (Nw (w.heap.size + 2) w2) bs C false bd from ho.nw (fun b _ hlt => ⟨hlt, rfl⟩) (by simp))
    have he := he.to (w' := w2) (S' := fun b => w.heap.size + 2 ≤ b) (fun b _ hlt => ⟨hlt, rfl⟩) fun b hb _ => by simpa using hb
    clear hro h1 hl hb2 ho HR HA HR0 HZ0
    rcases he with ⟨rfl, rfl⟩ | ⟨rfl, hch⟩
    · go_wp2_with (first
        | (refine wpList_store_blk (cs0 := zFVote) (cs := C) rfl 90 _ _ rfl (Blk.new w2 _ _) rfl rfl (by rw [HL.out]; exact len_faceVote) HI.out H1.out ?_; intro w3 hb3 hc3; have HB3 := Lib.hid hb3
           have HC3 := Lib.hid (show Chg (fun _ => False) w2 w3 from ((Chg.refl _ w2).alloc _).trans hc3 fun b h => .inr (Nat.le_of_eq h.symm)); clear hb3 hc3
           have HK3 := Lib.hid (HK.out.chg HC3.out id))
        | (refine wpList_load_blk' rfl 90 _ rfl HB3.out rfl Tryz.underlying90 rfl HI.out ?_)
        | (refine wpList_store_blk (cs0 := zFVote) (cs := C) rfl 90 _ _ rfl HK3.out rfl rfl (by rw [HL.out]; exact len_faceVote) HI.out H1.out ?_; intro w9 hb9 hc9; have HB9 := Lib.hid hb9; have HC9 := Lib.hid hc9; clear hb9 hc9))
      have hld := run_loadVar_mid (P := Tryz.prog) w9 w.heap.size 0 90 C _ HB9.out.range Tryz.underlying90 rfl HI.out
      refine bodyPost_ret (v := .tuple #[.agg C.toArray, .int .i64 0]) (by simp [results, Tryz.results64, asAddr, hld]) rfl ?_
      obtain ⟨o1, o2, o3⟩ := HO.out
      have hc29 : Chg (fun b => b = w.heap.size) w2 w9 := (HC3.out.mono (M' := fun b => b = w.heap.size) fun _ h => h.elim).trans HC9.out fun b h => .inl h
      refine ⟨HB2.out.trans (hc29.below HB2.out.size fun b h => Nat.le_of_eq h.symm), C, 0, rfl, o1, o2, .inr ⟨hlen, .inl ?_⟩⟩
      rcases o3 with ⟨x, e1, _, e3⟩ | ⟨_, e2⟩
      · exact ⟨x, e1, rfl, Sh.rep_to (fun b hb hlt => ⟨ltle hlt hc29.size, hc29.block b hlt fun e => by have := hb.1; omega⟩) (fun b hb hlt => hb.to (by omega) (hc29.block b hlt fun e => by have := hb.1; omega)) _ _ _ e3⟩
      · cases e2
    · obtain ⟨gw, rfl⟩ := hch.form
      have HCH := Lib.hid hch; clear hch
      have hno : Sh.dec tVote bs = none := by
        obtain ⟨_, _, o3⟩ := HO.out
        rcases o3 with ⟨x, _, e2, _⟩ | ⟨e1, _⟩
        · cases e2
        · exact e1
      have HNO := Lib.hid hno; clear hno
      go_wp2_with (refine wpList_store_blk (cs0 := zFVote) (cs := C) rfl 90 _ _ rfl (Blk.new w2 _ _) rfl rfl (by rw [HL.out]; exact len_faceVote) HI.out H1.out ?_; intro w3 hb3 hc3; have HC3 := Lib.hid (show Chg (fun _ => False) w2 w3 from ((Chg.refl _ w2).alloc _).trans hc3 fun b h => .inr (Nat.le_of_eq h.symm)); clear hb3 hc3)
      have hr : Blk _ _ _ _ := (HK.out.chg HC3.out id).drew
      have hz : Blk _ _ _ _ := (HZ.out.chg HC3.out id).drew
      have hb := (HB2.out.trans (HC3.out.below HB2.out.size fun b h => h.elim)).drew
      have hch3 := HCH.out.to (w' := w3.drew) (S' := fun b => w.heap.size + 2 ≤ b) (fun b hb hlt => ⟨ltle hlt HC3.out.size, HC3.out.block b hlt id⟩) fun b hb _ => hb
      have hz3 : w.heap.size + 2 ≤ w3.drew.heap.size := Nat.le_trans hz2 HC3.out.size
      refine wp_region_hoist [0, 1] [2] [3, 4] (fun w' => Blk w' (w.heap.size + 1) 90 (zFVote).toArray) (by kernel_rfl) (by kernel_rfl) (by kernel_rfl) (by kernel_rfl) (by kernel_rfl) (by kernel_rfl) hz ?_
      (refine HoistK.load (by rfl) (by kernel_rfl) 90 _ rfl (w.heap.size + 1) 0 rfl zFVote _ (fun w' hw => hw.range) Tryz.underlying90 rfl size_faceVote ?_; simp only [Act.put, setIfInBounds_toArray, getElem_toArray, getElem_cons_zero, set_cons_succ, set_cons_zero])
      (refine HoistK.yes (by rfl) (by kernel_rfl) ⟨?_, fun w' hSw => ?_, ?_⟩; rotate_left; (· go_simp; try with_reducible rfl); simp only [Act.put, setIfInBounds_toArray, getElem_toArray, getElem_cons_succ, getElem_cons_zero, set_cons_succ, set_cons_zero])
      refine HoistK.nil_ ?_
      simp only [opsAt, filterMap_cons, filterMap_nil, getElem?_toArray, getElem?_cons_succ, getElem?_cons_zero]
      refine Effects.world (F := fun W => Below w.heap.size w W ∧ Blk W w.heap.size 90 (zFVote).toArray ∧ Blk W (w.heap.size + 1) 90 (zFVote).toArray ∧ Chain W (fun b => w.heap.size + 2 ≤ b) sent (.iface 154 (.pointer (some ⟨gw, 0, none⟩)))) (fun W hF => ?_) ⟨hb, hr, hz, hch3⟩
      clear hb hr hz hch3 hz3
      obtain ⟨hb, hr, hz, hch⟩ := hF
      refine Effects.cons_ fun _ hQ => ?_
      go_wp2_with fail
      refine (told_any (r := false) _ (hp.below hb) (Wr.of_chain hch)).mono ?_
      rintro e W2 ⟨rfl, hb2⟩
      replace hb := hb.trans (hb2.mono hb.size)
      replace hr := hr.below hb2 hr.lt
      replace hz := hz.below hb2 hz.lt
      go_wp2_with fail
      refine hQ _ _ hz (Effects.nil_ fun _ hQ => ?_)
      refine wpList_store_blk (cs0 := zFVote) (cs := zFVote) rfl 90 _ _ rfl hr rfl rfl rfl size_faceVote one_faceVote ?_
      intro W3 hr3 hc3
      go_wp2_with fail
      replace hb := hb.trans (hc3.below hb.size fun b h => Nat.le_of_eq h.symm)
      have hld := run_loadVar_mid (P := Tryz.prog) _ w.heap.size 0 90 zFVote _ hr3.range Tryz.underlying90 rfl size_faceVote
      exact bodyPost_ret (v := .tuple #[.agg (zFVote).toArray, .int .i64 5]) (by simp [results, Tryz.results64, asAddr, hld]) rfl ⟨hb, _, 5, rfl, len_faceVote, one_faceVote, .inr ⟨hlen, .inr ⟨HNO.out, rfl, rfl⟩⟩⟩
set_option maxHeartbeats 4000000 in
set_option maxRecDepth 100000 in
theorem ReadVote_anyN (w : World) {S : Nat → Prop} {v sent : Value} {bs : List UInt8} (h : Bs w S v bs) (hp : Pk w sent) :
    Calls Tryz.prog 28 #[v] w (FaceOutN tVote zFVote w bs) := by
  have hal1 := (Below.refl w.heap.size w).alloc (Nat.le_refl _) (.cells (zFVote).toArray 90)
  have HF := Lib.hid (faceVote_any _ (h.below hal1) (hp.below hal1))
  have HR := Lib.hid (Blk.new w 90 (zFVote).toArray)
  have HA := Lib.hid hal1
  obtain ⟨A, cap, rfl⟩ := h.form
  clear h hp hal1
  go_enter Tryz.func28, Tryz.ntmps28
  go_wp2_with fail
  refine HF.out.mono ?_
  rintro e w1 ⟨hb, C, n, rfl, hl, h1, hn⟩
  have hl : C.length = 69 := hl
  have HL := Lib.hid hl
  have HI := Lib.hid (show (Tryz.prog.info? 90).map (·.size) = some C.length from by rw [hl]; rw [size_faceVote, len_faceVote])
  have H1 := Lib.hid h1
  have hlz : (zFVote).length = C.length := by rw [hl, len_faceVote]
  have HLZ := Lib.hid hlz
  have HK := Lib.hid (HR.out.below hb (by simp))
  have HB := Lib.hid hb
  have HN := Lib.hid hn
  have hz1 : w.heap.size + 1 ≤ w1.heap.size := by have := hb.size; simpa using this
  clear hl h1 hlz hb hn HF HR
  go_wp2_with (refine wpList_store_blk (cs0 := zFVote) (cs := C) rfl 90 _ _ rfl HK.out rfl rfl HLZ.out HI.out H1.out ?_; intro w9 hb9 hc9; have HB9 := Lib.hid hb9; have HC9 := Lib.hid hc9; clear hb9 hc9)
  have hld := run_loadVar_mid (P := Tryz.prog) w9 w.heap.size 0 90 C _ HB9.out.range Tryz.underlying90 rfl HI.out
  refine bodyPost_ret (v := .tuple #[.agg C.toArray, .int .i64 n]) (by simp [results, Tryz.results28, asAddr, hld]) rfl ?_
  have hbw := HA.out.trans (HB.out.mono HA.out.size)
  refine ⟨hbw.trans (HC9.out.below hbw.size fun b h => Nat.le_of_eq h.symm), C, n, rfl, HL.out, H1.out, HN.out.imp id fun ⟨q1, q2⟩ => ⟨q1, q2.imp (fun ⟨x, e1, e2, e3⟩ => ⟨x, e1, e2, ?_⟩) id⟩⟩
  exact Sh.rep_to (fun b hb hlt => ⟨ltle hlt HC9.out.size, HC9.out.block b hlt fun e => by have hb := hb.1; simp at hb; omega⟩) (fun b hb hlt => hb.to (by simp) (HC9.out.block b hlt fun e => by have hb := hb.1; simp at hb; omega)) _ _ _ e3
theorem ReadVote_any (w : World) {S : Nat → Prop} {v sent : Value} {bs : List UInt8} (h : Bs w S v bs) (hp : Pk w sent) :
    Calls Tryz.prog 28 #[v] w (FaceOut tVote w bs) :=
  (ReadVote_anyN w h hp).mono fun _ _ h => h.weak
end
section
open Go.RowKit Go.Maps
attribute [-simp] Tryz.isAgg36 Tryz.typeInfo36 Tryz.isAgg81 Tryz.typeInfo81
set_option maxHeartbeats 8000000 in
set_option maxRecDepth 100000 in
theorem rVote_any (w : World) {S : Nat → Prop} {x : tVote.El} {cs : List Value} (h : tVote.rep w S x cs) (hl : (tVote.enc x).length ≤ 1099511627776) :
    Calls Tryz.prog 30 #[.agg cs.toArray] w fun e w' => ∃ v', e = .returned v' ∧ Fresh w w' v' (tVote.enc x) := by
  obtain ⟨x0, x1, x2, x3, x4, x5, _⟩ := x
  obtain ⟨c0, _, rfl, ⟨rfl, _⟩, c1, _, rfl, ⟨rfl, _⟩, c2, _, rfl, ⟨rfl, _⟩, c3, _, rfl, ⟨rfl, l3⟩, c4, _, rfl, ⟨rfl, _⟩, c5, _, rfl, r5, rfl⟩ := h
  have l5 : c5.length = 33 := Sh.rep_size _ _ _ r5
  obtain ⟨y5, hy5⟩ : ∃ y, y = c5 := ⟨_, rfl⟩
  subst hy5
  have R5 := Lib.hid r5; clear r5
  simp only [nk_t]
  obtain ⟨C, hC⟩ : ∃ C, C = [Value.int .i64 x0] ++ ([Value.int .i64 x1] ++ ([Value.int .i64 x2] ++ (u8s x3 ++ ([Value.int .i64 x4] ++ (y5 ++ ([])))))) := ⟨_, rfl⟩
  rw [← hC]
  have hf : ∀ w', Blk w' w.heap.size 90 C.toArray → w'.cell? ⟨w.heap.size, 0, none⟩ = some (.int .i64 x0) ∧ w'.cell? ⟨w.heap.size, 1, none⟩ = some (.int .i64 x1) ∧ w'.cell? ⟨w.heap.size, 2, none⟩ = some (.int .i64 x2) ∧ w'.rangeAt w.heap.size 3 (u8s x3) ∧ w'.cell? ⟨w.heap.size, 35, none⟩ = some (.int .i64 x4) ∧ w'.rangeAt w.heap.size 36 y5 := fun w' hb => by
    have := hb.lies [[Value.int .i64 x0], [Value.int .i64 x1], [Value.int .i64 x2], u8s x3, [Value.int .i64 x4], y5] [] (by rw [hC]; simp)
    simp only [Lies, u8s_length, l3, List.length_cons, List.length_nil] at this
    obtain ⟨s0, s1, s2, s3, s4, s5, _⟩ := this
    exact ⟨Lies.one s0, Lies.one s1, Lies.one s2, s3, Lies.one s4, s5⟩
  have HF := Lib.hid hf
  clear hf hC
  have L3 := Lib.hid l3; clear l3
  have L5 := Lib.hid l5; clear l5
  have hl' : (joinB [numB x0, numB x1, numB x2, x3, numB x4, tSig.enc x5]).length ≤ 1099511627776 := hl
  have HLL := Lib.hid hl'
  clear hl hl'
  go_enter Tryz.func30, Tryz.ntmps30
  go_wp2_with fail
  have hsz := (Blk.new w 90 C.toArray).lt
  have hb0 : Blk (w.alloc (.cells C.toArray 90)).drew w.heap.size 90 C.toArray := (Blk.new w 90 C.toArray).drew
  have hbw : Below w.heap.size w (w.alloc (.cells C.toArray 90)).drew := ((Below.refl w.heap.size w).alloc (Nat.le_refl _) _).drew
  have D3 := Lib.hid (Bs.of_range32 (S := fun b => b = w.heap.size) rfl hb0.lt ((HF.out _ hb0).2.2.2.1) L3.out)
  refine wp_region_hoist [0, 1, 2, 4, 5, 6, 8, 9, 10, 12, 13, 14, 15, 16, 18, 19] [3, 7, 11, 17, 20] [21, 22, 23] (fun w' => Blk w' w.heap.size 90 C.toArray)
    (by kernel_rfl) (by kernel_rfl) (by kernel_rfl) (by kernel_rfl) (by kernel_rfl) (by kernel_rfl) hb0 ?_
  (refine HoistK.yes (by rfl) (by kernel_rfl) ⟨?_, fun w' hSw => ?_, ?_⟩; rotate_left; (· go_simp; try with_reducible rfl); simp only [Act.put, setIfInBounds_toArray, getElem_toArray, getElem_cons_zero, set_cons_succ, set_cons_zero])
  (refine HoistK.yes (by rfl) (by kernel_rfl) ⟨?_, fun w' hSw => ?_, ?_⟩; rotate_left; (· obtain ⟨s0, s1, s2, s3, s4, s5⟩ := HF.out _ hSw; go_simp; try with_reducible rfl); simp only [Act.put, setIfInBounds_toArray, getElem_toArray, getElem_cons_succ, getElem_cons_zero, set_cons_succ, set_cons_zero])
  iterate 2 (refine HoistK.yes (by rfl) (by kernel_rfl) ⟨?_, fun w' hSw => ?_, ?_⟩; rotate_left; (· go_simp; try with_reducible rfl); simp only [Act.put, setIfInBounds_toArray, getElem_toArray, getElem_cons_succ, getElem_cons_zero, set_cons_succ, set_cons_zero])
  (refine HoistK.yes (by rfl) (by kernel_rfl) ⟨?_, fun w' hSw => ?_, ?_⟩; rotate_left; (· obtain ⟨s0, s1, s2, s3, s4, s5⟩ := HF.out _ hSw; go_simp; try with_reducible rfl); simp only [Act.put, setIfInBounds_toArray, getElem_toArray, getElem_cons_succ, getElem_cons_zero, set_cons_succ, set_cons_zero])
  iterate 2 (refine HoistK.yes (by rfl) (by kernel_rfl) ⟨?_, fun w' hSw => ?_, ?_⟩; rotate_left; (· go_simp; try with_reducible rfl); simp only [Act.put, setIfInBounds_toArray, getElem_toArray, getElem_cons_succ, getElem_cons_zero, set_cons_succ, set_cons_zero])
  (refine HoistK.yes (by rfl) (by kernel_rfl) ⟨?_, fun w' hSw => ?_, ?_⟩; rotate_left; (· obtain ⟨s0, s1, s2, s3, s4, s5⟩ := HF.out _ hSw; go_simp; try with_reducible rfl); simp only [Act.put, setIfInBounds_toArray, getElem_toArray, getElem_cons_succ, getElem_cons_zero, set_cons_succ, set_cons_zero])
  iterate 4 (refine HoistK.yes (by rfl) (by kernel_rfl) ⟨?_, fun w' hSw => ?_, ?_⟩; rotate_left; (· go_simp; try with_reducible rfl); simp only [Act.put, setIfInBounds_toArray, getElem_toArray, getElem_cons_succ, getElem_cons_zero, set_cons_succ, set_cons_zero])
  (refine HoistK.yes (by rfl) (by kernel_rfl) ⟨?_, fun w' hSw => ?_, ?_⟩; rotate_left; (· obtain ⟨s0, s1, s2, s3, s4, s5⟩ := HF.out _ hSw; go_simp; try with_reducible rfl); simp only [Act.put, setIfInBounds_toArray, getElem_toArray, getElem_cons_succ, getElem_cons_zero, set_cons_succ, set_cons_zero])
  iterate 2 (refine HoistK.yes (by rfl) (by kernel_rfl) ⟨?_, fun w' hSw => ?_, ?_⟩; rotate_left; (· go_simp; try with_reducible rfl); simp only [Act.put, setIfInBounds_toArray, getElem_toArray, getElem_cons_succ, getElem_cons_zero, set_cons_succ, set_cons_zero])
  (refine HoistK.load (by rfl) (by kernel_rfl) 81 _ rfl w.heap.size 36 rfl (y5) _ (fun w' hw => (HF.out w' hw).2.2.2.2.2) Tryz.underlying81 rfl (by rw [L5.out]; kernel_rfl) ?_; simp only [Act.put, setIfInBounds_toArray, getElem_toArray, getElem_cons_succ, getElem_cons_zero, set_cons_succ, set_cons_zero])
  refine HoistK.nil_ ?_
  simp only [opsAt, filterMap_cons, filterMap_nil, getElem?_toArray, getElem?_cons_succ, getElem?_cons_zero]
  have g0 : Got (w.alloc (.cells C.toArray 90)).drew (w.alloc (.cells C.toArray 90)).drew [] [] := Got.start (Below.refl _ _)
  refine Effects.cons_ fun _ hQ1 => ?_
  go_wp2_with fail
  refine (rNumI_any _ _).mono ?_
  rintro e u1 ⟨v1, rfl, f1⟩
  have g1 := g0.step f1
  have hb1 := hb0.below f1.2 hb0.lt
  clear f1
  go_wp2_with fail
  refine hQ1 _ _ hb1 (Effects.cons_ fun _ hQ2 => ?_)
  clear hQ1 hb0 g0
  go_wp2_with fail
  refine (rNumI_any _ _).mono ?_
  rintro e u2 ⟨v2, rfl, f2⟩
  have g2 := g1.step f2
  have hb2 := hb1.below f2.2 hb1.lt
  clear f2
  go_wp2_with fail
  refine hQ2 _ _ hb2 (Effects.cons_ fun _ hQ3 => ?_)
  clear hQ2 hb1 g1
  go_wp2_with fail
  refine (rNumI_any _ _).mono ?_
  rintro e u3 ⟨v3, rfl, f3⟩
  have g3 := g2.step f3
  have hb3 := hb2.below f3.2 hb2.lt
  clear f3
  go_wp2_with fail
  refine hQ3 _ _ hb3 (Effects.cons_ fun _ hQ4 => ?_)
  clear hQ3 hb2 g2
  have g4 := g3.old D3.out
  clear g3
  go_wp2_with fail
  refine (rNumI_any _ _).mono ?_
  rintro e u4 ⟨v5, rfl, f4⟩
  have g5 := g4.step f4
  have hb4 := hb3.below f4.2 hb3.lt
  clear f4
  go_wp2_with fail
  refine hQ4 _ _ hb4 (Effects.cons_ fun _ hQ5 => ?_)
  clear hQ4 hb3 g4
  go_wp2_with fail
  refine (rSig_any _ (Sh.rep_below R5.out (hbw.trans (g5.1.mono hbw.size))) (by have h1 := HLL.out; rw [joinB_length] at h1; have h2 := joinP_mem (l := [numB x0, numB x1, numB x2, x3, numB x4, tSig.enc x5]) (x := tSig.enc x5) (by simp); omega)).mono ?_
  rintro e u5 ⟨v6, rfl, f5⟩
  have g6 := g5.step f5
  have hb5 := hb4.below f5.2 hb4.lt
  clear f5
  go_wp2_with fail
  refine hQ5 _ _ hb5 (Effects.nil_ fun _ hQ6 => ?_)
  clear hQ5 hb4 g5
  have hcs : ∀ v ∈ [v1, v2, v3, (.slice (some ⟨w.heap.size, 3, none⟩) 32 32), v5, v6], v.cells = #[v] := fun v hv => by
    obtain ⟨i, hi, rfl⟩ := List.getElem_of_mem hv
    obtain ⟨y, _, hr⟩ := g6.2.get i hi
    obtain ⟨A, c, e⟩ := hr.form
    have e' : [v1, v2, v3, (.slice (some ⟨w.heap.size, 3, none⟩) 32 32), v5, v6][i] = .slice A y.length c := e
    rw [e']; rfl
  refine wpList_rows rfl 6 _ rfl [v1, v2, v3, (.slice (some ⟨w.heap.size, 3, none⟩) 32 32), v5, v6] rfl (by decide) (by decide) hcs (by simp [Act.eval]) ?_
  have hr : Bsr (u5.alloc (.cells [v1, v2, v3, (.slice (some ⟨w.heap.size, 3, none⟩) 32 32), v5, v6].toArray 22)) (fun b => b < u5.heap.size + 1) (.slice (some ⟨u5.heap.size, 0, none⟩) 6 6) [numB x0, numB x1, numB x2, x3, numB x4, tSig.enc x5] := g6.row (by simp [maxLen]) 22
  have hj := rJoin_any _ hr (by have := HLL.out; omega) (fun b hb => by simpa using hb)
  have hbb : Below w.heap.size w (u5.alloc (.cells [v1, v2, v3, (.slice (some ⟨w.heap.size, 3, none⟩) 32 32), v5, v6].toArray 22)) := (hbw.trans (g6.1.mono hbw.size)).alloc (hbw.trans (g6.1.mono hbw.size)).size _
  have HJ := Lib.hid hj
  have HBB := Lib.hid hbb
  clear hj hbb hr g6 hcs
  go_wp2_with fail
  refine HJ.out.mono ?_
  rintro e uz ⟨vz, rfl, fz⟩
  go_wp2_with fail
  go_ret
  exact ⟨vz, rfl, fz.1.sub fun b hb _ => ⟨Nat.le_trans HBB.out.size hb.1, hb.2⟩, HBB.out.trans (fz.2.mono HBB.out.size)⟩
end
section
open Go.RowKit Go.Maps
attribute [-simp] Tryz.isAgg36 Tryz.typeInfo36 Tryz.isAgg81 Tryz.typeInfo81 Tryz.isAgg90 Tryz.typeInfo90
def zrVote : List Value := (([.int .i64 0] : List Value) ++ (([.int .i64 0] : List Value) ++ (([.int .i64 0] : List Value) ++ (z32 ++ (([.int .i64 0] : List Value) ++ (zrSig ++ ([] : List Value)))))))
set_option maxRecDepth 100000 in
theorem zrVote_one : ∀ v ∈ zrVote, v.oneCell' = true := by decide
theorem zrVote_len : zrVote.length = 69 := by kernel_rfl
theorem zrVote_size : (Tryz.prog.info? 90).map (·.size) = some zrVote.length := by kernel_rfl
theorem zrVote_sizes : (Tryz.prog.info? 90).map (fun i => (i.zero.map (fun z => z.cells.size), i.size)) = some (some 69, 69) := by kernel_rfl
theorem zrVote_info : (Tryz.prog.info? 90).map (fun i => (i.zero, i.size, i.bytes)) = some (some (.agg zrVote.toArray), 69, 104) := by kernel_rfl
theorem zrVote_sized {C : List Value} (h : C.length = 69) : (Tryz.prog.info? 90).map (·.size) = some C.length := by rw [h]; kernel_rfl
set_option maxHeartbeats 8000000 in
set_option maxRecDepth 100000 in
theorem rReadVote_any (w : World) {S : Nat → Prop} {v : Value} {bs : List UInt8} (h : Bs w S v bs) (hlen : bs.length ≤ 1099511627776) :
    Calls Tryz.prog 29 #[v] w (RefOutZ tVote zrVote w bs) := by
  have hal := (Below.refl w.heap.size w).alloc (Nat.le_refl _) (.cells zrVote.toArray 90)
  have HS := Lib.hid (rsplit_any _ (h.below hal) hlen)
  have HR := Lib.hid (Blk.new w 90 zrVote.toArray)
  have HAL := Lib.hid hal
  have HLEN := Lib.hid hlen
  obtain ⟨A, cap, rfl⟩ := h.form
  clear h hal hlen
  go_enter Tryz.func29, Tryz.ntmps29
  go_wp2_with fail
  refine HS.out.mono ?_
  rintro e w1 ⟨hb1, hsp⟩
  have HR1 := Lib.hid (HR.out.below hb1 HR.out.lt)
  have HB1 := Lib.hid (HAL.out.trans (hb1.mono HAL.out.size))
  have hz01 : w.heap.size + 1 ≤ w1.heap.size := by have := hb1.size; simpa using this
  clear HR HAL HS hb1
  rcases hsp with ⟨hno, rfl⟩ | ⟨v1, l, hsp, rfl, hbss⟩
  · have HNO := Lib.hid (show Sh.dec tVote bs = none from by
      show (match splitB bs with | none => none | some l => Fs.decs _ l) = none
      rw [hno])
    have HRR := Lib.hid HR1.out
    have HB0 := Lib.hid HB1.out
    clear hno HR1 HB1
    go_wp2_with (refine wpList_store_blk (cs0 := zrVote) (cs := zrVote) rfl 90 _ _ rfl HRR.out rfl rfl rfl zrVote_size zrVote_one ?_; intro w9 hb9 hc9; have HB9 := Lib.hid hb9; have HC9 := Lib.hid hc9; clear hb9 hc9)
    have hld := run_loadVar_mid (P := Tryz.prog) w9 w.heap.size 0 90 zrVote _ HB9.out.range Tryz.underlying90 rfl zrVote_size
    refine bodyPost_ret (v := .tuple #[.agg (zrVote).toArray, .bool false]) (by simp [results, Tryz.results29, asAddr, hld]) rfl ?_
    exact ⟨HB0.out.trans (HC9.out.below HB0.out.size fun b h => Nat.le_of_eq h.symm), _, true, rfl, ⟨zrVote_len, zrVote_one, .inr ⟨HNO.out, rfl⟩⟩, fun _ => rfl⟩
  by_cases hln : l.length = 6
  rotate_left
  · have HNO := Lib.hid (show Sh.dec tVote bs = none from by
      show (match splitB bs with | none => none | some l => Fs.decs _ l) = none
      rw [hsp]
      cases hd : Fs.decs (.cons i64 (.cons i64 (.cons i64 (.cons .dig (.cons i64 (.cons tSig .nil)))))) l with
      | none => exact hd
      | some x => exact absurd (Fs.decs_len _ l x hd) hln)
    have HRR := Lib.hid HR1.out
    have HB0 := Lib.hid HB1.out
    obtain ⟨A1, c1, rfl⟩ := hbss.form
    have hlI : ¬ (l.length : Int) = 6 := by omega
    clear hsp HR1 HB1 hbss
    go_wp2_with (refine wpList_store_blk (cs0 := zrVote) (cs := zrVote) rfl 90 _ _ rfl HRR.out rfl rfl rfl zrVote_size zrVote_one ?_; intro w9 hb9 hc9; have HB9 := Lib.hid hb9; have HC9 := Lib.hid hc9; clear hb9 hc9)
    have hld := run_loadVar_mid (P := Tryz.prog) w9 w.heap.size 0 90 zrVote _ HB9.out.range Tryz.underlying90 rfl zrVote_size
    refine bodyPost_ret (v := .tuple #[.agg (zrVote).toArray, .bool false]) (by simp [results, Tryz.results29, asAddr, hld]) rfl ?_
    exact ⟨HB0.out.trans (HC9.out.below HB0.out.size fun b h => Nat.le_of_eq h.symm), _, true, rfl, ⟨zrVote_len, zrVote_one, .inr ⟨HNO.out, rfl⟩⟩, fun _ => rfl⟩
  have HSP := Lib.hid hsp
  have hrl : ∀ y ∈ l, y.length ≤ 1099511627776 := fun y hy => Nat.le_trans (joinP_mem_le hsp y hy) HLEN.out
  obtain ⟨A1, c1, rfl⟩ := hbss.form
  have hall := Bsr.all (hbss.read fun y hy => by have := hrl y hy; omega) (by omega)
  obtain ⟨r0, r1, r2, r3, r4, r5, rfl⟩ : ∃ r0 r1 r2 r3 r4 r5, l = [r0, r1, r2, r3, r4, r5] := by
    match l, hln with
    | [r0, r1, r2, r3, r4, r5], _ => exact ⟨r0, r1, r2, r3, r4, r5, rfl⟩
  have HRL := Lib.hid hrl
  obtain ⟨ba, oa, rfl, _, hba, hall⟩ := hall
  obtain ⟨A_0, c_0, hc_0, hr_0⟩ := hall 0 r0 rfl
  have HC_0 := Lib.hid hc_0
  have HR_0 := Lib.hid (hr_0.sub (T := fun b => b < w1.heap.size) fun _ _ h => h)
  obtain ⟨A_1, c_1, hc_1, hr_1⟩ := hall 1 r1 rfl
  have HC_1 := Lib.hid hc_1
  have HR_1 := Lib.hid (hr_1.sub (T := fun b => b < w1.heap.size) fun _ _ h => h)
  obtain ⟨A_2, c_2, hc_2, hr_2⟩ := hall 2 r2 rfl
  have HC_2 := Lib.hid hc_2
  have HR_2 := Lib.hid (hr_2.sub (T := fun b => b < w1.heap.size) fun _ _ h => h)
  obtain ⟨A_3, c_3, hc_3, hr_3⟩ := hall 3 r3 rfl
  have HC_3 := Lib.hid hc_3
  have HR_3 := Lib.hid (hr_3.sub (T := fun b => b < w1.heap.size) fun _ _ h => h)
  obtain ⟨A_4, c_4, hc_4, hr_4⟩ := hall 4 r4 rfl
  have HC_4 := Lib.hid hc_4
  have HR_4 := Lib.hid (hr_4.sub (T := fun b => b < w1.heap.size) fun _ _ h => h)
  obtain ⟨A_5, c_5, hc_5, hr_5⟩ := hall 5 r5 rfl
  have HC_5 := Lib.hid hc_5
  have HR_5 := Lib.hid (hr_5.sub (T := fun b => b < w1.heap.size) fun _ _ h => h)
  clear hall hbss hsp hrl hln hc_0 hr_0 hc_1 hr_1 hc_2 hr_2 hc_3 hr_3 hc_4 hr_4 hc_5 hr_5
  go_wp2_with (refine wpList_store_blk (cs0 := zrVote) (cs := zrVote) rfl 90 _ _ rfl (Blk.new w1 _ _) rfl rfl rfl zrVote_size zrVote_one ?_; intro w2 hb2 hc2; have HX2 := Lib.hid (show Blk w2 w1.heap.size 90 (([] : List Value) ++ (([.int .i64 0] : List Value) ++ (([.int .i64 0] : List Value) ++ (([.int .i64 0] : List Value) ++ (z32 ++ (([.int .i64 0] : List Value) ++ (zrSig ++ ([] : List Value)))))))).toArray from hb2); have HP2 := Lib.hid (show Chg (fun b => b = w1.heap.size) w1 w2 from ((Chg.refl _ w1).alloc _).trans hc2 fun b h => .inl h); have hz2 : w1.heap.size + 1 ≤ w2.heap.size := (by have := hb2.lt; omega); have hcl0 : w2.cell? ⟨ba, oa, none⟩ = some (.slice A_0 r0.length c_0) := (World.cell?_of_block (a := ⟨ba, oa, none⟩) (HP2.out.block ba hba (fun e => by have e : ba = w1.heap.size := e; omega))).trans HC_0.out; clear hb2 hc2)
  refine (rnumI_out _ (HR_0.out.chg HP2.out fun b hb h => by have h : b = w1.heap.size := h; omega)).mono ?_
  rintro e wq ⟨hw, m0, g0, rfl, hm0, hsI, hsU⟩
  obtain rfl := hw.symm
  have HS0 := Lib.hid hsI
  clear hsI hsU hcl0
  have HPL0 := Lib.hid (show (([] : List Value)).length = 0 from by simp)
  go_simp
  repeat (first
    | (go_big_may; refine wpList_store_part (pre := ([] : List Value)) (old := ([.int .i64 0] : List Value)) (vals := ([.int .i64 (wrap64 (m0 : Int))] : List Value)) (post := (([.int .i64 0] : List Value) ++ (([.int .i64 0] : List Value) ++ (z32 ++ (([.int .i64 0] : List Value) ++ (zrSig ++ ([] : List Value))))))) rfl 3 _ _ rfl HX2.out HPL0.out rfl (v := .int .i64 (wrap64 (m0 : Int))) rfl rfl (by simp only [List.length_cons, List.length_nil]) (by kernel_rfl) (fun u hu => by obtain rfl := List.mem_singleton.1 hu; rfl) ?_; intro w3 hbn hcn; have HX3 := Lib.hid hbn; have HC2 := Lib.hid hcn; have HP3 := Lib.hid (HP2.out.trans HC2.out fun b h => .inl h); have hz3 := Nat.le_trans hz2 HC2.out.size; have hcl1 : w3.cell? ⟨ba, oa + 1, none⟩ = some (.slice A_1 r1.length c_1) := (World.cell?_of_block (a := ⟨ba, oa + 1, none⟩) (HP3.out.block ba hba (fun e => by have e : ba = w1.heap.size := e; omega))).trans HC_1.out; clear hbn hcn)
    | go_values | go_skip | go_guarded | go_step | go_upon)
  refine (rnumI_out _ (HR_1.out.chg HP3.out fun b hb h => by have h : b = w1.heap.size := h; omega)).mono ?_
  rintro e wq ⟨hw, m1, g1, rfl, hm1, hsI, hsU⟩
  obtain rfl := hw.symm
  have HS1 := Lib.hid hsI
  clear hsI hsU hcl1
  have HPL1 := Lib.hid (show ((([] : List Value) ++ ([.int .i64 (wrap64 (m0 : Int))] : List Value))).length = 1 from by simp)
  go_simp
  repeat (first
    | ((with_reducible (show wpList _ _ _ (⟨_, .move _, _, _, _, some _⟩ :: _) _ _)); refine wpList_and g0 g1 _ _ _ rfl rfl rfl (by cases g0 <;> rfl) rfl (fun _ => rfl) (fun _ => rfl) ?_; intro vA1 k1 hk1; have HK1 := Lib.hid hk1; clear hk1)
    | (go_big_may; refine wpList_store_part (pre := (([] : List Value) ++ ([.int .i64 (wrap64 (m0 : Int))] : List Value))) (old := ([.int .i64 0] : List Value)) (vals := ([.int .i64 (wrap64 (m1 : Int))] : List Value)) (post := (([.int .i64 0] : List Value) ++ (z32 ++ (([.int .i64 0] : List Value) ++ (zrSig ++ ([] : List Value)))))) rfl 3 _ _ rfl HX3.out HPL1.out rfl (v := .int .i64 (wrap64 (m1 : Int))) rfl rfl (by simp only [List.length_cons, List.length_nil]) (by kernel_rfl) (fun u hu => by obtain rfl := List.mem_singleton.1 hu; rfl) ?_; intro w4 hbn hcn; have HX4 := Lib.hid hbn; have HC3 := Lib.hid hcn; have HP4 := Lib.hid (HP3.out.trans HC3.out fun b h => .inl h); have hz4 := Nat.le_trans hz3 HC3.out.size; have hcl2 : w4.cell? ⟨ba, oa + 2, none⟩ = some (.slice A_2 r2.length c_2) := (World.cell?_of_block (a := ⟨ba, oa + 2, none⟩) (HP4.out.block ba hba (fun e => by have e : ba = w1.heap.size := e; omega))).trans HC_2.out; clear hbn hcn)
    | go_values | go_skip | go_guarded | go_step | go_upon)
  refine (rnumI_out _ (HR_2.out.chg HP4.out fun b hb h => by have h : b = w1.heap.size := h; omega)).mono ?_
  rintro e wq ⟨hw, m2, g2, rfl, hm2, hsI, hsU⟩
  obtain rfl := hw.symm
  have HS2 := Lib.hid hsI
  clear hsI hsU hcl2
  have HPL2 := Lib.hid (show (((([] : List Value) ++ ([.int .i64 (wrap64 (m0 : Int))] : List Value)) ++ ([.int .i64 (wrap64 (m1 : Int))] : List Value))).length = 2 from by simp)
  go_simp
  repeat (first
    | ((with_reducible (show wpList _ _ _ (⟨_, .move _, _, _, _, some _⟩ :: _) _ _)); refine wpList_and k1 g2 _ _ _ rfl rfl rfl (by cases k1 <;> rfl) rfl (fun _ => rfl) (fun _ => rfl) ?_; intro vA2 k2 hk2; have HK2 := Lib.hid hk2; clear hk2)
    | (go_big_may; refine wpList_store_part (pre := ((([] : List Value) ++ ([.int .i64 (wrap64 (m0 : Int))] : List Value)) ++ ([.int .i64 (wrap64 (m1 : Int))] : List Value))) (old := ([.int .i64 0] : List Value)) (vals := ([.int .i64 (wrap64 (m2 : Int))] : List Value)) (post := (z32 ++ (([.int .i64 0] : List Value) ++ (zrSig ++ ([] : List Value))))) rfl 2 _ _ rfl HX4.out HPL2.out rfl (v := .int .i64 (wrap64 (m2 : Int))) rfl rfl (by simp only [List.length_cons, List.length_nil]) (by kernel_rfl) (fun u hu => by obtain rfl := List.mem_singleton.1 hu; rfl) ?_; intro w5 hbn hcn; have HX5 := Lib.hid hbn; have HC4 := Lib.hid hcn; have HP5 := Lib.hid (HP4.out.trans HC4.out fun b h => .inl h); have hz5 := Nat.le_trans hz4 HC4.out.size; have hcl3 : w5.cell? ⟨ba, oa + 3, none⟩ = some (.slice A_3 r3.length c_3) := (World.cell?_of_block (a := ⟨ba, oa + 3, none⟩) (HP5.out.block ba hba (fun e => by have e : ba = w1.heap.size := e; omega))).trans HC_3.out; clear hbn hcn)
    | go_values | go_skip | go_guarded | go_step | go_upon)
  refine (rdig_out _ (HR_3.out.chg HP5.out fun b hb h => by have h : b = w1.heap.size := h; omega)).mono ?_
  rintro e wa3 ⟨hba3, q3, g3, rfl, hs3⟩
  have hl3 : q3.length = 32 := hs3.1
  have HL3 := Lib.hid hl3
  have H13 := Lib.hid hs3.2.1
  have HI3 := Lib.hid (z32_sized hl3)
  have HZ3 := Lib.hid (show (z32).length = q3.length from by rw [hl3]; exact z32_len)
  have HXa3 := Lib.hid (HX5.out.below hba3 HX5.out.lt)
  have HBA3 := Lib.hid hba3
  have HS3 := Lib.hid hs3
  have hza3 := hba3.size
  clear hba3 hs3 hl3 hcl3
  have HPL3 := Lib.hid (show ((((([] : List Value) ++ ([.int .i64 (wrap64 (m0 : Int))] : List Value)) ++ ([.int .i64 (wrap64 (m1 : Int))] : List Value)) ++ ([.int .i64 (wrap64 (m2 : Int))] : List Value))).length = 3 from by simp)
  go_simp
  repeat (first
    | ((with_reducible (show wpList _ _ _ (⟨_, .move _, _, _, _, some _⟩ :: _) _ _)); refine wpList_and k2 g3 _ _ _ rfl rfl rfl (by cases k2 <;> rfl) rfl (fun _ => rfl) (fun _ => rfl) ?_; intro vA3 k3 hk3; have HK3 := Lib.hid hk3; clear hk3)
    | (go_big_may; refine wpList_store_blk (cs0 := z32) (cs := q3) rfl 36 _ _ rfl (Blk.new wa3 _ _) rfl rfl HZ3.out HI3.out H13.out ?_; intro wb3 hbb hcb; have HBB3 := Lib.hid hbb; have HCB3 := Lib.hid (show Chg (fun _ => False) wa3 wb3 from ((Chg.refl _ wa3).alloc _).trans hcb fun b h => .inr (Nat.le_of_eq h.symm)); have HXb3 := Lib.hid (HXa3.out.chg HCB3.out id); clear hbb hcb)
    | (go_big_may; refine wpList_load_blk' rfl 36 _ rfl HBB3.out rfl Tryz.underlying36 rfl HI3.out ?_)
    | (go_big_may; refine wpList_store_part (pre := (((([] : List Value) ++ ([.int .i64 (wrap64 (m0 : Int))] : List Value)) ++ ([.int .i64 (wrap64 (m1 : Int))] : List Value)) ++ ([.int .i64 (wrap64 (m2 : Int))] : List Value))) (old := z32) (vals := q3) (post := (([.int .i64 0] : List Value) ++ (zrSig ++ ([] : List Value)))) rfl 36 _ _ rfl HXb3.out HPL3.out rfl (v := .agg q3.toArray) rfl rfl HZ3.out HI3.out H13.out ?_; intro w6 hbn hcn; have HX6 := Lib.hid hbn; have HC5 := Lib.hid (show Chg (fun b => b = w1.heap.size) w5 w6 from (((Chg.of_below HBA3.out fun b => b = w1.heap.size).trans HCB3.out fun b h => h.elim).trans hcn fun b h => .inl h)); have HCD3 := Lib.hid (show Chg (fun b => b = w1.heap.size) wa3 w6 from (HCB3.out.mono (M' := fun b => b = w1.heap.size) fun _ h => h.elim).trans hcn fun b h => .inl h); have HP6 := Lib.hid (HP5.out.trans HC5.out fun b h => .inl h); have hz6 := Nat.le_trans hz5 HC5.out.size; have hcl4 : w6.cell? ⟨ba, oa + 4, none⟩ = some (.slice A_4 r4.length c_4) := (World.cell?_of_block (a := ⟨ba, oa + 4, none⟩) (HP6.out.block ba hba (fun e => by have e : ba = w1.heap.size := e; omega))).trans HC_4.out; clear hbn hcn)
    | go_values | go_skip | go_guarded | go_step | go_upon)
  refine (rnumI_out _ (HR_4.out.chg HP6.out fun b hb h => by have h : b = w1.heap.size := h; omega)).mono ?_
  rintro e wq ⟨hw, m4, g4, rfl, hm4, hsI, hsU⟩
  obtain rfl := hw.symm
  have HS4 := Lib.hid hsI
  clear hsI hsU hcl4
  have HPL4 := Lib.hid (show (((((([] : List Value) ++ ([.int .i64 (wrap64 (m0 : Int))] : List Value)) ++ ([.int .i64 (wrap64 (m1 : Int))] : List Value)) ++ ([.int .i64 (wrap64 (m2 : Int))] : List Value)) ++ q3)).length = 35 from by simp [HL3.out])
  go_simp
  repeat (first
    | ((with_reducible (show wpList _ _ _ (⟨_, .move _, _, _, _, some _⟩ :: _) _ _)); refine wpList_and k3 g4 _ _ _ rfl rfl rfl (by cases k3 <;> rfl) rfl (fun _ => rfl) (fun _ => rfl) ?_; intro vA4 k4 hk4; have HK4 := Lib.hid hk4; clear hk4)
    | (go_big_may; refine wpList_store_part (pre := ((((([] : List Value) ++ ([.int .i64 (wrap64 (m0 : Int))] : List Value)) ++ ([.int .i64 (wrap64 (m1 : Int))] : List Value)) ++ ([.int .i64 (wrap64 (m2 : Int))] : List Value)) ++ q3)) (old := ([.int .i64 0] : List Value)) (vals := ([.int .i64 (wrap64 (m4 : Int))] : List Value)) (post := (zrSig ++ ([] : List Value))) rfl 3 _ _ rfl HX6.out HPL4.out rfl (v := .int .i64 (wrap64 (m4 : Int))) rfl rfl (by simp only [List.length_cons, List.length_nil]) (by kernel_rfl) (fun u hu => by obtain rfl := List.mem_singleton.1 hu; rfl) ?_; intro w7 hbn hcn; have HX7 := Lib.hid hbn; have HC6 := Lib.hid hcn; have HP7 := Lib.hid (HP6.out.trans HC6.out fun b h => .inl h); have hz7 := Nat.le_trans hz6 HC6.out.size; have hcl5 : w7.cell? ⟨ba, oa + 5, none⟩ = some (.slice A_5 r5.length c_5) := (World.cell?_of_block (a := ⟨ba, oa + 5, none⟩) (HP7.out.block ba hba (fun e => by have e : ba = w1.heap.size := e; omega))).trans HC_5.out; clear hbn hcn)
    | go_values | go_skip | go_guarded | go_step | go_upon)
  refine (rReadSig_any _ (HR_5.out.chg HP7.out fun b hb h => by have h : b = w1.heap.size := h; omega) (HRL.out _ (by simp))).mono ?_
  rintro e wa5 ⟨hba5, q5, g5, rfl, hs5, _⟩
  have hl5 : q5.length = 33 := hs5.1
  have HL5 := Lib.hid hl5
  have H15 := Lib.hid hs5.2.1
  have HI5 := Lib.hid (zrSig_sized hl5)
  have HZ5 := Lib.hid (show (zrSig).length = q5.length from by rw [hl5]; exact zrSig_len)
  have HXa5 := Lib.hid (HX7.out.below hba5 HX7.out.lt)
  have HBA5 := Lib.hid hba5
  have HS5 := Lib.hid hs5
  have hza5 := hba5.size
  clear hba5 hs5 hl5 hcl5
  have HPL5 := Lib.hid (show ((((((([] : List Value) ++ ([.int .i64 (wrap64 (m0 : Int))] : List Value)) ++ ([.int .i64 (wrap64 (m1 : Int))] : List Value)) ++ ([.int .i64 (wrap64 (m2 : Int))] : List Value)) ++ q3) ++ ([.int .i64 (wrap64 (m4 : Int))] : List Value))).length = 36 from by simp [HL3.out])
  go_simp
  repeat (first
    | ((with_reducible (show wpList _ _ _ (⟨_, .move _, _, _, _, some _⟩ :: _) _ _)); refine wpList_and k4 g5 _ _ _ rfl rfl rfl (by cases k4 <;> rfl) rfl (fun _ => rfl) (fun _ => rfl) ?_; intro vA5 k5 hk5; have HK5 := Lib.hid hk5; clear hk5; cases k5 <;> refine Hid.out ?_)
    | (go_big_may; refine wpList_store_blk (cs0 := zrSig) (cs := q5) rfl 81 _ _ rfl (Blk.new wa5 _ _) rfl rfl HZ5.out HI5.out H15.out ?_; intro wb5 hbb hcb; have HBB5 := Lib.hid hbb; have HCB5 := Lib.hid (show Chg (fun _ => False) wa5 wb5 from ((Chg.refl _ wa5).alloc _).trans hcb fun b h => .inr (Nat.le_of_eq h.symm)); have HXb5 := Lib.hid (HXa5.out.chg HCB5.out id); clear hbb hcb)
    | (go_big_may; refine wpList_load_blk' rfl 81 _ rfl HBB5.out rfl Tryz.underlying81 rfl HI5.out ?_)
    | (go_big_may; refine wpList_store_part (pre := (((((([] : List Value) ++ ([.int .i64 (wrap64 (m0 : Int))] : List Value)) ++ ([.int .i64 (wrap64 (m1 : Int))] : List Value)) ++ ([.int .i64 (wrap64 (m2 : Int))] : List Value)) ++ q3) ++ ([.int .i64 (wrap64 (m4 : Int))] : List Value))) (old := zrSig) (vals := q5) (post := ([] : List Value)) rfl 81 _ _ rfl HXb5.out HPL5.out rfl (v := .agg q5.toArray) rfl rfl HZ5.out HI5.out H15.out ?_; intro w8 hbn hcn; have HX8 := Lib.hid hbn; have HC7 := Lib.hid (show Chg (fun b => b = w1.heap.size) w7 w8 from (((Chg.of_below HBA5.out fun b => b = w1.heap.size).trans HCB5.out fun b h => h.elim).trans hcn fun b h => .inl h)); have HCD5 := Lib.hid (show Chg (fun b => b = w1.heap.size) wa5 w8 from (HCB5.out.mono (M' := fun b => b = w1.heap.size) fun _ h => h.elim).trans hcn fun b h => .inl h); have HP8 := Lib.hid (HP7.out.trans HC7.out fun b h => .inl h); have hz8 := Nat.le_trans hz7 HC7.out.size; clear hbn hcn)
    | go_values | go_skip | go_guarded | go_step | go_upon)
  · refine Lib.hid ?_
    have HRR := Lib.hid ((HR1.out.chg HP8.out (fun h => by have h : w.heap.size = w1.heap.size := h; omega)))
    have HB0 := Lib.hid (HB1.out.trans (HP8.out.below HB1.out.size fun b h => by have h : b = w1.heap.size := h; omega))
    have hkb3 : ∀ b, w5.heap.size ≤ b → b < wa3.heap.size → b < w6.heap.size ∧ w6.heap[b]? = wa3.heap[b]? := fun b hb hlt => ⟨ltle hlt HCD3.out.size, HCD3.out.block b hlt fun e => by have e : b = w1.heap.size := e; omega⟩
    have hkb5 : ∀ b, w7.heap.size ≤ b → b < wa5.heap.size → b < w8.heap.size ∧ w8.heap[b]? = wa5.heap[b]? := fun b hb hlt => ⟨ltle hlt HCD5.out.size, HCD5.out.block b hlt fun e => by have e : b = w1.heap.size := e; omega⟩
    have ho0 : SOut i64 w3 (Nw w2.heap.size w3) r0 ([.int .i64 (wrap64 (m0 : Int))] : List Value) false g0 := (HS0.out w3 (Nw w2.heap.size w3))
    have ho1 : SOut i64 w4 (Nw w3.heap.size w4) r1 ([.int .i64 (wrap64 (m1 : Int))] : List Value) g0 k1 := (HS1.out w4 (Nw w3.heap.size w4)).orr g0 k1 HK1.out
    have ho2 : SOut i64 w5 (Nw w4.heap.size w5) r2 ([.int .i64 (wrap64 (m2 : Int))] : List Value) k1 k2 := (HS2.out w5 (Nw w4.heap.size w5)).orr k1 k2 HK2.out
    have ho3 : SOut .dig w6 (Nw w5.heap.size w6) r3 q3 k2 k3 := (HS3.out.nw (k' := w5.heap.size) (w' := w6) hkb3 (Nat.le_refl _)).orr k2 k3 HK3.out
    have ho4 : SOut i64 w7 (Nw w6.heap.size w7) r4 ([.int .i64 (wrap64 (m4 : Int))] : List Value) k3 k4 := (HS4.out w7 (Nw w6.heap.size w7)).orr k3 k4 HK4.out
    have ho5 : SOut tSig w8 (Nw w7.heap.size w8) r5 q5 k4 false := (HS5.out.nw (k' := w7.heap.size) (w' := w8) hkb5 (Nat.le_refl _)).orr k4 false HK5.out
    have hout : Fs.Out (.cons i64 (.cons i64 (.cons i64 (.cons .dig (.cons i64 (.cons tSig .nil)))))) w8 (Nw (w.heap.size + 1) w8) [r0, r1, r2, r3, r4, r5] (([.int .i64 (wrap64 (m0 : Int))] : List Value) ++ (([.int .i64 (wrap64 (m1 : Int))] : List Value) ++ (([.int .i64 (wrap64 (m2 : Int))] : List Value) ++ (q3 ++ (([.int .i64 (wrap64 (m4 : Int))] : List Value) ++ (q5 ++ [])))))) false false := Fs.Out.stepR ho0 (Fs.Out.stepR ho1 (Fs.Out.stepR ho2 (Fs.Out.stepR ho3 (Fs.Out.stepR ho4 (Fs.Out.stepR ho5 (Fs.Out.nil_ w8 _ _) (Chg.refl (fun k => k = w1.heap.size) _) (by omega) (by omega)) HC7.out (by omega) (by omega)) (HC6.out.trans HC7.out fun b h => .inl h) (by omega) (by omega)) ((HC5.out.trans HC6.out fun b h => .inl h).trans HC7.out fun b h => .inl h) (by omega) (by omega)) (((HC4.out.trans HC5.out fun b h => .inl h).trans HC6.out fun b h => .inl h).trans HC7.out fun b h => .inl h) (by omega) (by omega)) ((((HC3.out.trans HC4.out fun b h => .inl h).trans HC5.out fun b h => .inl h).trans HC6.out fun b h => .inl h).trans HC7.out fun b h => .inl h) (by omega) (by omega)
    have htup : SOut tVote w8 (Nw (w.heap.size + 1) w8) bs (([.int .i64 (wrap64 (m0 : Int))] : List Value) ++ (([.int .i64 (wrap64 (m1 : Int))] : List Value) ++ (([.int .i64 (wrap64 (m2 : Int))] : List Value) ++ (q3 ++ (([.int .i64 (wrap64 (m4 : Int))] : List Value) ++ (q5 ++ [])))))) false false := Fs.Out.tup (n := 6) hout (.inl ⟨rfl, HSP.out⟩) fun l x h => Fs.decs_len _ l x h
    have hpre : ((((((([] : List Value) ++ ([.int .i64 (wrap64 (m0 : Int))] : List Value)) ++ ([.int .i64 (wrap64 (m1 : Int))] : List Value)) ++ ([.int .i64 (wrap64 (m2 : Int))] : List Value)) ++ q3) ++ ([.int .i64 (wrap64 (m4 : Int))] : List Value)) ++ q5) = (([.int .i64 (wrap64 (m0 : Int))] : List Value) ++ (([.int .i64 (wrap64 (m1 : Int))] : List Value) ++ (([.int .i64 (wrap64 (m2 : Int))] : List Value) ++ (q3 ++ (([.int .i64 (wrap64 (m4 : Int))] : List Value) ++ (q5 ++ [])))))) := by simp
    obtain ⟨C, hC⟩ : ∃ C, C = (([.int .i64 (wrap64 (m0 : Int))] : List Value) ++ (([.int .i64 (wrap64 (m1 : Int))] : List Value) ++ (([.int .i64 (wrap64 (m2 : Int))] : List Value) ++ (q3 ++ (([.int .i64 (wrap64 (m4 : Int))] : List Value) ++ (q5 ++ [])))))) := ⟨_, rfl⟩
    rw [← hC] at htup hpre
    have hX := HX8.out
    rw [hpre, List.append_nil] at hX
    have HX := Lib.hid hX
    have hCl : C.length = 69 := htup.1
    have HI := Lib.hid (zrVote_sized hCl)
    have HL := Lib.hid (show zrVote.length = C.length from by rw [hCl]; exact zrVote_len)
    have H1 := Lib.hid htup.2.1
    have HT := Lib.hid htup
    clear hout htup hpre hX hCl hC ho0 ho1 ho2 ho3 ho4 ho5 hkb3 hkb5
    go_wp2_with (first
      | (refine wpList_load_blk' rfl 90 _ rfl HX.out rfl Tryz.underlying90 rfl HI.out ?_)
      | (refine wpList_store_blk (cs0 := zrVote) (cs := C) rfl 90 _ _ rfl HRR.out rfl rfl HL.out HI.out H1.out ?_; intro w9 hb9 hc9; have HB9 := Lib.hid hb9; have HC9 := Lib.hid hc9; clear hb9 hc9))
    have hld := run_loadVar_mid (P := Tryz.prog) w9 w.heap.size 0 90 C _ HB9.out.range Tryz.underlying90 rfl HI.out
    refine bodyPost_ret (v := .tuple #[.agg (C).toArray, .bool true]) (by simp [results, Tryz.results29, asAddr, hld]) rfl ?_
    exact ⟨HB0.out.trans (HC9.out.below HB0.out.size fun b h => Nat.le_of_eq h.symm), C, false, rfl, HT.out.nw (w' := w9) (k' := w.heap.size) (fun b hb hlt => ⟨ltle hlt HC9.out.size, HC9.out.block b hlt fun e => by have e : b = w.heap.size := e; omega⟩) (by omega), fun h => by cases h⟩
  · refine Lib.hid ?_
    have HRR := Lib.hid ((HR1.out.chg HP8.out (fun h => by have h : w.heap.size = w1.heap.size := h; omega)))
    have HB0 := Lib.hid (HB1.out.trans (HP8.out.below HB1.out.size fun b h => by have h : b = w1.heap.size := h; omega))
    have hkb3 : ∀ b, w5.heap.size ≤ b → b < wa3.heap.size → b < w6.heap.size ∧ w6.heap[b]? = wa3.heap[b]? := fun b hb hlt => ⟨ltle hlt HCD3.out.size, HCD3.out.block b hlt fun e => by have e : b = w1.heap.size := e; omega⟩
    have hkb5 : ∀ b, w7.heap.size ≤ b → b < wa5.heap.size → b < w8.heap.size ∧ w8.heap[b]? = wa5.heap[b]? := fun b hb hlt => ⟨ltle hlt HCD5.out.size, HCD5.out.block b hlt fun e => by have e : b = w1.heap.size := e; omega⟩
    have ho0 : SOut i64 w3 (Nw w2.heap.size w3) r0 ([.int .i64 (wrap64 (m0 : Int))] : List Value) false g0 := (HS0.out w3 (Nw w2.heap.size w3))
    have ho1 : SOut i64 w4 (Nw w3.heap.size w4) r1 ([.int .i64 (wrap64 (m1 : Int))] : List Value) g0 k1 := (HS1.out w4 (Nw w3.heap.size w4)).orr g0 k1 HK1.out
    have ho2 : SOut i64 w5 (Nw w4.heap.size w5) r2 ([.int .i64 (wrap64 (m2 : Int))] : List Value) k1 k2 := (HS2.out w5 (Nw w4.heap.size w5)).orr k1 k2 HK2.out
    have ho3 : SOut .dig w6 (Nw w5.heap.size w6) r3 q3 k2 k3 := (HS3.out.nw (k' := w5.heap.size) (w' := w6) hkb3 (Nat.le_refl _)).orr k2 k3 HK3.out
    have ho4 : SOut i64 w7 (Nw w6.heap.size w7) r4 ([.int .i64 (wrap64 (m4 : Int))] : List Value) k3 k4 := (HS4.out w7 (Nw w6.heap.size w7)).orr k3 k4 HK4.out
    have ho5 : SOut tSig w8 (Nw w7.heap.size w8) r5 q5 k4 true := (HS5.out.nw (k' := w7.heap.size) (w' := w8) hkb5 (Nat.le_refl _)).orr k4 true HK5.out
    have hout : Fs.Out (.cons i64 (.cons i64 (.cons i64 (.cons .dig (.cons i64 (.cons tSig .nil)))))) w8 (Nw (w.heap.size + 1) w8) [r0, r1, r2, r3, r4, r5] (([.int .i64 (wrap64 (m0 : Int))] : List Value) ++ (([.int .i64 (wrap64 (m1 : Int))] : List Value) ++ (([.int .i64 (wrap64 (m2 : Int))] : List Value) ++ (q3 ++ (([.int .i64 (wrap64 (m4 : Int))] : List Value) ++ (q5 ++ [])))))) false true := Fs.Out.stepR ho0 (Fs.Out.stepR ho1 (Fs.Out.stepR ho2 (Fs.Out.stepR ho3 (Fs.Out.stepR ho4 (Fs.Out.stepR ho5 (Fs.Out.nil_ w8 _ _) (Chg.refl (fun k => k = w1.heap.size) _) (by omega) (by omega)) HC7.out (by omega) (by omega)) (HC6.out.trans HC7.out fun b h => .inl h) (by omega) (by omega)) ((HC5.out.trans HC6.out fun b h => .inl h).trans HC7.out fun b h => .inl h) (by omega) (by omega)) (((HC4.out.trans HC5.out fun b h => .inl h).trans HC6.out fun b h => .inl h).trans HC7.out fun b h => .inl h) (by omega) (by omega)) ((((HC3.out.trans HC4.out fun b h => .inl h).trans HC5.out fun b h => .inl h).trans HC6.out fun b h => .inl h).trans HC7.out fun b h => .inl h) (by omega) (by omega)
    have htup : SOut tVote w8 (Nw (w.heap.size + 1) w8) bs (([.int .i64 (wrap64 (m0 : Int))] : List Value) ++ (([.int .i64 (wrap64 (m1 : Int))] : List Value) ++ (([.int .i64 (wrap64 (m2 : Int))] : List Value) ++ (q3 ++ (([.int .i64 (wrap64 (m4 : Int))] : List Value) ++ (q5 ++ [])))))) false true := Fs.Out.tup (n := 6) hout (.inl ⟨rfl, HSP.out⟩) fun l x h => Fs.decs_len _ l x h
    have HNO := Lib.hid (show Sh.dec tVote bs = none from by
      rcases htup.2.2 with ⟨_, _, h, _⟩ | ⟨h, _⟩
      · cases h
      · exact h)
    clear hout htup ho0 ho1 ho2 ho3 ho4 ho5 hkb3 hkb5
    go_wp2_with (refine wpList_store_blk (cs0 := zrVote) (cs := zrVote) rfl 90 _ _ rfl HRR.out rfl rfl rfl zrVote_size zrVote_one ?_; intro w9 hb9 hc9; have HB9 := Lib.hid hb9; have HC9 := Lib.hid hc9; clear hb9 hc9)
    have hld := run_loadVar_mid (P := Tryz.prog) w9 w.heap.size 0 90 zrVote _ HB9.out.range Tryz.underlying90 rfl zrVote_size
    refine bodyPost_ret (v := .tuple #[.agg (zrVote).toArray, .bool false]) (by simp [results, Tryz.results29, asAddr, hld]) rfl ?_
    exact ⟨HB0.out.trans (HC9.out.below HB0.out.size fun b h => Nat.le_of_eq h.symm), _, true, rfl, ⟨zrVote_len, zrVote_one, .inr ⟨HNO.out, rfl⟩⟩, fun _ => rfl⟩
end
end Go.Proofs.YtjjgmkfkmckkoaaGreatDoor
