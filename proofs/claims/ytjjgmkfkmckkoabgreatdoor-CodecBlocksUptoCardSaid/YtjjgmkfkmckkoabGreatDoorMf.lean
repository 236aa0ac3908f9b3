/- Texts joined: CgQ CsH CgR CsI. -/
import Derived.Test.YtjjgmkfkmckkoabGreatDoorMb
import Derived.Test.YtjjgmkfkmckkoabGreatDoorMc
import Derived.Laws.BitsAllLaws
import Derived.Test.YtjjgmkfkmckkoabGreatDoorMd
/- Codec: face[Tx], ReadTx. -/
namespace Go.Proofs.YtjjgmkfkmckkoabGreatDoor
open Go.RowKit Go.Maps
attribute [-simp] Tryz.isAgg24 Tryz.typeInfo24 Tryz.isAgg27 Tryz.typeInfo27

def zFTx : List Value := ([.int .i64 0, .int .u64 0, .int .u64 0, .int .u64 0, .int .u64 0, .int .i64 0, .int .i64 0] ++ List.replicate 32 (.int .u8 0) ++ [.int .i64 0, .slice none 0 0] : List Value)
theorem one_faceTx : ∀ v ∈ zFTx, v.oneCell' = true := by decide
theorem len_faceTx : zFTx.length = 41 := by decide
theorem size_faceTx : (Tryz.prog.info? 27).map (·.size) = some zFTx.length := by kernel_rfl
set_option maxHeartbeats 8000000 in
set_option maxRecDepth 100000 in
theorem faceTx_any (w : World) {S : Nat → Prop} {v sent : Value} {bs : List UInt8} (h : Bs w S v bs) (hp : Pk w sent) :
    Calls Tryz.prog 49 #[v, .func (Fn.func 50) #[] #[]] w (FaceOut tTx w bs) := by
  obtain ⟨A, cap, rfl⟩ := h.form
  have hal1 := (Below.refl w.heap.size w).alloc (Nat.le_refl _) (.cells (zFTx).toArray 27)
  have hal2 := hal1.alloc (by simp) (.cells (zFTx).toArray 27)
  have hr0 := (Blk.new w 27 (zFTx).toArray).alloc (.cells (zFTx).toArray 27)
  have hz0 := Blk.new (w.alloc (.cells (zFTx).toArray 27)) 27 (zFTx).toArray
  rw [show (w.alloc (.cells (zFTx).toArray 27)).heap.size = w.heap.size + 1 by simp] at hz0
  by_cases hbig : 262144 < bs.length
  · obtain ⟨sb, hsb⟩ : ∃ sb, w.cell? ⟨0, 0, none⟩ = some (.iface 205 (.pointer (some sb))) := by
      obtain ⟨_, _, b, _, _, _, _, _, _, _, _, h, _⟩ := hp
      exact ⟨b, h⟩
    have hgb : ∀ {W : World}, Below w.heap.size w W → W.cell? ⟨0, 0, none⟩ = some (.iface 205 (.pointer (some sb))) := fun hb => cell_low hsb hb
    clear h
    go_enter Tryz.func49, Tryz.ntmps49
    go_wp2_with fail
    have hb := hal2.drew
    have hr : Blk _ _ _ _ := hr0.drew
    have hz : Blk _ _ _ _ := hz0.drew
    clear hal1 hal2 hz0 hsb
    refine wp_region_hoist [0, 1, 2] [3, 4, 5] [6, 7] (fun w' => Blk w' (w.heap.size + 1) 27 (zFTx).toArray ∧ w'.cell? ⟨0, 0, none⟩ = some (.iface 205 (.pointer (some sb)))) (by kernel_rfl) (by kernel_rfl) (by kernel_rfl) (by kernel_rfl) (by kernel_rfl) (by kernel_rfl) ⟨hz, hgb hb⟩ ?_
    (refine HoistK.load (by rfl) (by kernel_rfl) 27 _ rfl (w.heap.size + 1) 0 rfl zFTx _ (fun w' hw => hw.1.range) Tryz.underlying27 rfl size_faceTx ?_; simp only [Act.put, List.setIfInBounds_toArray, List.getElem_toArray, List.getElem_cons_zero, List.set_cons_succ, List.set_cons_zero])
    (refine HoistK.yes (by rfl) (by kernel_rfl) ⟨?_, fun w' hSw => ?_, ?_⟩; rotate_left; (· have hcc := hSw.2; go_simp; try with_reducible rfl); simp only [Act.put, List.setIfInBounds_toArray, List.getElem_toArray, List.getElem_cons_succ, List.getElem_cons_zero, List.set_cons_succ, List.set_cons_zero])
    (refine HoistK.yes (by rfl) (by kernel_rfl) ⟨?_, fun w' hSw => ?_, ?_⟩; rotate_left; (· go_simp; try with_reducible rfl); simp only [Act.put, List.setIfInBounds_toArray, List.getElem_toArray, List.getElem_cons_succ, List.getElem_cons_zero, List.set_cons_succ, List.set_cons_zero])
    refine HoistK.nil_ ?_
    simp only [opsAt, List.filterMap_cons, List.filterMap_nil, List.getElem?_toArray, List.getElem?_cons_succ, List.getElem?_cons_zero]
    refine Effects.world (F := fun W => Below w.heap.size w W ∧ Blk W w.heap.size 27 (zFTx).toArray ∧ Blk W (w.heap.size + 1) 27 (zFTx).toArray) (fun W hF => ?_) ⟨hb, hr, hz⟩
    clear hb hr hz hr0
    obtain ⟨hb, hr, hz⟩ := hF
    refine Effects.cons_ fun _ hQ => ?_
    have hzl := hz.lt
    go_wp2_with fail
    have hk := Blk.new W 117 #[.string ⟨#[97, 108, 108]⟩, .iface 205 (.pointer (some sb))]
    replace hb := hb.alloc hb.size (.cells #[.string ⟨#[97, 108, 108]⟩, .iface 205 (.pointer (some sb))] 117)
    replace hr := hr.alloc (.cells #[.string ⟨#[97, 108, 108]⟩, .iface 205 (.pointer (some sb))] 117)
    replace hz := hz.alloc (.cells #[.string ⟨#[97, 108, 108]⟩, .iface 205 (.pointer (some sb))] 117)
    obtain ⟨gg, hgg⟩ : ∃ gg, gg = W.heap.size := ⟨_, rfl⟩
    have hgn : gg ≠ w.heap.size := by omega
    rw [← hgg] at hk ⊢
    have HGG := Lib.hid hgg; clear hgg
    generalize W.alloc (.cells #[.string ⟨#[97, 108, 108]⟩, .iface 205 (.pointer (some sb))] 117) = W1 at *
    refine hQ _ _ ⟨hz, hgb hb⟩ (Effects.cons_ fun _ hQ => ?_)
    go_wp2_with fail
    refine hQ _ _ ⟨hz, hgb hb⟩ (Effects.cons_ fun _ hQ => ?_)
    go_wp2_with fail
    refine (told_any (r := true) _ (hp.below hb) ⟨gg, 1, _, rfl, .more hk .last, hgb hb⟩).mono ?_
    rintro e W2 ⟨rfl, hb2⟩
    replace hb := hb.trans (hb2.mono hb.size)
    replace hr := hr.below hb2 hr.lt
    replace hz := hz.below hb2 hz.lt
    replace hk := hk.below hb2 hk.lt
    go_wp2_with fail
    refine hQ _ _ ⟨hz, hgb hb⟩ (Effects.nil_ fun _ hQ => ?_)
    refine wpList_store_blk (cs0 := zFTx) (cs := zFTx) rfl 27 _ _ rfl hr rfl rfl rfl size_faceTx one_faceTx ?_
    intro W3 hr3 hc3
    go_wp2_with fail
    replace hb := hb.trans (hc3.below hb.size fun b h => Nat.le_of_eq h.symm)
    have hld := run_loadVar_mid (P := Tryz.prog) _ w.heap.size 0 27 zFTx _ hr3.range Tryz.underlying27 rfl size_faceTx
    exact bodyPost_ret (v := .tuple #[.agg (zFTx).toArray, .int .i64 4]) (by simp [results, Tryz.results49, asAddr, hld]) rfl ⟨hb, _, 4, rfl, len_faceTx, one_faceTx, .inl ⟨hbig, rfl⟩⟩
  · have hlen : bs.length ≤ 262144 := by omega
    have HR := Lib.hid (readTx_any _ (h.below hal2) hlen (hp.1.below hal2))
    have HA := Lib.hid hal2
    have HR0 := Lib.hid hr0
    have HZ0 := Lib.hid hz0
    clear h hal1 hal2 hr0 hz0
    go_enter Tryz.func49, Tryz.ntmps49
    go_wp2_with fail
    refine HR.out.mono ?_
    rintro e w2 hro
    obtain ⟨C, err, bd, rfl, h1, hl, hb2, he, ho⟩ := hro.agg (fun _ => rfl)
    have hl : C.length = 41 := hl
    have HL := Lib.hid hl
    have HI := Lib.hid (show (Tryz.prog.info? 27).map (·.size) = some C.length from by rw [hl]; rw [size_faceTx, len_faceTx])
    have H1 := Lib.hid h1
    have HK := Lib.hid (HR0.out.below hb2 HR0.out.lt)
    have HZ := Lib.hid (HZ0.out.below hb2 HZ0.out.lt)
    have hz2 : w.heap.size + 2 ≤ w2.heap.size := by have := hb2.size; simpa using this
    have HB2 := Lib.hid (HA.out.trans (hb2.mono HA.out.size))
    have HO := Lib.hid (show SOut tTx w2 (fun b => w.heap.size + 2 ≤ b) bs C false bd from ho.to (fun b _ hlt => ⟨hlt, rfl⟩) fun b hb _ => by simpa using hb)
    have he := he.to (w' := w2) (S' := fun b => w.heap.size + 2 ≤ b) (fun b _ hlt => ⟨hlt, rfl⟩) fun b hb _ => by simpa using hb
    clear hro h1 hl hb2 ho HR HA HR0 HZ0
    rcases he with ⟨rfl, rfl⟩ | ⟨rfl, hch⟩
    · go_wp2_with (first
        | (refine wpList_store_blk (cs0 := zFTx) (cs := C) rfl 27 _ _ rfl (Blk.new w2 _ _) rfl rfl (by rw [HL.out]; exact len_faceTx) HI.out H1.out ?_; intro w3 hb3 hc3; have HB3 := Lib.hid hb3
           have HC3 := Lib.hid (show Chg (fun _ => False) w2 w3 from ((Chg.refl _ w2).alloc _).trans hc3 fun b h => .inr (Nat.le_of_eq h.symm)); clear hb3 hc3
           have HK3 := Lib.hid (HK.out.chg HC3.out id))
        | (refine wpList_load_blk' rfl 27 _ rfl HB3.out rfl Tryz.underlying27 rfl HI.out ?_)
        | (refine wpList_store_blk (cs0 := zFTx) (cs := C) rfl 27 _ _ rfl HK3.out rfl rfl (by rw [HL.out]; exact len_faceTx) HI.out H1.out ?_; intro w9 hb9 hc9; have HB9 := Lib.hid hb9; have HC9 := Lib.hid hc9; clear hb9 hc9))
      have hld := run_loadVar_mid (P := Tryz.prog) w9 w.heap.size 0 27 C _ HB9.out.range Tryz.underlying27 rfl HI.out
      refine bodyPost_ret (v := .tuple #[.agg C.toArray, .int .i64 0]) (by simp [results, Tryz.results49, asAddr, hld]) rfl ?_
      obtain ⟨o1, o2, o3⟩ := HO.out
      have hc29 : Chg (fun b => b = w.heap.size) w2 w9 := (HC3.out.mono (M' := fun b => b = w.heap.size) fun _ h => h.elim).trans HC9.out fun b h => .inl h
      refine ⟨HB2.out.trans (hc29.below HB2.out.size fun b h => Nat.le_of_eq h.symm), C, 0, rfl, o1, o2, .inr ⟨hlen, .inl ?_⟩⟩
      rcases o3 with ⟨x, e1, _, e3⟩ | ⟨_, e2⟩
      · exact ⟨x, e1, rfl, Sh.rep_to (fun b hb hlt => ⟨Nat.lt_of_lt_of_le hlt hc29.size, hc29.block b hlt fun e => by omega⟩) (fun b hb _ => by omega) _ _ _ e3⟩
      · cases e2
    · obtain ⟨gw, rfl⟩ := hch.form
      have HCH := Lib.hid hch; clear hch
      have hno : Sh.dec tTx bs = none := by
        obtain ⟨_, _, o3⟩ := HO.out
        rcases o3 with ⟨x, _, e2, _⟩ | ⟨e1, _⟩
        · cases e2
        · exact e1
      have HNO := Lib.hid hno; clear hno
      go_wp2_with (refine wpList_store_blk (cs0 := zFTx) (cs := C) rfl 27 _ _ rfl (Blk.new w2 _ _) rfl rfl (by rw [HL.out]; exact len_faceTx) HI.out H1.out ?_; intro w3 hb3 hc3; have HC3 := Lib.hid (show Chg (fun _ => False) w2 w3 from ((Chg.refl _ w2).alloc _).trans hc3 fun b h => .inr (Nat.le_of_eq h.symm)); clear hb3 hc3)
      have hr : Blk _ _ _ _ := (HK.out.chg HC3.out id).drew
      have hz : Blk _ _ _ _ := (HZ.out.chg HC3.out id).drew
      have hb := (HB2.out.trans (HC3.out.below HB2.out.size fun b h => h.elim)).drew
      have hch3 := HCH.out.to (w' := w3.drew) (S' := fun b => w.heap.size + 2 ≤ b) (fun b hb hlt => ⟨Nat.lt_of_lt_of_le hlt HC3.out.size, HC3.out.block b hlt id⟩) fun b hb _ => hb
      have hz3 : w.heap.size + 2 ≤ w3.drew.heap.size := Nat.le_trans hz2 HC3.out.size
      refine wp_region_hoist [0, 1] [2] [3, 4] (fun w' => Blk w' (w.heap.size + 1) 27 (zFTx).toArray) (by kernel_rfl) (by kernel_rfl) (by kernel_rfl) (by kernel_rfl) (by kernel_rfl) (by kernel_rfl) hz ?_
      (refine HoistK.load (by rfl) (by kernel_rfl) 27 _ rfl (w.heap.size + 1) 0 rfl zFTx _ (fun w' hw => hw.range) Tryz.underlying27 rfl size_faceTx ?_; simp only [Act.put, List.setIfInBounds_toArray, List.getElem_toArray, List.getElem_cons_zero, List.set_cons_succ, List.set_cons_zero])
      (refine HoistK.yes (by rfl) (by kernel_rfl) ⟨?_, fun w' hSw => ?_, ?_⟩; rotate_left; (· go_simp; try with_reducible rfl); simp only [Act.put, List.setIfInBounds_toArray, List.getElem_toArray, List.getElem_cons_succ, List.getElem_cons_zero, List.set_cons_succ, List.set_cons_zero])
      refine HoistK.nil_ ?_
      simp only [opsAt, List.filterMap_cons, List.filterMap_nil, List.getElem?_toArray, List.getElem?_cons_succ, List.getElem?_cons_zero]
      refine Effects.world (F := fun W => Below w.heap.size w W ∧ Blk W w.heap.size 27 (zFTx).toArray ∧ Blk W (w.heap.size + 1) 27 (zFTx).toArray ∧ Chain W (fun b => w.heap.size + 2 ≤ b) sent (.iface 113 (.pointer (some ⟨gw, 0, none⟩)))) (fun W hF => ?_) ⟨hb, hr, hz, hch3⟩
      clear hb hr hz hch3 hz3
      obtain ⟨hb, hr, hz, hch⟩ := hF
      refine Effects.cons_ fun _ hQ => ?_
      go_wp2_with fail
      refine (told_any (r := false) _ (hp.below hb) (Wr.of_chain hch)).mono ?_
      rintro e W2 ⟨rfl, hb2⟩
      replace hb := hb.trans (hb2.mono hb.size)
      replace hr := hr.below hb2 hr.lt
      replace hz := hz.below hb2 hz.lt
      go_wp2_with fail
      refine hQ _ _ hz (Effects.nil_ fun _ hQ => ?_)
      refine wpList_store_blk (cs0 := zFTx) (cs := zFTx) rfl 27 _ _ rfl hr rfl rfl rfl size_faceTx one_faceTx ?_
      intro W3 hr3 hc3
      go_wp2_with fail
      replace hb := hb.trans (hc3.below hb.size fun b h => Nat.le_of_eq h.symm)
      have hld := run_loadVar_mid (P := Tryz.prog) _ w.heap.size 0 27 zFTx _ hr3.range Tryz.underlying27 rfl size_faceTx
      exact bodyPost_ret (v := .tuple #[.agg (zFTx).toArray, .int .i64 5]) (by simp [results, Tryz.results49, asAddr, hld]) rfl ⟨hb, _, 5, rfl, len_faceTx, one_faceTx, .inr ⟨hlen, .inr ⟨HNO.out, rfl⟩⟩⟩

set_option maxHeartbeats 4000000 in
set_option maxRecDepth 100000 in
theorem ReadTx_any (w : World) {S : Nat → Prop} {v sent : Value} {bs : List UInt8} (h : Bs w S v bs) (hp : Pk w sent) :
    Calls Tryz.prog 18 #[v] w (FaceOut tTx w bs) := by
  have hal1 := (Below.refl w.heap.size w).alloc (Nat.le_refl _) (.cells (zFTx).toArray 27)
  have HF := Lib.hid (faceTx_any _ (h.below hal1) (hp.below hal1))
  have HR := Lib.hid (Blk.new w 27 (zFTx).toArray)
  have HA := Lib.hid hal1
  obtain ⟨A, cap, rfl⟩ := h.form
  clear h hp hal1
  go_enter Tryz.func18, Tryz.ntmps18
  go_wp2_with fail
  refine HF.out.mono ?_
  rintro e w1 ⟨hb, C, n, rfl, hl, h1, hn⟩
  have hl : C.length = 41 := hl
  have HL := Lib.hid hl
  have HI := Lib.hid (show (Tryz.prog.info? 27).map (·.size) = some C.length from by rw [hl]; rw [size_faceTx, len_faceTx])
  have H1 := Lib.hid h1
  have hlz : (zFTx).length = C.length := by rw [hl, len_faceTx]
  have HLZ := Lib.hid hlz
  have HK := Lib.hid (HR.out.below hb (by simp))
  have HB := Lib.hid hb
  have HN := Lib.hid hn
  have hz1 : w.heap.size + 1 ≤ w1.heap.size := by have := hb.size; simpa using this
  clear hl h1 hlz hb hn HF HR
  go_wp2_with (refine wpList_store_blk (cs0 := zFTx) (cs := C) rfl 27 _ _ rfl HK.out rfl rfl HLZ.out HI.out H1.out ?_; intro w9 hb9 hc9; have HB9 := Lib.hid hb9; have HC9 := Lib.hid hc9; clear hb9 hc9)
  have hld := run_loadVar_mid (P := Tryz.prog) w9 w.heap.size 0 27 C _ HB9.out.range Tryz.underlying27 rfl HI.out
  refine bodyPost_ret (v := .tuple #[.agg C.toArray, .int .i64 n]) (by simp [results, Tryz.results18, asAddr, hld]) rfl ?_
  have hbw := HA.out.trans (HB.out.mono HA.out.size)
  refine ⟨hbw.trans (HC9.out.below hbw.size fun b h => Nat.le_of_eq h.symm), C, n, rfl, HL.out, H1.out, HN.out.imp id fun ⟨q1, q2⟩ => ⟨q1, q2.imp (fun ⟨x, e1, e2, e3⟩ => ⟨x, e1, e2, ?_⟩) id⟩⟩
  exact Sh.rep_to (fun b hb hlt => ⟨Nat.lt_of_lt_of_le hlt HC9.out.size, HC9.out.block b hlt fun e => by simp at hb; omega⟩) (fun b hb _ => by simp at hb; omega) _ _ _ e3

end Go.Proofs.YtjjgmkfkmckkoabGreatDoor

/- Codec's laws: tx: written as the document says, read back as it was. Printed by genLaw.py. -/
namespace Go.Proofs.YtjjgmkfkmckkoabGreatDoor
open Go.RowKit Go.Maps
attribute [-simp] Tryz.isAgg24 Tryz.typeInfo24 Tryz.isAgg27 Tryz.typeInfo27

set_option maxHeartbeats 8000000 in
set_option maxRecDepth 100000 in
theorem lawTx_any (w : World) {S : Nat → Prop} {x : tTx.El} {cs : List Value} {sent : Value} (h : tTx.rep w S x cs) (h1 : ∀ v ∈ cs, v.oneCell' = true) (hS : ∀ b, S b → b < w.heap.size) (hl : (tTx.enc x).length ≤ 1099511627776) (hp : Pk w sent) :
    Calls Tryz.prog 7 #[.agg cs.toArray] w fun e w' => e = .returned (.bool true) ∧ Below w.heap.size w w' := by
  have hpos : 0 < (tTx.enc x).length := by
    show 0 < (joinB _).length
    rw [joinB_length]; omega
  have hsize := Sh.rep_size _ _ _ h
  have hwf := Sh.rep_wf _ _ _ h
  have hdec := Sh.dec_enc tTx x hwf (by omega)
  have HI := Lib.hid (show (Tryz.prog.info? 27).map (·.size) = some cs.length from by rw [hsize]; kernel_rfl)
  obtain ⟨bs, hbs⟩ : ∃ bs, bs = tTx.enc x := ⟨_, rfl⟩
  have hal1 := (Below.refl w.heap.size w).alloc (Nat.le_refl _) (.cells cs.toArray 27)
  have h0 := Sh.rep_below h hal1
  have hA := tx_any _ h0 hl
  rw [← hbs] at hl hpos hdec hA
  have HA := Lib.hid hA
  have HX := Lib.hid (Blk.new w 27 cs.toArray)
  have HB1 := Lib.hid hal1
  have HR := Lib.hid h
  have HL := Lib.hid hl
  have HBS := Lib.hid hbs
  have HS := Lib.hid hS
  have HP := Lib.hid hp
  have HD := Lib.hid hdec
  have H1 := Lib.hid h1
  clear h hl hbs hsize hwf hdec hal1 h0 hA hS hp h1
  go_enter Tryz.func7, Tryz.ntmps7
  go_wp2_with (refine wpList_load_blk' rfl 27 _ rfl HX.out rfl Tryz.underlying27 rfl HI.out ?_)
  refine HA.out.mono ?_
  rintro e w2 ⟨v, rfl, f2⟩
  obtain ⟨A, cap, rfl⟩ := f2.1.form
  have hB2 := HB1.out.trans (f2.2.mono HB1.out.size)
  have HX2 := Lib.hid (HX.out.below f2.2 HX.out.lt)
  have HF2 := Lib.hid f2
  have HB2 := Lib.hid hB2
  clear hB2 f2 HA HX
  go_wp2_with fail
  -- REGION 2
  have hx := HX2.out.drew
  have hf := HF2.out.1.drew
  have hb := HB2.out.drew
  refine wp_region_segsV [([0, 1, 2], [3]), ([4, 5], [])] (by kernel_rfl) (by kernel_rfl) (by kernel_rfl) (by kernel_rfl) (SegV.mk (fun w' => Blk w' w.heap.size 27 cs.toArray ∧ Bs w' (fun b => w.heap.size + 1 ≤ b) (.slice A bs.length cap) bs) (fun _ _ => trivial) ⟨hx, hf.sub fun b hb _ => by simpa using hb.1⟩ ?_)
  (refine HoistK.yes (by rfl) (by kernel_rfl) ⟨?_, fun w' hSw => ?_, ?_⟩; rotate_left; (· go_simp; try with_reducible rfl); simp only [Act.put, List.setIfInBounds_toArray, List.getElem_toArray, List.getElem_cons_zero, List.set_cons_succ, List.set_cons_zero])
  (refine HoistK.yes (by rfl) (by kernel_rfl) ⟨?_, fun w' hSw => ?_, ?_⟩; rotate_left; (· have e1 := run_str hSw.2 Tryz.underlying50 Tryz.underlying5 Tryz.underlying9; go_simp; try with_reducible rfl); simp only [Act.put, List.setIfInBounds_toArray, List.getElem_toArray, List.getElem_cons_succ, List.getElem_cons_zero, List.set_cons_succ, List.set_cons_zero])
  (refine HoistK.load (by rfl) (by kernel_rfl) 27 _ rfl w.heap.size 0 rfl cs _ (fun w' hw => hw.1.range) Tryz.underlying27 rfl HI.out ?_; simp only [Act.put, List.setIfInBounds_toArray, List.getElem_toArray, List.getElem_cons_succ, List.getElem_cons_zero, List.set_cons_succ, List.set_cons_zero])
  refine HoistK.nil_ ?_
  simp only [opsAt, List.filterMap_cons, List.filterMap_nil, List.getElem?_toArray, List.getElem?_cons_succ, List.getElem?_cons_zero]
  refine EffS.cons_ fun _ hQ => ?_
  have hr := rTx_any _ (Sh.rep_below HR.out hb) (by rw [← HBS.out]; exact HL.out)
  rw [← HBS.out] at hr
  have HRR := Lib.hid hr
  clear hr hx hf hb
  go_wp2_with fail
  refine HRR.out.mono ?_
  rintro e w3 ⟨v3, rfl, f3⟩
  obtain ⟨A3, c3, rfl⟩ := f3.1.form
  have hx := HX2.out.drew.below f3.2 HX2.out.drew.lt
  have hf := HF2.out.1.drew.below f3.2
  have hb := HB2.out.drew.trans (f3.2.mono HB2.out.drew.size)
  have HX3 := Lib.hid hx
  have HF3 := Lib.hid hf
  have HB3 := Lib.hid hb
  have HS23 := Lib.hid (show Below w2.heap.size w2 w3 from ((Below.refl _ w2).drew).trans f3.2)
  have hf3 := f3.1
  clear f3 HRR HX2 HF2 HB2
  go_wp2_with fail
  refine hQ _ _ ⟨hx, hf.sub fun b hb _ => by simpa using hb.1⟩ (EffS.nil_ (SegV.mk (fun w' => (Blk w' w.heap.size 27 cs.toArray ∧ Bs w' (fun b => w.heap.size + 1 ≤ b) (.slice A bs.length cap) bs) ∧ Bs w' (fun b => w2.heap.size ≤ b) (.slice A3 bs.length c3) bs) (fun _ h => h.1) ⟨⟨hx, hf.sub fun b hb _ => by simpa using hb.1⟩, hf3.sub fun b hb _ => hb.1⟩ ?_))
  (refine HoistK.yes (by rfl) (by kernel_rfl) ⟨?_, fun w' hSw => ?_, ?_⟩; rotate_left; (· have e1 := run_str hSw.2 Tryz.underlying50 Tryz.underlying5 Tryz.underlying9; go_simp; try with_reducible rfl); simp only [Act.put, List.setIfInBounds_toArray, List.getElem_toArray, List.getElem_cons_succ, List.getElem_cons_zero, List.set_cons_succ, List.set_cons_zero])
  (refine HoistK.yes (by rfl) (by kernel_rfl) ⟨?_, fun w' hSw => ?_, ?_⟩; rotate_left; (· go_simp; try with_reducible rfl); simp only [Act.put, List.setIfInBounds_toArray, List.getElem_toArray, List.getElem_cons_succ, List.getElem_cons_zero, List.set_cons_succ, List.set_cons_zero])
  refine HoistK.nil_ ?_
  simp only [opsAt, List.filterMap_nil, List.getElem?_toArray]
  refine EffS.nil_ fun _ hQ => ?_
  go_wp2_with fail
  refine (ReadTx_any _ HF3.out (HP.out.below HB3.out)).mono ?_
  rintro e w4 ⟨hb4, C, n, rfl, hCl, hC1, hn⟩
  have hsz3 := HB3.out.size
  have HX4 := Lib.hid (HX3.out.below hb4 HX3.out.lt)
  have HF4 := Lib.hid (HF3.out.below hb4)
  have HB4 := Lib.hid (HB3.out.trans (hb4.mono HB3.out.size))
  have hs34 := hb4.size
  have HS34 := Lib.hid hb4
  have HCL := Lib.hid hCl
  have HC1 := Lib.hid hC1
  have HN := Lib.hid hn
  have HCI := Lib.hid (show (Tryz.prog.info? 27).map (·.size) = some C.length from by rw [hCl]; kernel_rfl)
  have HZL := Lib.hid (show zFTx.length = C.length from by rw [hCl]; rfl)
  clear hCl hC1 hn HF3 HX3 HB3 hb4
  by_cases hbig : 262144 < bs.length
  · obtain rfl : n = 4 := by
      rcases HN.out with ⟨_, h⟩ | ⟨h, _⟩
      · exact h
      · omega
    go_wp2_with (refine wpList_store_blk (cs0 := zFTx) (cs := C) rfl 27 _ _ rfl (Blk.new w4 _ _) rfl rfl HZL.out HCI.out HC1.out ?_; intro w5 hy5 hc5; have HY5 := Lib.hid hy5; have HC5 := Lib.hid (show Chg (fun _ => False) w4 w5 from ((Chg.refl _ w4).alloc _).trans hc5 fun b h => .inr (Nat.le_of_eq h.symm)); clear hy5 hc5)
    go_ret
    exact ⟨rfl, HB4.out.trans (HC5.out.below HB4.out.size fun b h => h.elim)⟩
  obtain ⟨hrep, rfl⟩ : tTx.rep w4 (fun b => w3.heap.size ≤ b) x C ∧ n = 0 := by
    rcases HN.out with ⟨h, _⟩ | ⟨_, ⟨y, h1, h2, h3⟩ | ⟨h1, _⟩⟩
    · omega
    · rw [HD.out] at h1
      injection h1 with h1
      subst h1
      exact ⟨h3, h2⟩
    · rw [HD.out] at h1; cases h1
  have HREP := Lib.hid hrep
  clear hrep HN
  go_wp2_with (refine wpList_store_blk (cs0 := zFTx) (cs := C) rfl 27 _ _ rfl (Blk.new w4 _ _) rfl rfl HZL.out HCI.out HC1.out ?_; intro w5 hy5 hc5; have HY5 := Lib.hid hy5; have HC5 := Lib.hid (show Chg (fun _ => False) w4 w5 from ((Chg.refl _ w4).alloc _).trans hc5 fun b h => .inr (Nat.le_of_eq h.symm)); clear hy5 hc5)
  have HF5 := Lib.hid (HF4.out.chg HC5.out fun _ _ h => h)
  obtain ⟨B, off, rfl, hBw, hBlt, cB, tB, hbB, hcell⟩ : ∃ B off, A = some ⟨B, off, none⟩ ∧ w.heap.size + 1 ≤ B ∧ B < w3.heap.size ∧ ∃ cB tB, Blk w5 B tB cB ∧ ∀ j, j < bs.length → ∃ y : Nat, y < 256 ∧ cB[off + j]? = some (.int .u8 y) := by
    obtain ⟨⟨hn, A', c', e, _, _, hp⟩, _⟩ := HF5.out
    injection e with e
    subst e
    obtain ⟨B, off, rfl, ⟨hw1, cs', t', hth⟩, hlt, hc⟩ := hp hpos
    have hB2 : B < w2.heap.size := (Array.getElem?_eq_some_iff.1 hth).1
    have hB3 := Nat.lt_of_lt_of_le hB2 HS23.out.size
    have h5 : Blk w5 B t' cs' := by
      show w5.heap[B]? = _
      rw [HC5.out.block B (Nat.lt_of_lt_of_le hB3 hs34) id, HS34.out.block B hB3, HS23.out.block B hB2]
      exact hth
    refine ⟨B, off, rfl, by simpa using hw1, hB3, cs', t', h5, fun j hj => ⟨bs[j].toNat, UInt8.toNat_lt _, ?_⟩⟩
    rw [← h5.cell, hc j _ (u8s_get bs j hj)]
  go_loopw [27] (fun i wr => ∃ k : Nat, k ≤ bs.length ∧ i = .int .i64 k ∧ (∃ c, Hid (Blk wr B tB c ∧ ∀ j, j < bs.length → ∃ y : Nat, y < 256 ∧ c[off + j]? = some (.int .u8 y))) ∧ Chg (fun b => b = B) w5 wr) (fun i _ => bs.length - (intOf i).toNat)
  case atStart => exact ⟨0, Nat.zero_le _, rfl, ⟨cB, Lib.hid ⟨hbB, hcell⟩⟩, Chg.refl _ _⟩
  case round =>
    obtain ⟨k, hk, rfl, ⟨c, hC⟩, hch⟩ := hrel
    by_cases hlt : k < bs.length
    · obtain ⟨y, hy, hc⟩ := hC.out.2 k hlt
      have hcc : wr.cell? ⟨B, off + k, none⟩ = some (.int .u8 y) := by rw [hC.out.1.cell]; exact hc
      have hz := hC.out.1.frozen (off + k)
      go_wp2
      refine ⟨⟨k + 1, by omega, by push_cast; rfl, ⟨c.setIfInBounds (off + k) _, Lib.hid ⟨hC.out.1.set_ _ _, fun j hj => ?_⟩⟩, hch.setIn _ _⟩, by simp only [intOf]; omega⟩
      by_cases e : j = k
      · subst e
        refine ⟨y ^^^ 85, Nat.xor_lt_two_pow (n := 8) (by omega) (by omega), ?_⟩
        rw [Array.getElem?_setIfInBounds_self_of_lt (Array.getElem?_eq_some_iff.1 hc).1]
        have := u8_xor_nat y 85 hy (by omega)
        exact congrArg (fun z => some (Value.int .u8 z)) this
      · obtain ⟨y', h1, h2⟩ := hC.out.2 j hj
        exact ⟨y', h1, by rw [Array.getElem?_setIfInBounds_ne (by omega)]; exact h2⟩
    · have hx := ((HX4.out.chg HC5.out id).chg hch fun e => by have e : w.heap.size = B := e; omega).drew
      have hy := (HY5.out.chg hch fun e => by have e : w4.heap.size = B := e; omega).drew
      have hb5 := HB4.out.trans (HC5.out.below HB4.out.size fun b h => h.elim)
      have hbr := (hb5.trans (hch.below hb5.size fun b h => by have h : b = B := h; omega)).drew
      have hrx := Sh.rep_below HR.out hbr
      have hry : tTx.rep wr.drew (fun b => w3.heap.size ≤ b) x C := Sh.rep_chg (Sh.rep_chg HREP.out HC5.out fun _ _ h => h) hch.drew fun b h1 h2 => by have h2 : b = B := h2; omega
      have HRX := Lib.hid hrx
      have HRY := Lib.hid hry
      have HBR := Lib.hid hbr
      have hl : (tTx.enc x).length ≤ 1099511627776 := by rw [← HBS.out]; exact HL.out
      clear hC hbB hcell
      go_wp2_with fail
      refine wp_region_segsV [([0, 1, 2, 3, 6], [4]), ([5], [7]), ([8, 9, 10], [11])] (by kernel_rfl) (by kernel_rfl) (by kernel_rfl) (by kernel_rfl) (SegV.mk (fun w' => Blk w' w.heap.size 27 cs.toArray ∧ Blk w' w4.heap.size 27 C.toArray) (fun _ _ => trivial) ⟨hx, hy⟩ ?_)
      (refine HoistK.yes (by rfl) (by kernel_rfl) ⟨?_, fun w' hSw => ?_, ?_⟩; rotate_left; (· go_simp; try with_reducible rfl); simp only [Act.put, List.setIfInBounds_toArray, List.getElem_toArray, List.getElem_cons_zero, List.set_cons_succ, List.set_cons_zero])
      (refine HoistK.yes (by rfl) (by kernel_rfl) ⟨?_, fun w' hSw => ?_, ?_⟩; rotate_left; (· go_simp; try with_reducible rfl); simp only [Act.put, List.setIfInBounds_toArray, List.getElem_toArray, List.getElem_cons_succ, List.getElem_cons_zero, List.set_cons_succ, List.set_cons_zero])
      (refine HoistK.yes (by rfl) (by kernel_rfl) ⟨?_, fun w' hSw => ?_, ?_⟩; rotate_left; (· go_simp; try with_reducible rfl); simp only [Act.put, List.setIfInBounds_toArray, List.getElem_toArray, List.getElem_cons_succ, List.getElem_cons_zero, List.set_cons_succ, List.set_cons_zero])
      (refine HoistK.load (by rfl) (by kernel_rfl) 27 _ rfl w4.heap.size 0 rfl C _ (fun w' hw => hw.2.range) Tryz.underlying27 rfl HCI.out ?_; simp only [Act.put, List.setIfInBounds_toArray, List.getElem_toArray, List.getElem_cons_succ, List.getElem_cons_zero, List.set_cons_succ, List.set_cons_zero])
      (refine HoistK.load (by rfl) (by kernel_rfl) 27 _ rfl w.heap.size 0 rfl cs _ (fun w' hw => hw.1.range) Tryz.underlying27 rfl HI.out ?_; simp only [Act.put, List.setIfInBounds_toArray, List.getElem_toArray, List.getElem_cons_succ, List.getElem_cons_zero, List.set_cons_succ, List.set_cons_zero])
      refine HoistK.nil_ ?_
      simp only [opsAt, List.filterMap_cons, List.filterMap_nil, List.getElem?_toArray, List.getElem?_cons_succ, List.getElem?_cons_zero]
      refine EffS.cons_ fun _ hQ => ?_
      have HC1' := Lib.hid (rTx_any _ HRY.out hl)
      go_wp2_with fail
      refine HC1'.out.mono ?_
      rintro e w6 ⟨v6, rfl, f6⟩
      rw [← HBS.out] at f6
      obtain ⟨A6, c6, rfl⟩ := f6.1.form
      have hx6 := hx.below f6.2 hx.lt
      have hy6 := hy.below f6.2 hy.lt
      have HB6 := Lib.hid (HBR.out.trans (f6.2.mono HBR.out.size))
      have hf6 := f6.1
      clear f6 HC1'
      go_wp2_with fail
      refine hQ _ _ ⟨hx6, hy6⟩ (EffS.nil_ (SegV.mk (fun w' => (Blk w' w.heap.size 27 cs.toArray ∧ Blk w' w4.heap.size 27 C.toArray) ∧ Bs w' (fun b => wr.heap.size ≤ b) (.slice A6 bs.length c6) bs) (fun _ h => h.1) ⟨⟨hx6, hy6⟩, hf6.sub fun b hb _ => hb.1⟩ ?_))
      (refine HoistK.yes (by rfl) (by kernel_rfl) ⟨?_, fun w' hSw => ?_, ?_⟩; rotate_left; (· have e1 := run_str hSw.2 Tryz.underlying50 Tryz.underlying5 Tryz.underlying9; go_simp; try with_reducible rfl); simp only [Act.put, List.setIfInBounds_toArray, List.getElem_toArray, List.getElem_cons_succ, List.getElem_cons_zero, List.set_cons_succ, List.set_cons_zero])
      refine HoistK.nil_ ?_
      simp only [opsAt, List.filterMap_cons, List.filterMap_nil, List.getElem?_toArray, List.getElem?_cons_succ, List.getElem?_cons_zero]
      refine EffS.cons_ fun _ hQ => ?_
      have HC2' := Lib.hid (rTx_any _ (Sh.rep_below HR.out HB6.out) hl)
      go_wp2_with fail
      refine HC2'.out.mono ?_
      rintro e w7 ⟨v7, rfl, f7⟩
      rw [← HBS.out] at f7
      obtain ⟨A7, c7, rfl⟩ := f7.1.form
      have hx7 := hx6.below f7.2 hx6.lt
      have hy7 := hy6.below f7.2 hy6.lt
      have HB7 := Lib.hid (HB6.out.trans (f7.2.mono HB6.out.size))
      have hf67 := hf6.below f7.2
      have hf7 := f7.1
      clear f7 HC2'
      go_wp2_with fail
      refine hQ _ _ ⟨⟨hx7, hy7⟩, hf67.sub fun b hb _ => hb.1⟩ (EffS.nil_ (SegV.mk (fun w' => ((Blk w' w.heap.size 27 cs.toArray ∧ Blk w' w4.heap.size 27 C.toArray) ∧ Bs w' (fun b => wr.heap.size ≤ b) (.slice A6 bs.length c6) bs) ∧ Bs w' (fun b => w6.heap.size ≤ b) (.slice A7 bs.length c7) bs) (fun _ h => h.1) ⟨⟨⟨hx7, hy7⟩, hf67.sub fun b hb _ => hb.1⟩, hf7.sub fun b hb _ => hb.1⟩ ?_))
      (refine HoistK.yes (by rfl) (by kernel_rfl) ⟨?_, fun w' hSw => ?_, ?_⟩; rotate_left; (· have e1 := run_str hSw.2 Tryz.underlying50 Tryz.underlying5 Tryz.underlying9; go_simp; try with_reducible rfl); simp only [Act.put, List.setIfInBounds_toArray, List.getElem_toArray, List.getElem_cons_succ, List.getElem_cons_zero, List.set_cons_succ, List.set_cons_zero])
      (refine HoistK.yes (by rfl) (by kernel_rfl) ⟨?_, fun w' hSw => ?_, ?_⟩; rotate_left; (· go_simp; try with_reducible rfl); simp only [Act.put, List.setIfInBounds_toArray, List.getElem_toArray, List.getElem_cons_succ, List.getElem_cons_zero, List.set_cons_succ, List.set_cons_zero])
      (refine HoistK.yes (by rfl) (by kernel_rfl) ⟨?_, fun w' hSw => ?_, ?_⟩; rotate_left; (· go_simp; try with_reducible rfl); simp only [Act.put, List.setIfInBounds_toArray, List.getElem_toArray, List.getElem_cons_succ, List.getElem_cons_zero, List.set_cons_succ, List.set_cons_zero])
      refine HoistK.nil_ ?_
      simp only [opsAt, List.filterMap_cons, List.filterMap_nil, List.getElem?_toArray, List.getElem?_cons_succ, List.getElem?_cons_zero]
      refine EffS.cons_ fun _ hQ => ?_
      go_wp2_with fail
      refine hQ _ _ ⟨⟨⟨hx7, hy7⟩, hf67.sub fun b hb _ => hb.1⟩, hf7.sub fun b hb _ => hb.1⟩ (EffS.nil_ fun _ hQ => ?_)
      go_wp2_with fail
      go_ret
      exact ⟨rfl, HB7.out⟩
end Go.Proofs.YtjjgmkfkmckkoabGreatDoor

/- Codec: face[Block], ReadBlock. -/
namespace Go.Proofs.YtjjgmkfkmckkoabGreatDoor
open Go.RowKit Go.Maps
attribute [-simp] Tryz.isAgg24 Tryz.typeInfo24 Tryz.isAgg39 Tryz.typeInfo39

def zFBlock : List Value := (([.int .i64 0, .int .i64 0, .int .i64 0, .int .i64 0] ++ List.replicate 96 (.int .u8 0) ++ [.int .i64 0]) ++ ([.int .i64 0, .int .i64 0, .int .i64 0] ++ List.replicate 32 (.int .u8 0) ++ [.slice none 0 0, .slice none 0 0]) ++ [.slice none 0 0, .slice none 0 0] ++ ([.int .i64 0] ++ List.replicate 32 (.int .u8 0)) : List Value)
set_option maxRecDepth 100000 in
theorem one_faceBlock : ∀ v ∈ zFBlock, v.oneCell' = true := by decide
set_option maxRecDepth 100000 in
theorem len_faceBlock : zFBlock.length = 173 := by decide
theorem size_faceBlock : (Tryz.prog.info? 39).map (·.size) = some zFBlock.length := by kernel_rfl
set_option maxHeartbeats 8000000 in
set_option maxRecDepth 100000 in
theorem faceBlock_any (w : World) {S : Nat → Prop} {v sent : Value} {bs : List UInt8} (h : Bs w S v bs) (hp : Pk w sent) :
    Calls Tryz.prog 58 #[v, .func (Fn.func 59) #[] #[]] w (FaceOut tBlock w bs) := by
  obtain ⟨A, cap, rfl⟩ := h.form
  have hal1 := (Below.refl w.heap.size w).alloc (Nat.le_refl _) (.cells (zFBlock).toArray 39)
  have hal2 := hal1.alloc (by simp) (.cells (zFBlock).toArray 39)
  have hr0 := (Blk.new w 39 (zFBlock).toArray).alloc (.cells (zFBlock).toArray 39)
  have hz0 := Blk.new (w.alloc (.cells (zFBlock).toArray 39)) 39 (zFBlock).toArray
  rw [show (w.alloc (.cells (zFBlock).toArray 39)).heap.size = w.heap.size + 1 by simp] at hz0
  by_cases hbig : 262144 < bs.length
  · obtain ⟨sb, hsb⟩ : ∃ sb, w.cell? ⟨0, 0, none⟩ = some (.iface 205 (.pointer (some sb))) := by
      obtain ⟨_, _, b, _, _, _, _, _, _, _, _, h, _⟩ := hp
      exact ⟨b, h⟩
    have hgb : ∀ {W : World}, Below w.heap.size w W → W.cell? ⟨0, 0, none⟩ = some (.iface 205 (.pointer (some sb))) := fun hb => cell_low hsb hb
    clear h
    go_enter Tryz.func58, Tryz.ntmps58
    go_wp2_with fail
    have hb := hal2.drew
    have hr : Blk _ _ _ _ := hr0.drew
    have hz : Blk _ _ _ _ := hz0.drew
    clear hal1 hal2 hz0 hsb
    refine wp_region_hoist [0, 1, 2] [3, 4, 5] [6, 7] (fun w' => Blk w' (w.heap.size + 1) 39 (zFBlock).toArray ∧ w'.cell? ⟨0, 0, none⟩ = some (.iface 205 (.pointer (some sb)))) (by kernel_rfl) (by kernel_rfl) (by kernel_rfl) (by kernel_rfl) (by kernel_rfl) (by kernel_rfl) ⟨hz, hgb hb⟩ ?_
    (refine HoistK.load (by rfl) (by kernel_rfl) 39 _ rfl (w.heap.size + 1) 0 rfl zFBlock _ (fun w' hw => hw.1.range) Tryz.underlying39 rfl size_faceBlock ?_; simp only [Act.put, List.setIfInBounds_toArray, List.getElem_toArray, List.getElem_cons_zero, List.set_cons_succ, List.set_cons_zero])
    (refine HoistK.yes (by rfl) (by kernel_rfl) ⟨?_, fun w' hSw => ?_, ?_⟩; rotate_left; (· have hcc := hSw.2; go_simp; try with_reducible rfl); simp only [Act.put, List.setIfInBounds_toArray, List.getElem_toArray, List.getElem_cons_succ, List.getElem_cons_zero, List.set_cons_succ, List.set_cons_zero])
    (refine HoistK.yes (by rfl) (by kernel_rfl) ⟨?_, fun w' hSw => ?_, ?_⟩; rotate_left; (· go_simp; try with_reducible rfl); simp only [Act.put, List.setIfInBounds_toArray, List.getElem_toArray, List.getElem_cons_succ, List.getElem_cons_zero, List.set_cons_succ, List.set_cons_zero])
    refine HoistK.nil_ ?_
    simp only [opsAt, List.filterMap_cons, List.filterMap_nil, List.getElem?_toArray, List.getElem?_cons_succ, List.getElem?_cons_zero]
    refine Effects.world (F := fun W => Below w.heap.size w W ∧ Blk W w.heap.size 39 (zFBlock).toArray ∧ Blk W (w.heap.size + 1) 39 (zFBlock).toArray) (fun W hF => ?_) ⟨hb, hr, hz⟩
    clear hb hr hz hr0
    obtain ⟨hb, hr, hz⟩ := hF
    refine Effects.cons_ fun _ hQ => ?_
    have hzl := hz.lt
    go_wp2_with fail
    have hk := Blk.new W 117 #[.string ⟨#[97, 108, 108]⟩, .iface 205 (.pointer (some sb))]
    replace hb := hb.alloc hb.size (.cells #[.string ⟨#[97, 108, 108]⟩, .iface 205 (.pointer (some sb))] 117)
    replace hr := hr.alloc (.cells #[.string ⟨#[97, 108, 108]⟩, .iface 205 (.pointer (some sb))] 117)
    replace hz := hz.alloc (.cells #[.string ⟨#[97, 108, 108]⟩, .iface 205 (.pointer (some sb))] 117)
    obtain ⟨gg, hgg⟩ : ∃ gg, gg = W.heap.size := ⟨_, rfl⟩
    have hgn : gg ≠ w.heap.size := by omega
    rw [← hgg] at hk ⊢
    have HGG := Lib.hid hgg; clear hgg
    generalize W.alloc (.cells #[.string ⟨#[97, 108, 108]⟩, .iface 205 (.pointer (some sb))] 117) = W1 at *
    refine hQ _ _ ⟨hz, hgb hb⟩ (Effects.cons_ fun _ hQ => ?_)
    go_wp2_with fail
    refine hQ _ _ ⟨hz, hgb hb⟩ (Effects.cons_ fun _ hQ => ?_)
    go_wp2_with fail
    refine (told_any (r := true) _ (hp.below hb) ⟨gg, 1, _, rfl, .more hk .last, hgb hb⟩).mono ?_
    rintro e W2 ⟨rfl, hb2⟩
    replace hb := hb.trans (hb2.mono hb.size)
    replace hr := hr.below hb2 hr.lt
    replace hz := hz.below hb2 hz.lt
    replace hk := hk.below hb2 hk.lt
    go_wp2_with fail
    refine hQ _ _ ⟨hz, hgb hb⟩ (Effects.nil_ fun _ hQ => ?_)
    refine wpList_store_blk (cs0 := zFBlock) (cs := zFBlock) rfl 39 _ _ rfl hr rfl rfl rfl size_faceBlock one_faceBlock ?_
    intro W3 hr3 hc3
    go_wp2_with fail
    replace hb := hb.trans (hc3.below hb.size fun b h => Nat.le_of_eq h.symm)
    have hld := run_loadVar_mid (P := Tryz.prog) _ w.heap.size 0 39 zFBlock _ hr3.range Tryz.underlying39 rfl size_faceBlock
    exact bodyPost_ret (v := .tuple #[.agg (zFBlock).toArray, .int .i64 4]) (by simp [results, Tryz.results58, asAddr, hld]) rfl ⟨hb, _, 4, rfl, len_faceBlock, one_faceBlock, .inl ⟨hbig, rfl⟩⟩
  · have hlen : bs.length ≤ 262144 := by omega
    have HR := Lib.hid (readBlock_any _ (h.below hal2) hlen (hp.1.below hal2))
    have HA := Lib.hid hal2
    have HR0 := Lib.hid hr0
    have HZ0 := Lib.hid hz0
    clear h hal1 hal2 hr0 hz0
    go_enter Tryz.func58, Tryz.ntmps58
    go_wp2_with fail
    refine HR.out.mono ?_
    rintro e w2 hro
    obtain ⟨C, err, bd, rfl, h1, hl, hb2, he, ho⟩ := hro.agg (fun _ => rfl)
    have hl : C.length = 173 := hl
    have HL := Lib.hid hl
    have HI := Lib.hid (show (Tryz.prog.info? 39).map (·.size) = some C.length from by rw [hl]; rw [size_faceBlock, len_faceBlock])
    have H1 := Lib.hid h1
    have HK := Lib.hid (HR0.out.below hb2 HR0.out.lt)
    have HZ := Lib.hid (HZ0.out.below hb2 HZ0.out.lt)
    have hz2 : w.heap.size + 2 ≤ w2.heap.size := by have := hb2.size; simpa using this
    have HB2 := Lib.hid (HA.out.trans (hb2.mono HA.out.size))
    have HO := Lib.hid (show SOut tBlock w2 (fun b => w.heap.size + 2 ≤ b) bs C false bd from ho.to (fun b _ hlt => ⟨hlt, rfl⟩) fun b hb _ => by simpa using hb)
    have he := he.to (w' := w2) (S' := fun b => w.heap.size + 2 ≤ b) (fun b _ hlt => ⟨hlt, rfl⟩) fun b hb _ => by simpa using hb
    clear hro h1 hl hb2 ho HR HA HR0 HZ0
    rcases he with ⟨rfl, rfl⟩ | ⟨rfl, hch⟩
    · go_wp2_with (first
        | (refine wpList_store_blk (cs0 := zFBlock) (cs := C) rfl 39 _ _ rfl (Blk.new w2 _ _) rfl rfl (by rw [HL.out]; exact len_faceBlock) HI.out H1.out ?_; intro w3 hb3 hc3; have HB3 := Lib.hid hb3
           have HC3 := Lib.hid (show Chg (fun _ => False) w2 w3 from ((Chg.refl _ w2).alloc _).trans hc3 fun b h => .inr (Nat.le_of_eq h.symm)); clear hb3 hc3
           have HK3 := Lib.hid (HK.out.chg HC3.out id))
        | (refine wpList_load_blk' rfl 39 _ rfl HB3.out rfl Tryz.underlying39 rfl HI.out ?_)
        | (refine wpList_store_blk (cs0 := zFBlock) (cs := C) rfl 39 _ _ rfl HK3.out rfl rfl (by rw [HL.out]; exact len_faceBlock) HI.out H1.out ?_; intro w9 hb9 hc9; have HB9 := Lib.hid hb9; have HC9 := Lib.hid hc9; clear hb9 hc9))
      have hld := run_loadVar_mid (P := Tryz.prog) w9 w.heap.size 0 39 C _ HB9.out.range Tryz.underlying39 rfl HI.out
      refine bodyPost_ret (v := .tuple #[.agg C.toArray, .int .i64 0]) (by simp [results, Tryz.results58, asAddr, hld]) rfl ?_
      obtain ⟨o1, o2, o3⟩ := HO.out
      have hc29 : Chg (fun b => b = w.heap.size) w2 w9 := (HC3.out.mono (M' := fun b => b = w.heap.size) fun _ h => h.elim).trans HC9.out fun b h => .inl h
      refine ⟨HB2.out.trans (hc29.below HB2.out.size fun b h => Nat.le_of_eq h.symm), C, 0, rfl, o1, o2, .inr ⟨hlen, .inl ?_⟩⟩
      rcases o3 with ⟨x, e1, _, e3⟩ | ⟨_, e2⟩
      · exact ⟨x, e1, rfl, Sh.rep_to (fun b hb hlt => ⟨Nat.lt_of_lt_of_le hlt hc29.size, hc29.block b hlt fun e => by omega⟩) (fun b hb _ => by omega) _ _ _ e3⟩
      · cases e2
    · obtain ⟨gw, rfl⟩ := hch.form
      have HCH := Lib.hid hch; clear hch
      have hno : Sh.dec tBlock bs = none := by
        obtain ⟨_, _, o3⟩ := HO.out
        rcases o3 with ⟨x, _, e2, _⟩ | ⟨e1, _⟩
        · cases e2
        · exact e1
      have HNO := Lib.hid hno; clear hno
      go_wp2_with (refine wpList_store_blk (cs0 := zFBlock) (cs := C) rfl 39 _ _ rfl (Blk.new w2 _ _) rfl rfl (by rw [HL.out]; exact len_faceBlock) HI.out H1.out ?_; intro w3 hb3 hc3; have HC3 := Lib.hid (show Chg (fun _ => False) w2 w3 from ((Chg.refl _ w2).alloc _).trans hc3 fun b h => .inr (Nat.le_of_eq h.symm)); clear hb3 hc3)
      have hr : Blk _ _ _ _ := (HK.out.chg HC3.out id).drew
      have hz : Blk _ _ _ _ := (HZ.out.chg HC3.out id).drew
      have hb := (HB2.out.trans (HC3.out.below HB2.out.size fun b h => h.elim)).drew
      have hch3 := HCH.out.to (w' := w3.drew) (S' := fun b => w.heap.size + 2 ≤ b) (fun b hb hlt => ⟨Nat.lt_of_lt_of_le hlt HC3.out.size, HC3.out.block b hlt id⟩) fun b hb _ => hb
      have hz3 : w.heap.size + 2 ≤ w3.drew.heap.size := Nat.le_trans hz2 HC3.out.size
      refine wp_region_hoist [0, 1] [2] [3, 4] (fun w' => Blk w' (w.heap.size + 1) 39 (zFBlock).toArray) (by kernel_rfl) (by kernel_rfl) (by kernel_rfl) (by kernel_rfl) (by kernel_rfl) (by kernel_rfl) hz ?_
      (refine HoistK.load (by rfl) (by kernel_rfl) 39 _ rfl (w.heap.size + 1) 0 rfl zFBlock _ (fun w' hw => hw.range) Tryz.underlying39 rfl size_faceBlock ?_; simp only [Act.put, List.setIfInBounds_toArray, List.getElem_toArray, List.getElem_cons_zero, List.set_cons_succ, List.set_cons_zero])
      (refine HoistK.yes (by rfl) (by kernel_rfl) ⟨?_, fun w' hSw => ?_, ?_⟩; rotate_left; (· go_simp; try with_reducible rfl); simp only [Act.put, List.setIfInBounds_toArray, List.getElem_toArray, List.getElem_cons_succ, List.getElem_cons_zero, List.set_cons_succ, List.set_cons_zero])
      refine HoistK.nil_ ?_
      simp only [opsAt, List.filterMap_cons, List.filterMap_nil, List.getElem?_toArray, List.getElem?_cons_succ, List.getElem?_cons_zero]
      refine Effects.world (F := fun W => Below w.heap.size w W ∧ Blk W w.heap.size 39 (zFBlock).toArray ∧ Blk W (w.heap.size + 1) 39 (zFBlock).toArray ∧ Chain W (fun b => w.heap.size + 2 ≤ b) sent (.iface 113 (.pointer (some ⟨gw, 0, none⟩)))) (fun W hF => ?_) ⟨hb, hr, hz, hch3⟩
      clear hb hr hz hch3 hz3
      obtain ⟨hb, hr, hz, hch⟩ := hF
      refine Effects.cons_ fun _ hQ => ?_
      go_wp2_with fail
      refine (told_any (r := false) _ (hp.below hb) (Wr.of_chain hch)).mono ?_
      rintro e W2 ⟨rfl, hb2⟩
      replace hb := hb.trans (hb2.mono hb.size)
      replace hr := hr.below hb2 hr.lt
      replace hz := hz.below hb2 hz.lt
      go_wp2_with fail
      refine hQ _ _ hz (Effects.nil_ fun _ hQ => ?_)
      refine wpList_store_blk (cs0 := zFBlock) (cs := zFBlock) rfl 39 _ _ rfl hr rfl rfl rfl size_faceBlock one_faceBlock ?_
      intro W3 hr3 hc3
      go_wp2_with fail
      replace hb := hb.trans (hc3.below hb.size fun b h => Nat.le_of_eq h.symm)
      have hld := run_loadVar_mid (P := Tryz.prog) _ w.heap.size 0 39 zFBlock _ hr3.range Tryz.underlying39 rfl size_faceBlock
      exact bodyPost_ret (v := .tuple #[.agg (zFBlock).toArray, .int .i64 5]) (by simp [results, Tryz.results58, asAddr, hld]) rfl ⟨hb, _, 5, rfl, len_faceBlock, one_faceBlock, .inr ⟨hlen, .inr ⟨HNO.out, rfl⟩⟩⟩

set_option maxHeartbeats 4000000 in
set_option maxRecDepth 100000 in
theorem ReadBlock_any (w : World) {S : Nat → Prop} {v sent : Value} {bs : List UInt8} (h : Bs w S v bs) (hp : Pk w sent) :
    Calls Tryz.prog 21 #[v] w (FaceOut tBlock w bs) := by
  have hal1 := (Below.refl w.heap.size w).alloc (Nat.le_refl _) (.cells (zFBlock).toArray 39)
  have HF := Lib.hid (faceBlock_any _ (h.below hal1) (hp.below hal1))
  have HR := Lib.hid (Blk.new w 39 (zFBlock).toArray)
  have HA := Lib.hid hal1
  obtain ⟨A, cap, rfl⟩ := h.form
  clear h hp hal1
  go_enter Tryz.func21, Tryz.ntmps21
  go_wp2_with fail
  refine HF.out.mono ?_
  rintro e w1 ⟨hb, C, n, rfl, hl, h1, hn⟩
  have hl : C.length = 173 := hl
  have HL := Lib.hid hl
  have HI := Lib.hid (show (Tryz.prog.info? 39).map (·.size) = some C.length from by rw [hl]; rw [size_faceBlock, len_faceBlock])
  have H1 := Lib.hid h1
  have hlz : (zFBlock).length = C.length := by rw [hl, len_faceBlock]
  have HLZ := Lib.hid hlz
  have HK := Lib.hid (HR.out.below hb (by simp))
  have HB := Lib.hid hb
  have HN := Lib.hid hn
  have hz1 : w.heap.size + 1 ≤ w1.heap.size := by have := hb.size; simpa using this
  clear hl h1 hlz hb hn HF HR
  go_wp2_with (refine wpList_store_blk (cs0 := zFBlock) (cs := C) rfl 39 _ _ rfl HK.out rfl rfl HLZ.out HI.out H1.out ?_; intro w9 hb9 hc9; have HB9 := Lib.hid hb9; have HC9 := Lib.hid hc9; clear hb9 hc9)
  have hld := run_loadVar_mid (P := Tryz.prog) w9 w.heap.size 0 39 C _ HB9.out.range Tryz.underlying39 rfl HI.out
  refine bodyPost_ret (v := .tuple #[.agg C.toArray, .int .i64 n]) (by simp [results, Tryz.results21, asAddr, hld]) rfl ?_
  have hbw := HA.out.trans (HB.out.mono HA.out.size)
  refine ⟨hbw.trans (HC9.out.below hbw.size fun b h => Nat.le_of_eq h.symm), C, n, rfl, HL.out, H1.out, HN.out.imp id fun ⟨q1, q2⟩ => ⟨q1, q2.imp (fun ⟨x, e1, e2, e3⟩ => ⟨x, e1, e2, ?_⟩) id⟩⟩
  exact Sh.rep_to (fun b hb hlt => ⟨Nat.lt_of_lt_of_le hlt HC9.out.size, HC9.out.block b hlt fun e => by simp at hb; omega⟩) (fun b hb _ => by simp at hb; omega) _ _ _ e3

end Go.Proofs.YtjjgmkfkmckkoabGreatDoor

/- Codec's laws: block: written as the document says, read back as it was. Printed by genLaw.py. -/
namespace Go.Proofs.YtjjgmkfkmckkoabGreatDoor
open Go.RowKit Go.Maps
attribute [-simp] Tryz.isAgg24 Tryz.typeInfo24 Tryz.isAgg39 Tryz.typeInfo39

set_option maxHeartbeats 8000000 in
set_option maxRecDepth 100000 in
theorem lawBlock_any (w : World) {S : Nat → Prop} {x : tBlock.El} {cs : List Value} {sent : Value} (h : tBlock.rep w S x cs) (h1 : ∀ v ∈ cs, v.oneCell' = true) (hS : ∀ b, S b → b < w.heap.size) (hl : (tBlock.enc x).length ≤ 1099511627776) (hp : Pk w sent) :
    Calls Tryz.prog 8 #[.agg cs.toArray] w fun e w' => e = .returned (.bool true) ∧ Below w.heap.size w w' := by
  have hpos : 0 < (tBlock.enc x).length := by
    show 0 < (joinB _).length
    rw [joinB_length]; omega
  have hsize := Sh.rep_size _ _ _ h
  have hwf := Sh.rep_wf _ _ _ h
  have hdec := Sh.dec_enc tBlock x hwf (by omega)
  have HI := Lib.hid (show (Tryz.prog.info? 39).map (·.size) = some cs.length from by rw [hsize]; kernel_rfl)
  obtain ⟨bs, hbs⟩ : ∃ bs, bs = tBlock.enc x := ⟨_, rfl⟩
  have hal1 := (Below.refl w.heap.size w).alloc (Nat.le_refl _) (.cells cs.toArray 39)
  have h0 := Sh.rep_below h hal1
  have hA := block_any _ h0 hl
  rw [← hbs] at hl hpos hdec hA
  have HA := Lib.hid hA
  have HX := Lib.hid (Blk.new w 39 cs.toArray)
  have HB1 := Lib.hid hal1
  have HR := Lib.hid h
  have HL := Lib.hid hl
  have HBS := Lib.hid hbs
  have HS := Lib.hid hS
  have HP := Lib.hid hp
  have HD := Lib.hid hdec
  have H1 := Lib.hid h1
  clear h hl hbs hsize hwf hdec hal1 h0 hA hS hp h1
  go_enter Tryz.func8, Tryz.ntmps8
  go_wp2_with (refine wpList_load_blk' rfl 39 _ rfl HX.out rfl Tryz.underlying39 rfl HI.out ?_)
  refine HA.out.mono ?_
  rintro e w2 ⟨v, rfl, f2⟩
  obtain ⟨A, cap, rfl⟩ := f2.1.form
  have hB2 := HB1.out.trans (f2.2.mono HB1.out.size)
  have HX2 := Lib.hid (HX.out.below f2.2 HX.out.lt)
  have HF2 := Lib.hid f2
  have HB2 := Lib.hid hB2
  clear hB2 f2 HA HX
  go_wp2_with fail
  -- REGION 2
  have hx := HX2.out.drew
  have hf := HF2.out.1.drew
  have hb := HB2.out.drew
  refine wp_region_segsV [([0, 1, 2], [3]), ([4, 5], [])] (by kernel_rfl) (by kernel_rfl) (by kernel_rfl) (by kernel_rfl) (SegV.mk (fun w' => Blk w' w.heap.size 39 cs.toArray ∧ Bs w' (fun b => w.heap.size + 1 ≤ b) (.slice A bs.length cap) bs) (fun _ _ => trivial) ⟨hx, hf.sub fun b hb _ => by simpa using hb.1⟩ ?_)
  (refine HoistK.yes (by rfl) (by kernel_rfl) ⟨?_, fun w' hSw => ?_, ?_⟩; rotate_left; (· go_simp; try with_reducible rfl); simp only [Act.put, List.setIfInBounds_toArray, List.getElem_toArray, List.getElem_cons_zero, List.set_cons_succ, List.set_cons_zero])
  (refine HoistK.yes (by rfl) (by kernel_rfl) ⟨?_, fun w' hSw => ?_, ?_⟩; rotate_left; (· have e1 := run_str hSw.2 Tryz.underlying50 Tryz.underlying5 Tryz.underlying9; go_simp; try with_reducible rfl); simp only [Act.put, List.setIfInBounds_toArray, List.getElem_toArray, List.getElem_cons_succ, List.getElem_cons_zero, List.set_cons_succ, List.set_cons_zero])
  (refine HoistK.load (by rfl) (by kernel_rfl) 39 _ rfl w.heap.size 0 rfl cs _ (fun w' hw => hw.1.range) Tryz.underlying39 rfl HI.out ?_; simp only [Act.put, List.setIfInBounds_toArray, List.getElem_toArray, List.getElem_cons_succ, List.getElem_cons_zero, List.set_cons_succ, List.set_cons_zero])
  refine HoistK.nil_ ?_
  simp only [opsAt, List.filterMap_cons, List.filterMap_nil, List.getElem?_toArray, List.getElem?_cons_succ, List.getElem?_cons_zero]
  refine EffS.cons_ fun _ hQ => ?_
  have hr := rBlock_any _ (Sh.rep_below HR.out hb) (by rw [← HBS.out]; exact HL.out)
  rw [← HBS.out] at hr
  have HRR := Lib.hid hr
  clear hr hx hf hb
  go_wp2_with fail
  refine HRR.out.mono ?_
  rintro e w3 ⟨v3, rfl, f3⟩
  obtain ⟨A3, c3, rfl⟩ := f3.1.form
  have hx := HX2.out.drew.below f3.2 HX2.out.drew.lt
  have hf := HF2.out.1.drew.below f3.2
  have hb := HB2.out.drew.trans (f3.2.mono HB2.out.drew.size)
  have HX3 := Lib.hid hx
  have HF3 := Lib.hid hf
  have HB3 := Lib.hid hb
  have HS23 := Lib.hid (show Below w2.heap.size w2 w3 from ((Below.refl _ w2).drew).trans f3.2)
  have hf3 := f3.1
  clear f3 HRR HX2 HF2 HB2
  go_wp2_with fail
  refine hQ _ _ ⟨hx, hf.sub fun b hb _ => by simpa using hb.1⟩ (EffS.nil_ (SegV.mk (fun w' => (Blk w' w.heap.size 39 cs.toArray ∧ Bs w' (fun b => w.heap.size + 1 ≤ b) (.slice A bs.length cap) bs) ∧ Bs w' (fun b => w2.heap.size ≤ b) (.slice A3 bs.length c3) bs) (fun _ h => h.1) ⟨⟨hx, hf.sub fun b hb _ => by simpa using hb.1⟩, hf3.sub fun b hb _ => hb.1⟩ ?_))
  (refine HoistK.yes (by rfl) (by kernel_rfl) ⟨?_, fun w' hSw => ?_, ?_⟩; rotate_left; (· have e1 := run_str hSw.2 Tryz.underlying50 Tryz.underlying5 Tryz.underlying9; go_simp; try with_reducible rfl); simp only [Act.put, List.setIfInBounds_toArray, List.getElem_toArray, List.getElem_cons_succ, List.getElem_cons_zero, List.set_cons_succ, List.set_cons_zero])
  (refine HoistK.yes (by rfl) (by kernel_rfl) ⟨?_, fun w' hSw => ?_, ?_⟩; rotate_left; (· go_simp; try with_reducible rfl); simp only [Act.put, List.setIfInBounds_toArray, List.getElem_toArray, List.getElem_cons_succ, List.getElem_cons_zero, List.set_cons_succ, List.set_cons_zero])
  refine HoistK.nil_ ?_
  simp only [opsAt, List.filterMap_nil, List.getElem?_toArray]
  refine EffS.nil_ fun _ hQ => ?_
  go_wp2_with fail
  refine (ReadBlock_any _ HF3.out (HP.out.below HB3.out)).mono ?_
  rintro e w4 ⟨hb4, C, n, rfl, hCl, hC1, hn⟩
  have hsz3 := HB3.out.size
  have HX4 := Lib.hid (HX3.out.below hb4 HX3.out.lt)
  have HF4 := Lib.hid (HF3.out.below hb4)
  have HB4 := Lib.hid (HB3.out.trans (hb4.mono HB3.out.size))
  have hs34 := hb4.size
  have HS34 := Lib.hid hb4
  have HCL := Lib.hid hCl
  have HC1 := Lib.hid hC1
  have HN := Lib.hid hn
  have HCI := Lib.hid (show (Tryz.prog.info? 39).map (·.size) = some C.length from by rw [hCl]; kernel_rfl)
  have HZL := Lib.hid (show zFBlock.length = C.length from by rw [hCl]; rfl)
  clear hCl hC1 hn HF3 HX3 HB3 hb4
  by_cases hbig : 262144 < bs.length
  · obtain rfl : n = 4 := by
      rcases HN.out with ⟨_, h⟩ | ⟨h, _⟩
      · exact h
      · omega
    go_wp2_with (refine wpList_store_blk (cs0 := zFBlock) (cs := C) rfl 39 _ _ rfl (Blk.new w4 _ _) rfl rfl HZL.out HCI.out HC1.out ?_; intro w5 hy5 hc5; have HY5 := Lib.hid hy5; have HC5 := Lib.hid (show Chg (fun _ => False) w4 w5 from ((Chg.refl _ w4).alloc _).trans hc5 fun b h => .inr (Nat.le_of_eq h.symm)); clear hy5 hc5)
    go_ret
    exact ⟨rfl, HB4.out.trans (HC5.out.below HB4.out.size fun b h => h.elim)⟩
  obtain ⟨hrep, rfl⟩ : tBlock.rep w4 (fun b => w3.heap.size ≤ b) x C ∧ n = 0 := by
    rcases HN.out with ⟨h, _⟩ | ⟨_, ⟨y, h1, h2, h3⟩ | ⟨h1, _⟩⟩
    · omega
    · rw [HD.out] at h1
      injection h1 with h1
      subst h1
      exact ⟨h3, h2⟩
    · rw [HD.out] at h1; cases h1
  have HREP := Lib.hid hrep
  clear hrep HN
  go_wp2_with (refine wpList_store_blk (cs0 := zFBlock) (cs := C) rfl 39 _ _ rfl (Blk.new w4 _ _) rfl rfl HZL.out HCI.out HC1.out ?_; intro w5 hy5 hc5; have HY5 := Lib.hid hy5; have HC5 := Lib.hid (show Chg (fun _ => False) w4 w5 from ((Chg.refl _ w4).alloc _).trans hc5 fun b h => .inr (Nat.le_of_eq h.symm)); clear hy5 hc5)
  have HF5 := Lib.hid (HF4.out.chg HC5.out fun _ _ h => h)
  obtain ⟨B, off, rfl, hBw, hBlt, cB, tB, hbB, hcell⟩ : ∃ B off, A = some ⟨B, off, none⟩ ∧ w.heap.size + 1 ≤ B ∧ B < w3.heap.size ∧ ∃ cB tB, Blk w5 B tB cB ∧ ∀ j, j < bs.length → ∃ y : Nat, y < 256 ∧ cB[off + j]? = some (.int .u8 y) := by
    obtain ⟨⟨hn, A', c', e, _, _, hp⟩, _⟩ := HF5.out
    injection e with e
    subst e
    obtain ⟨B, off, rfl, ⟨hw1, cs', t', hth⟩, hlt, hc⟩ := hp hpos
    have hB2 : B < w2.heap.size := (Array.getElem?_eq_some_iff.1 hth).1
    have hB3 := Nat.lt_of_lt_of_le hB2 HS23.out.size
    have h5 : Blk w5 B t' cs' := by
      show w5.heap[B]? = _
      rw [HC5.out.block B (Nat.lt_of_lt_of_le hB3 hs34) id, HS34.out.block B hB3, HS23.out.block B hB2]
      exact hth
    refine ⟨B, off, rfl, by simpa using hw1, hB3, cs', t', h5, fun j hj => ⟨bs[j].toNat, UInt8.toNat_lt _, ?_⟩⟩
    rw [← h5.cell, hc j _ (u8s_get bs j hj)]
  go_loopw [27] (fun i wr => ∃ k : Nat, k ≤ bs.length ∧ i = .int .i64 k ∧ (∃ c, Hid (Blk wr B tB c ∧ ∀ j, j < bs.length → ∃ y : Nat, y < 256 ∧ c[off + j]? = some (.int .u8 y))) ∧ Chg (fun b => b = B) w5 wr) (fun i _ => bs.length - (intOf i).toNat)
  case atStart => exact ⟨0, Nat.zero_le _, rfl, ⟨cB, Lib.hid ⟨hbB, hcell⟩⟩, Chg.refl _ _⟩
  case round =>
    obtain ⟨k, hk, rfl, ⟨c, hC⟩, hch⟩ := hrel
    by_cases hlt : k < bs.length
    · obtain ⟨y, hy, hc⟩ := hC.out.2 k hlt
      have hcc : wr.cell? ⟨B, off + k, none⟩ = some (.int .u8 y) := by rw [hC.out.1.cell]; exact hc
      have hz := hC.out.1.frozen (off + k)
      go_wp2
      refine ⟨⟨k + 1, by omega, by push_cast; rfl, ⟨c.setIfInBounds (off + k) _, Lib.hid ⟨hC.out.1.set_ _ _, fun j hj => ?_⟩⟩, hch.setIn _ _⟩, by simp only [intOf]; omega⟩
      by_cases e : j = k
      · subst e
        refine ⟨y ^^^ 85, Nat.xor_lt_two_pow (n := 8) (by omega) (by omega), ?_⟩
        rw [Array.getElem?_setIfInBounds_self_of_lt (Array.getElem?_eq_some_iff.1 hc).1]
        have := u8_xor_nat y 85 hy (by omega)
        exact congrArg (fun z => some (Value.int .u8 z)) this
      · obtain ⟨y', h1, h2⟩ := hC.out.2 j hj
        exact ⟨y', h1, by rw [Array.getElem?_setIfInBounds_ne (by omega)]; exact h2⟩
    · have hx := ((HX4.out.chg HC5.out id).chg hch fun e => by have e : w.heap.size = B := e; omega).drew
      have hy := (HY5.out.chg hch fun e => by have e : w4.heap.size = B := e; omega).drew
      have hb5 := HB4.out.trans (HC5.out.below HB4.out.size fun b h => h.elim)
      have hbr := (hb5.trans (hch.below hb5.size fun b h => by have h : b = B := h; omega)).drew
      have hrx := Sh.rep_below HR.out hbr
      have hry : tBlock.rep wr.drew (fun b => w3.heap.size ≤ b) x C := Sh.rep_chg (Sh.rep_chg HREP.out HC5.out fun _ _ h => h) hch.drew fun b h1 h2 => by have h2 : b = B := h2; omega
      have HRX := Lib.hid hrx
      have HRY := Lib.hid hry
      have HBR := Lib.hid hbr
      have hl : (tBlock.enc x).length ≤ 1099511627776 := by rw [← HBS.out]; exact HL.out
      clear hC hbB hcell
      go_wp2_with fail
      refine wp_region_segsV [([0, 1, 2, 3, 6], [4]), ([5], [7]), ([8, 9, 10], [11])] (by kernel_rfl) (by kernel_rfl) (by kernel_rfl) (by kernel_rfl) (SegV.mk (fun w' => Blk w' w.heap.size 39 cs.toArray ∧ Blk w' w4.heap.size 39 C.toArray) (fun _ _ => trivial) ⟨hx, hy⟩ ?_)
      (refine HoistK.yes (by rfl) (by kernel_rfl) ⟨?_, fun w' hSw => ?_, ?_⟩; rotate_left; (· go_simp; try with_reducible rfl); simp only [Act.put, List.setIfInBounds_toArray, List.getElem_toArray, List.getElem_cons_zero, List.set_cons_succ, List.set_cons_zero])
      (refine HoistK.yes (by rfl) (by kernel_rfl) ⟨?_, fun w' hSw => ?_, ?_⟩; rotate_left; (· go_simp; try with_reducible rfl); simp only [Act.put, List.setIfInBounds_toArray, List.getElem_toArray, List.getElem_cons_succ, List.getElem_cons_zero, List.set_cons_succ, List.set_cons_zero])
      (refine HoistK.yes (by rfl) (by kernel_rfl) ⟨?_, fun w' hSw => ?_, ?_⟩; rotate_left; (· go_simp; try with_reducible rfl); simp only [Act.put, List.setIfInBounds_toArray, List.getElem_toArray, List.getElem_cons_succ, List.getElem_cons_zero, List.set_cons_succ, List.set_cons_zero])
      (refine HoistK.load (by rfl) (by kernel_rfl) 39 _ rfl w4.heap.size 0 rfl C _ (fun w' hw => hw.2.range) Tryz.underlying39 rfl HCI.out ?_; simp only [Act.put, List.setIfInBounds_toArray, List.getElem_toArray, List.getElem_cons_succ, List.getElem_cons_zero, List.set_cons_succ, List.set_cons_zero])
      (refine HoistK.load (by rfl) (by kernel_rfl) 39 _ rfl w.heap.size 0 rfl cs _ (fun w' hw => hw.1.range) Tryz.underlying39 rfl HI.out ?_; simp only [Act.put, List.setIfInBounds_toArray, List.getElem_toArray, List.getElem_cons_succ, List.getElem_cons_zero, List.set_cons_succ, List.set_cons_zero])
      refine HoistK.nil_ ?_
      simp only [opsAt, List.filterMap_cons, List.filterMap_nil, List.getElem?_toArray, List.getElem?_cons_succ, List.getElem?_cons_zero]
      refine EffS.cons_ fun _ hQ => ?_
      have HC1' := Lib.hid (rBlock_any _ HRY.out hl)
      go_wp2_with fail
      refine HC1'.out.mono ?_
      rintro e w6 ⟨v6, rfl, f6⟩
      rw [← HBS.out] at f6
      obtain ⟨A6, c6, rfl⟩ := f6.1.form
      have hx6 := hx.below f6.2 hx.lt
      have hy6 := hy.below f6.2 hy.lt
      have HB6 := Lib.hid (HBR.out.trans (f6.2.mono HBR.out.size))
      have hf6 := f6.1
      clear f6 HC1'
      go_wp2_with fail
      refine hQ _ _ ⟨hx6, hy6⟩ (EffS.nil_ (SegV.mk (fun w' => (Blk w' w.heap.size 39 cs.toArray ∧ Blk w' w4.heap.size 39 C.toArray) ∧ Bs w' (fun b => wr.heap.size ≤ b) (.slice A6 bs.length c6) bs) (fun _ h => h.1) ⟨⟨hx6, hy6⟩, hf6.sub fun b hb _ => hb.1⟩ ?_))
      (refine HoistK.yes (by rfl) (by kernel_rfl) ⟨?_, fun w' hSw => ?_, ?_⟩; rotate_left; (· have e1 := run_str hSw.2 Tryz.underlying50 Tryz.underlying5 Tryz.underlying9; go_simp; try with_reducible rfl); simp only [Act.put, List.setIfInBounds_toArray, List.getElem_toArray, List.getElem_cons_succ, List.getElem_cons_zero, List.set_cons_succ, List.set_cons_zero])
      refine HoistK.nil_ ?_
      simp only [opsAt, List.filterMap_cons, List.filterMap_nil, List.getElem?_toArray, List.getElem?_cons_succ, List.getElem?_cons_zero]
      refine EffS.cons_ fun _ hQ => ?_
      have HC2' := Lib.hid (rBlock_any _ (Sh.rep_below HR.out HB6.out) hl)
      go_wp2_with fail
      refine HC2'.out.mono ?_
      rintro e w7 ⟨v7, rfl, f7⟩
      rw [← HBS.out] at f7
      obtain ⟨A7, c7, rfl⟩ := f7.1.form
      have hx7 := hx6.below f7.2 hx6.lt
      have hy7 := hy6.below f7.2 hy6.lt
      have HB7 := Lib.hid (HB6.out.trans (f7.2.mono HB6.out.size))
      have hf67 := hf6.below f7.2
      have hf7 := f7.1
      clear f7 HC2'
      go_wp2_with fail
      refine hQ _ _ ⟨⟨hx7, hy7⟩, hf67.sub fun b hb _ => hb.1⟩ (EffS.nil_ (SegV.mk (fun w' => ((Blk w' w.heap.size 39 cs.toArray ∧ Blk w' w4.heap.size 39 C.toArray) ∧ Bs w' (fun b => wr.heap.size ≤ b) (.slice A6 bs.length c6) bs) ∧ Bs w' (fun b => w6.heap.size ≤ b) (.slice A7 bs.length c7) bs) (fun _ h => h.1) ⟨⟨⟨hx7, hy7⟩, hf67.sub fun b hb _ => hb.1⟩, hf7.sub fun b hb _ => hb.1⟩ ?_))
      (refine HoistK.yes (by rfl) (by kernel_rfl) ⟨?_, fun w' hSw => ?_, ?_⟩; rotate_left; (· have e1 := run_str hSw.2 Tryz.underlying50 Tryz.underlying5 Tryz.underlying9; go_simp; try with_reducible rfl); simp only [Act.put, List.setIfInBounds_toArray, List.getElem_toArray, List.getElem_cons_succ, List.getElem_cons_zero, List.set_cons_succ, List.set_cons_zero])
      (refine HoistK.yes (by rfl) (by kernel_rfl) ⟨?_, fun w' hSw => ?_, ?_⟩; rotate_left; (· go_simp; try with_reducible rfl); simp only [Act.put, List.setIfInBounds_toArray, List.getElem_toArray, List.getElem_cons_succ, List.getElem_cons_zero, List.set_cons_succ, List.set_cons_zero])
      (refine HoistK.yes (by rfl) (by kernel_rfl) ⟨?_, fun w' hSw => ?_, ?_⟩; rotate_left; (· go_simp; try with_reducible rfl); simp only [Act.put, List.setIfInBounds_toArray, List.getElem_toArray, List.getElem_cons_succ, List.getElem_cons_zero, List.set_cons_succ, List.set_cons_zero])
      refine HoistK.nil_ ?_
      simp only [opsAt, List.filterMap_cons, List.filterMap_nil, List.getElem?_toArray, List.getElem?_cons_succ, List.getElem?_cons_zero]
      refine EffS.cons_ fun _ hQ => ?_
      go_wp2_with fail
      refine hQ _ _ ⟨⟨⟨hx7, hy7⟩, hf67.sub fun b hb _ => hb.1⟩, hf7.sub fun b hb _ => hb.1⟩ (EffS.nil_ fun _ hQ => ?_)
      go_wp2_with fail
      go_ret
      exact ⟨rfl, HB7.out⟩
end Go.Proofs.YtjjgmkfkmckkoabGreatDoor
